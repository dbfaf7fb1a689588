/-
  What the walks through the program rest on: values, states, steps, calls (EaPlain, HaCopy, EbRef, CyPlain, EcRefer, AbSort, EgComp, AbTwin, AbCut, AbGrow, AbEntry, HbLeaf, HdKeys, HeMap, LayD, HfRead, VaNames, AbNamedY).
-/
import Derived.Test.YthboenlglkmnjaaDoorPartB
import Derived.Shelf.SlSortCmp.NoneTotal
import Derived.Shelf.SlicesE.DeleteFunc
import Derived.WideKeyEntry
import Derived.Test.YthboenlglkmnjaaDoorProg
import Derived.WalkKit
import Derived.Test.YthboenlglkmnjaaDoorPartA
namespace Go.AB
open Go Go.RowKit
open Go.AB.Enc (cells)
open Go.PB (Chap bd PlaceD bh CopyD bw)
structure zg where
 ch : Int
 ln : Int
 tc : Int
 tl : Int
 n : Int
 deriving DecidableEq
/-! ### The words of a line -/
def dm (t : bd) (p : L2) : Option (List ByteArray) := bif inB p.1 0 ((t.length : Int) - 1) && inB p.2 0 ((jg t p.1 : Int) - 1) then (t[p.1.toNat]?).bind (fun c => c.lines[p.2.toNat]?) else none
def fp (t : bd) (p : PlaceD) : Bool := match dm t (p.ch, p.ln) with
 | some l => inB p.wd 0 ((l.length : Int) - 1)
 | none => false
theorem o9 {t : bd} {k n : Nat} {c : Chap} {l : List ByteArray} (hc : t[k]? = some c) (hl : c.lines[n]? = some l) : dm t ((k : Int), (n : Int)) = some l := by
 have h1 := (List.getElem?_eq_some_iff.1 hc).1
 have h2 := (List.getElem?_eq_some_iff.1 hl).1
 have h3 : jg t (k : Int) = c.lines.length := vy rfl hc
 have e1 : inB (k : Int) 0 ((t.length : Int) - 1) = true := inB_true.2 (by omega)
 have e2 : inB (n : Int) 0 ((jg t (k : Int) : Int) - 1) = true := inB_true.2 (by omega)
 simp only [dm, e1, e2, Bool.and_self, cond_true, Int.toNat_natCast, hc, Option.bind_some, hl]
theorem nn {t : bd} {p : L2} {l : List ByteArray} (h : dm t p = some l) : ∃ (k n : Nat) (c : Chap), p = ((k : Int), (n : Int)) ∧ t[k]? = some c ∧ c.lines[n]? = some l := by
 unfold dm at h
 cases h1 : inB p.1 0 ((t.length : Int) - 1) with
 | false => rw [h1] at h; cases h
 | true =>
  cases h2 : inB p.2 0 ((jg t p.1 : Int) - 1) with
  | false => rw [h1, h2] at h; cases h
  | true =>
   rw [h1, h2] at h
   simp only [Bool.and_self, cond_true] at h
   rw [inB_true] at h1 h2
   cases hc : t[p.1.toNat]? with
   | none => rw [hc] at h; cases h
   | some c =>
    rw [hc, Option.bind_some] at h
    exact ⟨p.1.toNat, p.2.toNat, c, by rw [Prod.ext_iff]; constructor <;> (dsimp only; omega), hc, h⟩
theorem placeB_true {t : bd} {p : PlaceD} : fp t p = true ↔ ∃ l, dm t (p.ch, p.ln) = some l ∧ 0 ≤ p.wd ∧ p.wd < l.length := by
 unfold fp
 cases h : dm t (p.ch, p.ln) with
 | none => simp
 | some l =>
  simp only [inB_true, Option.some.injEq]
  constructor
  ·exact fun h => ⟨l, rfl, by omega, by omega⟩
  ·rintro ⟨l', rfl, h1, h2⟩; omega
theorem nm {t : bd} (ht : ck t = true) {p : L2} {l : List ByteArray} (h : dm t p = some l) : 0 ≤ p.1 ∧ p.1 ≤ 5 ∧ 0 ≤ p.2 ∧ p.2 ≤ 9 ∧ 1 ≤ l.length ∧ l.length ≤ 10 := by
 obtain ⟨k, n, c, rfl, hc, hl⟩ := nn h
 obtain ⟨h1, h2, h3⟩ := i3 ht
 obtain ⟨h4, h5, h6⟩ := h3 c (List.mem_of_getElem? hc)
 have h7 := h6 l (List.mem_of_getElem? hl)
 have h8 := (List.getElem?_eq_some_iff.1 hc).1
 have h9 := (List.getElem?_eq_some_iff.1 hl).1
 dsimp only
 omega
theorem mem_rows {t : bd} {ss : List i2} {r : RowD} : r ∈ j9 t ss ↔ ∃ p l, dm t p = some l ∧ r = rr ss p l.length := by
 unfold j9
 constructor
 ·intro h
  obtain ⟨l, hl, hr⟩ := List.mem_flatten.1 h
  obtain ⟨k, hk, rfl⟩ := List.mem_mapIdx.1 hl
  obtain ⟨n, hn, rfl⟩ := List.mem_mapIdx.1 hr
  exact ⟨_, _, o9 (List.getElem?_eq_getElem hk) (List.getElem?_eq_getElem hn), rfl⟩
 ·rintro ⟨p, l, hw, rfl⟩
  obtain ⟨k, n, c, rfl, hc, hl⟩ := nn hw
  have h8 := (List.getElem?_eq_some_iff.1 hc)
  have h9 := (List.getElem?_eq_some_iff.1 hl)
  refine List.mem_flatten.2 ⟨_, List.mem_mapIdx.2 ⟨k, h8.1, rfl⟩, List.mem_mapIdx.2 ⟨n, by rw [h8.2]; exact h9.1, ?_⟩⟩
  congr 2
  simp only [h8.2, h9.2]
theorem mem_lines {t : bd} {p : L2} : p ∈ mj t ↔ ∃ l, dm t p = some l := by
 rw [← uj t [], List.mem_map]
 constructor
 ·rintro ⟨r, hr, rfl⟩
  obtain ⟨q, l, hw, rfl⟩ := mem_rows.1 hr
  exact ⟨l, hw⟩
 ·rintro ⟨l, hw⟩
  exact ⟨_, mem_rows.2 ⟨p, l, hw, rfl⟩, rfl⟩
/-! ### References -/
/-! ### Where they lead -/
/-! ### Two editions -/
/-! ### Lines in order -/
/-- numbers of a line that leads -/
structure PBd (m : Int) (x : zg) : Prop where
 ch : 0 ≤ x.ch ∧ x.ch ≤ 999
 ln : 0 ≤ x.ln ∧ x.ln ≤ 999
 tc : 0 ≤ x.tc ∧ x.tc ≤ 999
 tl : 0 ≤ x.tl ∧ x.tl ≤ 999
 n : 1 ≤ x.n ∧ x.n ≤ m
theorem PBd.mono {m m' : Int} {x : zg} (h : PBd m x) (hm : m ≤ m') : PBd m' x := ⟨h.ch, h.ln, h.tc, h.tl, h.n.1, by have := h.n.2; omega⟩
/-! ### A list into which one is put -/
theorem o8 {t : bd} {p : L2} : (dm t p).isSome = (inB p.1 0 ((t.length : Int) - 1) && inB p.2 0 ((jg t p.1 : Int) - 1)) := by
 unfold dm
 cases h1 : inB p.1 0 ((t.length : Int) - 1) with
 | false => rfl
 | true =>
  cases h2 : inB p.2 0 ((jg t p.1 : Int) - 1) with
  | false => rfl
  | true =>
   simp only [Bool.and_self, cond_true]
   rw [inB_true] at h1 h2
   have hk : p.1.toNat < t.length := by omega
   have hn : jg t p.1 = t[p.1.toNat].lines.length := vy (k := p.1.toNat) (by omega) (List.getElem?_eq_getElem hk)
   rw [List.getElem?_eq_getElem hk, Option.bind_some, List.getElem?_eq_getElem (by omega)]
   rfl
/-! ### What is found first -/
end Go.AB
namespace Go.AB
open Go Go.RowKit
open Go.AB.Enc (cells)
open Go.PB (Chap bd PlaceD bh CopyD bw)
/-- the readings of a place, in their order -/
def dl (rs : List bh) (p : PlaceD) : List bh := rs.filter fun r => decide (r.pl = p)
/-- what a reading makes of the words ahead, and of the word that stands there -/
def i4 (a : List ByteArray × ByteArray) (r : bh) : List ByteArray × ByteArray := bif decide (r.kind = 2) then (a.1 ++ [r.word], a.2) else (a.1, r.word)
def fu (a : List ByteArray × ByteArray) : List ByteArray := bif decide (a.2 = ByteArray.empty) then a.1 else a.1 ++ [a.2]
def ci (l : List ByteArray) (w : Nat) : ByteArray := (l[w]?).getD ByteArray.empty
/-- the words of a copy in a place -/
def nd (rs : List bh) (ch ln : Int) (l : List ByteArray) (w : Nat) : List ByteArray := fu ((dl rs ⟨ch, ln, w⟩).foldl i4 ([], ci l w))
def kb (rs : List bh) (ch ln : Int) (l : List ByteArray) (m : Nat) : List ByteArray := (List.range m).flatMap (nd rs ch ln l)
/-- a line of a copy -/
def gz (rs : List bh) (ch ln : Int) (l : List ByteArray) : List ByteArray := kb rs ch ln l (l.length + 1)
theorem m3 (rs : List bh) (ch ln : Int) (l : List ByteArray) (m : Nat) : kb rs ch ln l (m + 1) = kb rs ch ln l m ++ nd rs ch ln l m := by
 unfold kb
 rw [List.range_succ, List.flatMap_append]
 simp
def ef (rs : List bh) (k : Nat) (c : Chap) : Chap := ⟨c.id, c.lines.mapIdx fun n l => gz rs (k : Int) (n : Int) l⟩
/-- the text of a copy -/
def c9 (t : bd) (rs : List bh) : bd := t.mapIdx (ef rs)
/-! ### Valid copies -/
def fo (t : bd) (r : bh) : Bool := match dm t (r.pl.ch, r.pl.ln) with
 | none => false
 | some l => bif decide (r.kind = 1) then inB r.pl.wd 0 ((l.length : Int) - 1) && decide (r.word = ByteArray.empty)
  else bif decide (r.kind = 2) then inB r.pl.wd 0 (l.length : Int) && e8 r.word
  else bif decide (r.kind = 3) then inB r.pl.wd 0 ((l.length : Int) - 1) && (e8 r.word && !decide (r.word = ci l r.pl.wd.toNat)) else false
/-- which of two places comes first -/
def gt (a b : PlaceD) : Int := bif decide (a.ch = b.ch) then (bif decide (a.ln = b.ln) then (bif decide (a.wd < b.wd) then -1 else bif decide (b.wd < a.wd) then 1 else 0) else bif decide (a.ln < b.ln) then -1 else 1) else bif decide (a.ch < b.ch) then -1 else 1
def l7 (a b : bh) : Bool := !decide (0 < gt a.pl b.pl) && !(decide (a.pl = b.pl) && !decide (a.kind = 2))
/-- each reading goes well with the one ahead of it -/
def fa : List bh → Bool
 | [] => true
 | [_] => true
 | a :: b :: l => l7 a b && fa (b :: l)
def p4 (t : bd) (rs : List bh) : Bool := (c9 t rs).all fun c => c.lines.all fun l => inB l.length 1 10
def rsB (t : bd) (rs : List bh) : Bool := rs.all (fo t) && fa rs
def eo (t : bd) (c : CopyD) : Bool := inB c.id 0 9999 && decide (c.rs.length ≤ 20) && rsB t c.rs && p4 t c.rs
theorem cmpP_zero {a b : PlaceD} : gt a b = 0 ↔ a = b := by
 obtain ⟨a1, a2, a3⟩ := a
 obtain ⟨b1, b2, b3⟩ := b
 simp only [gt, PlaceD.mk.injEq, Bool.cond_decide]
 repeat' split
 all_goals (constructor <;> intro h <;> omega)
theorem cmpP_le {a b : PlaceD} : ¬ 0 < gt a b ↔ (a.ch < b.ch ∨ (a.ch = b.ch ∧ (a.ln < b.ln ∨ (a.ln = b.ln ∧ a.wd ≤ b.wd)))) := by
 simp only [gt, Bool.cond_decide]
 repeat' split
 all_goals (constructor <;> intro h <;> omega)
theorem stepB_true {a b : bh} : l7 a b = true ↔ (¬ 0 < gt a.pl b.pl ∧ (a.pl = b.pl → a.kind = 2)) := by
 simp only [l7, Bool.and_eq_true, Bool.not_eq_true', decide_eq_false_iff_not, Bool.and_eq_false_iff, Bool.not_eq_false', decide_eq_true_eq]
 constructor
 ·rintro ⟨h1, h2⟩
  exact ⟨h1, fun e => h2.resolve_left (fun h => h e)⟩
 ·rintro ⟨h1, h2⟩
  refine ⟨h1, ?_⟩
  by_cases e : a.pl = b.pl
  ·exact .inr (h2 e)
  ·exact .inl e
/-- .. and so does any with any ahead of it -/
def oz (rs : List bh) : Prop := rs.Pairwise fun a b => ¬ 0 < gt a.pl b.pl ∧ (a.pl = b.pl → a.kind = 2)
theorem orderB_true : ∀ {rs : List bh}, fa rs = true ↔ oz rs
 | [] => by simp [fa, oz]
 | [a] => by simp [fa, oz]
 | a :: b :: l => by
  rw [fa, Bool.and_eq_true, stepB_true, orderB_true]
  constructor
  ·rintro ⟨h1, h2⟩
   refine List.pairwise_cons.2 ⟨fun c hc => ?_, h2⟩
   rcases List.mem_cons.1 hc with rfl | hc
   ·exact h1
   ·have h3 := (List.pairwise_cons.1 h2).1 c hc
    have e1 := cmpP_le.1 h1.1
    have e2 := cmpP_le.1 h3.1
    refine ⟨cmpP_le.2 (by omega), fun e => h1.2 ?_⟩
    rw [← e] at e2
    obtain ⟨⟨a1, a2, a3⟩, _, _⟩ := a
    obtain ⟨⟨b1, b2, b3⟩, _, _⟩ := b
    simp only [PlaceD.mk.injEq] at e1 e2 ⊢
    omega
  ·intro h
   obtain ⟨h1, h2⟩ := List.pairwise_cons.1 h
   exact ⟨h1 b (List.mem_cons_self ..), h2⟩
theorem vu {rs : List bh} {k : Nat} {r : bh} (hk : rs[k]? = some r) : fa (rs.take (k + 1)) = (fa (rs.take k) && bif decide (k = 0) then true else match rs[k - 1]? with | some a => l7 a r | none => true) := by
 induction rs generalizing k with
 | nil => simp at hk
 | cons a l ih =>
  cases k with
  | zero => simp [fa]
  | succ k =>
   rw [List.getElem?_cons_succ] at hk
   cases l with
   | nil => simp at hk
   | cons b l =>
    cases k with
    | zero =>
     simp only [List.getElem?_cons_zero, Option.some.injEq] at hk
     subst hk
     simp [fa]
    | succ k =>
     have := ih hk
     simp only [List.take_succ_cons, fa] at this ⊢
     rw [this]
     simp [Bool.and_assoc]
theorem ubj {rs : List bh} {k : Nat} (h : fa (rs.take k) = false) : fa rs = false := by
 cases h2 : fa rs with
 | false => rfl
 | true => rw [orderB_true.2 (List.Pairwise.sublist (List.take_sublist _ _) (orderB_true.1 h2))] at h; cases h
/-! ### The words of a place, as they come about -/
/-- words in a place: what is put in, and the word that stands there, or what comes for it -/
def dw (own : ByteArray) : List bh → List ByteArray
 | [] => [own]
 | r :: l => bif decide (r.kind = 2) then r.word :: dw own l else bif decide (r.kind = 1) then [] else [r.word]
def py (own : ByteArray) (r : bh) : List ByteArray := bif decide (r.kind = 1) then [] else bif decide (r.kind = 2) then [r.word, own] else [r.word]
theorem pn {own : ByteArray} : ∀ {l : List bh}, (∀ r ∈ l, r.kind = 2) → dw own l = l.map (·.word) ++ [own]
 | [], _ => rfl
 | r :: l, h => by
  rw [dw, decide_eq_true (h r (List.mem_cons_self ..)), cond_true, pn fun x hx => h x (List.mem_cons_of_mem _ hx)]
  rfl
theorem vm {own : ByteArray} {l : List bh} (h : ∀ r ∈ l, r.kind = 2) (r : bh) : dw own (l ++ [r]) = l.map (·.word) ++ py own r := by
 induction l with
 | nil =>
  simp only [List.nil_append, List.map_nil, dw, py]
  by_cases h2 : r.kind = 2
  ·simp [h2, dw]
  ·by_cases h1 : r.kind = 1 <;> simp [h1, h2]
 | cons x l ih =>
  simp only [List.cons_append, List.map_cons, dw, decide_eq_true (h x (List.mem_cons_self ..)), cond_true]
  rw [ih fun y hy => h y (List.mem_cons_of_mem _ hy)]
theorem ru {rs : List bh} (h : oz rs) (p : PlaceD) {k : Nat} {r : bh} (hk : (dl rs p)[k]? = some r) : ∀ x ∈ (dl rs p).take k, x.kind = 2 := fun x hx => by
 have h1 : (dl rs p).Pairwise fun a b => ¬ 0 < gt a.pl b.pl ∧ (a.pl = b.pl → a.kind = 2) := List.Pairwise.sublist List.filter_sublist h
 obtain ⟨j, hj⟩ := List.getElem?_of_mem hx
 rw [List.getElem?_take] at hj
 split at hj
 ·rename_i hjk
  obtain ⟨q1, q2⟩ := List.getElem?_eq_some_iff.1 hj
  obtain ⟨q3, q4⟩ := List.getElem?_eq_some_iff.1 hk
  have := List.pairwise_iff_getElem.1 h1 j k q1 q3 hjk
  rw [q2, q4] at this
  have e1 := (List.mem_filter.1 (List.mem_of_getElem? hj)).2
  have e2 := (List.mem_filter.1 (List.mem_of_getElem? hk)).2
  exact this.2 ((of_decide_eq_true e1).trans (of_decide_eq_true e2).symm)
 ·cases hj
theorem pg {t : bd} {r : bh} (h : fo t r = true) : ∃ l, dm t (r.pl.ch, r.pl.ln) = some l ∧ ((r.kind = 1 ∧ 0 ≤ r.pl.wd ∧ r.pl.wd < l.length ∧ r.word = ByteArray.empty) ∨ (r.kind = 2 ∧ 0 ≤ r.pl.wd ∧ r.pl.wd ≤ l.length ∧ e8 r.word = true) ∨ (r.kind = 3 ∧ 0 ≤ r.pl.wd ∧ r.pl.wd < l.length ∧ e8 r.word = true ∧ r.word ≠ ci l r.pl.wd.toNat)) := by
 unfold fo at h
 cases hw : dm t (r.pl.ch, r.pl.ln) with
 | none => rw [hw] at h; cases h
 | some l =>
  rw [hw] at h
  refine ⟨l, rfl, ?_⟩
  dsimp only at h
  by_cases h1 : r.kind = 1
  ·rw [decide_eq_true h1, cond_true, Bool.and_eq_true, inB_true, decide_eq_true_eq] at h
   exact .inl ⟨h1, h.1.1, by omega, h.2⟩
  ·by_cases h2 : r.kind = 2
   ·rw [decide_eq_false h1, decide_eq_true h2, cond_false, cond_true, Bool.and_eq_true, inB_true] at h
    exact .inr (.inl ⟨h2, h.1.1, h.1.2, h.2⟩)
   ·by_cases h3 : r.kind = 3
    ·rw [decide_eq_false h1, decide_eq_false h2, decide_eq_true h3, cond_false, cond_false, cond_true, Bool.and_eq_true, Bool.and_eq_true, inB_true] at h
     exact .inr (.inr ⟨h3, h.1.1, by omega, h.2.1, by simpa using h.2.2⟩)
    ·rw [decide_eq_false h1, decide_eq_false h2, decide_eq_false h3] at h; cases h
theorem tw {s : ByteArray} (h : e8 s = true) : s ≠ ByteArray.empty := fun e => by
 subst e
 simp [e8, inB] at h
theorem rsB_true {t : bd} {rs : List bh} : rsB t rs = true ↔ (∀ r ∈ rs, fo t r = true) ∧ oz rs := by
 unfold rsB
 rw [Bool.and_eq_true, List.all_eq_true, orderB_true]
/-- what comes about, less what is no word, is what the copy has -/
theorem vn {t : bd} {own : ByteArray} : ∀ {l : List bh}, (∀ r ∈ l, fo t r = true) → (∀ (k : Nat) (r : bh), l[k]? = some r → ∀ x ∈ l.take k, x.kind = 2) → ∀ acc : List ByteArray,
  fu (l.foldl i4 (acc, own)) = acc ++ (dw own l).filter fun s => !decide (s = ByteArray.empty)
 | [], _, _, acc => by
  simp only [List.foldl_nil, fu, dw]
  by_cases h : own = ByteArray.empty <;> simp [h]
 | r :: l, h, hp, acc => by
  obtain ⟨_, _, hk⟩ := pg (h r (List.mem_cons_self ..))
  have hl : r.kind ≠ 2 → l = [] := fun hne => by
   cases l with
   | nil => rfl
   | cons y l => exact absurd (hp 1 y rfl r (by simp)) hne
  rw [List.foldl_cons]
  rcases hk with ⟨k1, _, _, k4⟩ | ⟨k1, _, _, k4⟩ | ⟨k1, _, _, k4, _⟩
  ·have hn := hl (by omega)
   subst hn
   simp [i4, dw, fu, k1, k4]
  ·have e1 : i4 (acc, own) r = (acc ++ [r.word], own) := by simp [i4, k1]
   rw [e1, vn (t := t) (fun x hx => h x (List.mem_cons_of_mem _ hx)) (fun k x hx y hy => hp (k + 1) x hx y (by rw [List.take_succ_cons]; exact List.mem_cons_of_mem _ hy))]
   simp [dw, k1, tw k4]
  ·have hn := hl (by omega)
   subst hn
   simp [i4, dw, fu, k1, tw k4]
theorem uen {t : bd} {rs : List bh} (h : rsB t rs = true) (ch ln : Int) (l : List ByteArray) (w : Nat) : nd rs ch ln l w = (dw (ci l w) (dl rs ⟨ch, ln, w⟩)).filter fun s => !decide (s = ByteArray.empty) := by
 obtain ⟨h1, h2⟩ := rsB_true.1 h
 exact (vn (t := t) (own := ci l w) (l := dl rs ⟨ch, ln, w⟩) (fun r hr => h1 r (List.mem_filter.1 hr).1) (fun k r hk => ru h2 _ hk) []).trans (List.nil_append _)
/-- all that comes about in a line, ahead of the striking -/
def eb (rs : List bh) (ch ln : Int) (l : List ByteArray) (m : Nat) : List ByteArray := (List.range m).flatMap fun w => dw (ci l w) (dl rs ⟨ch, ln, (w : Int)⟩)
theorem n1 (rs : List bh) (ch ln : Int) (l : List ByteArray) (m : Nat) : eb rs ch ln l (m + 1) = eb rs ch ln l m ++ dw (ci l m) (dl rs ⟨ch, ln, (m : Int)⟩) := by
 unfold eb
 rw [List.range_succ, List.flatMap_append]
 simp
theorem pm {t : bd} {rs : List bh} (h : rsB t rs = true) (ch ln : Int) (l : List ByteArray) : ∀ m, (eb rs ch ln l m).filter (fun s => !decide (s = ByteArray.empty)) = kb rs ch ln l m
 | 0 => rfl
 | m + 1 => by rw [n1, m3, List.filter_append, pm h ch ln l m, uen h]
theorem po (own : ByteArray) : ∀ l : List bh, (dw own l).length ≤ l.length + 1
 | [] => by simp [dw]
 | r :: l => by
  have := po own l
  rw [dw]
  by_cases h2 : r.kind = 2
  ·simp [h2]; omega
  ·by_cases h1 : r.kind = 1 <;> simp [h1, h2]
theorem k9 (rs : List bh) (p : PlaceD) : (dl rs p).length ≤ rs.length := List.length_filter_le _ _
theorem my (rs : List bh) (ch ln : Int) (l : List ByteArray) : ∀ m, (eb rs ch ln l m).length ≤ m * (rs.length + 1)
 | 0 => by simp [eb]
 | m + 1 => by
  rw [n1, List.length_append, Nat.add_mul]
  have := my rs ch ln l m
  have := po (ci l m) (dl rs ⟨ch, ln, (m : Int)⟩)
  have := k9 rs ⟨ch, ln, (m : Int)⟩
  omega
/-- the last place of a line has something: a word that is none -/
theorem ua3 {own : ByteArray} {l : List bh} (h : ∀ r ∈ l, r.kind = 2) : dw own l ≠ [] := by
 rw [pn h]; simp
theorem rz {t : bd} {rs : List bh} {k : Nat} : (c9 t rs)[k]? = (t[k]?).map (ef rs k) := by
 unfold c9
 rw [List.getElem?_mapIdx]
end Go.AB
namespace Go.AB
open Go Go.RowKit
open Go.PB (Chap bd PlaceD bh CopyD bw)
theorem ts {t : bd} (ht : ck t = true) (p : L2) : ((dm t p).getD []).length ≤ 10 := by
 cases h : dm t p with
 | none => simp
 | some l => have := nm ht h; simp only [Option.getD_some]; omega
end Go.AB
namespace Go.Proofs.YthboenlglkmnjaaDoor
set_option maxRecDepth 10000
open Go.RowKit Go.AB
open Go.AB.Enc (cells)
open Go.PB (Chap bd PlaceD bh CopyD bw)
theorem uv (t : bd) (p : PlaceD) (ht : ck t = true) : Pure Tryd.prog 42 [dn t, val p] (.tup [lst ((dm t (p.ch, p.ln)).getD []), .v (.bool (dm t (p.ch, p.ln)).isSome)]) := by
 refine cx Tryd.func42 rfl (fun m => .tup (cv (ce _ _) (cv .v de))) fun G nx => ?_
 simp only [Tryd.ntmps42, List.length_cons, List.length_nil, Nat.reduceAdd, Nat.reduceSub]
 refine b9 fun hlt => ?_
 dsimp only at hlt
 obtain ⟨hl1, hl2, hl3⟩ := i3 ht
 refine yS fun _ K1 => ?_
 refine yR ?_
 try dsimp only [St.put]
 refine yB rfl rfl rfl ?_
 try dsimp only [St.put]
 refine yB rfl rfl rfl ?_
 refine yA rfl rfl ?_
 refine yA rfl rfl ?_
 refine yN ?_
 dsimp only [St.put]
 refine K1 _ ?_
 refine yS fun _ K2 => ?_
 refine cg 6 ?_
 refine zQ ?_
 refine ky (X := Bool) (fun b => b = !(dm t (p.ch, p.ln)).isSome) (fun b => [(28, .v (.bool b))]) (fun b G' => G') rfl ?_ (fun _ _ _ _ h => .inl h) ?_ ?_
 ·rintro b hI
  exact zL
 ·refine kx [(0, none), (1, none), (2, none), (3, none), (4, none), (5, none)] (fun _ => false) (fun i => [0, 2, 4, 5].contains i) 17 (rl [6, 17]) (by kernel_rfl) (by kernel_rfl) ?_
  refine ak rfl rfl rfl rfl (bg rfl rfl rfl) ?_
  try dsimp only [St.put]
  refine af rfl rfl rfl rfl (aw rfl rfl) ?_
  refine ak rfl rfl rfl rfl (bg rfl rfl rfl) ?_
  try dsimp only [St.put]
  refine af rfl rfl rfl rfl (aw rfl rfl) ?_
  refine ak rfl rfl rfl rfl (bj rfl rfl (List.length_map _)) ?_
  refine ak rfl rfl rfl rfl (ip rfl rfl rfl (by omega)) ?_
  refine dc ?_
  refine dj [6] (by kernel_rfl) (by simp) ?_
  refine dz ?_ ?_
  ·try dsimp only [St.put]
   refine dr rfl rfl rfl (br rfl rfl rfl (jd _ _ _) ?_)
   refine fm [(7, none), (8, none), (9, none), (10, none), (11, none), (12, none), (13, none), (14, none), (15, none), (16, none), (17, none), (18, none), (19, none)] (fun i => [7, 8, 9, 11, 13, 15, 16, 18, 19].contains i) 3 (rl [20, 3]) (by kernel_rfl) ?_
   refine ak rfl rfl rfl rfl (dt rfl rfl) ?_
   refine xM rfl rfl rfl rfl rfl ?_
   refine k7 (fun hs => ?_) (fun hs => ?_)
   ·have h8 : inB p.ch 0 ((t.length : Int) - 1) = false := by simpa using hs
    refine bp rfl rfl rfl ?_
    refine bp rfl rfl rfl ?_
    refine bp rfl rfl rfl ?_
    refine bp rfl rfl rfl ?_
    refine bp rfl rfl rfl ?_
    refine bp rfl rfl rfl ?_
    refine bp rfl rfl rfl ?_
    refine bp rfl rfl rfl ?_
    refine bp rfl rfl rfl ?_
    refine bp rfl rfl rfl ?_
    refine bp rfl rfl rfl ?_
    refine dc ?_
    refine dj [20] (by kernel_rfl) (by simp) ?_
    refine dz ?_ ?_
    ·refine mp rfl rfl rfl ?_
     refine fm [(21, none), (22, none)] (fun i => [21, 22].contains i) 0 (rl [23]) (by kernel_rfl) ?_
     refine bp rfl rfl rfl ?_
     refine ak rfl rfl rfl rfl (bt rfl rfl (by constructor)) ?_
     refine dc ?_
     dsimp only [St.put]
     refine gw (by kernel_rfl) ?_
     refine ⟨_, ?_, ⟨⟨rfl, rfl⟩, zF, zB, zN, zX⟩⟩
     rw [o8]
     (simp [h8]; done)
    exact d8
   have h8 : inB p.ch 0 ((t.length : Int) - 1) = true := by simpa using hs
   have hn1' := h8
   simp only [inB_true] at hn1'
   obtain ⟨c, hcx⟩ : ∃ c, t[p.ch.toNat]? = some c := cm (by omega)
   have hnl : jg t p.ch = c.lines.length := by simp [jg, hcx]
   have hll := (hl3 c (dv hcx)).2.1
   have hch : p.ch = ((p.ch.toNat : Nat) : Int) := by omega
   refine ak rfl rfl rfl rfl (bg rfl rfl rfl) ?_
   try dsimp only [St.put]
   refine af rfl rfl rfl rfl (aw rfl rfl) ?_
   refine ak rfl rfl rfl rfl (bg rfl rfl rfl) ?_
   try dsimp only [St.put]
   refine af rfl rfl rfl rfl (aw rfl rfl) ?_
   refine ak rfl rfl rfl rfl (bg rfl rfl rfl) ?_
   try dsimp only [St.put]
   refine af rfl rfl rfl rfl (aw rfl rfl) ?_
   try dsimp only [St.put]
   refine ak rfl rfl rfl rfl (bf rfl rfl rfl (by omega) (bm (by assumption)) (Enc.len _)) ?_
   refine ak rfl rfl rfl rfl (bg rfl rfl rfl) ?_
   try dsimp only [St.put]
   refine af rfl rfl rfl rfl (aw rfl rfl) ?_
   refine ak rfl rfl rfl rfl (bj rfl rfl (List.length_map _)) ?_
   refine ak rfl rfl rfl rfl (ip rfl rfl rfl (by omega)) ?_
   refine dc ?_
   refine dj [20] (by kernel_rfl) (by simp) ?_
   refine dz ?_ ?_
   ·try dsimp only [St.put]
    refine dr rfl rfl rfl (br rfl rfl rfl (jd _ _ _) ?_)
    refine fm [(21, none), (22, none)] (fun i => [21, 22].contains i) 0 (rl [23]) (by kernel_rfl) ?_
    refine ak rfl rfl rfl rfl (dt rfl rfl) ?_
    refine ak rfl rfl rfl rfl (bu rfl rfl (by constructor)) ?_
    refine dc ?_
    dsimp only [St.put]
    refine gw (by kernel_rfl) ?_
    refine ⟨_, ?_, ⟨⟨rfl, rfl⟩, zF, zB, zN, zX⟩⟩
    rw [o8]
    (simp [h8, hnl]; done)
   exact d8
  exact d8
 rintro b hst
 dsimp only at hst ⊢
 refine bl rfl (fun hc => ?_) (fun hc => ?_)
 ·have hw : dm t (p.ch, p.ln) = none := by rw [hc] at hst; simpa using hst.symm
  refine yS fun _ K4 => ?_
  refine yR ?_
  refine yA rfl rfl ?_
  refine yA rfl rfl ?_
  refine yN ?_
  dsimp only [St.put]
  refine K4 _ ?_
  refine bk ?_
  refine i1 rfl (ed (by constructor)) (ed (by constructor)) zN zS ?_ ?_
  ·rw [hw]
   exact zW
  rw [hw]; exact Wk.refl _
 have hw0 : (dm t (p.ch, p.ln)).isSome = true := by rw [hc] at hst; simpa using hst.symm
 obtain ⟨l, hw⟩ := Option.isSome_iff_exists.1 hw0
 obtain ⟨k, n, c, hkn, hk, hn⟩ := nn hw
 have hch : p.ch = ((k : Nat) : Int) := congrArg Prod.fst hkn
 have hln : p.ln = ((n : Nat) : Int) := congrArg Prod.snd hkn
 refine bn ?_
 refine K2 _ ?_
 refine yS fun _ K5 => ?_
 refine fw [(0, none), (1, none), (2, none), (3, none), (4, none), (5, none), (6, none), (7, none), (8, none), (9, none), (10, none), (11, none), (12, none)] (fun i => [].contains i) (fun i => [].contains i) (fun i => [0, 2, 4, 5, 7, 9, 11, 12].contains i) [] (by kernel_rfl) (by kernel_rfl) ?_
 refine ak rfl rfl rfl rfl (bg rfl rfl rfl) ?_
 try dsimp only [St.put]
 refine af rfl rfl rfl rfl (aw rfl rfl) ?_
 refine ak rfl rfl rfl rfl (bg rfl rfl rfl) ?_
 try dsimp only [St.put]
 refine af rfl rfl rfl rfl (aw rfl rfl) ?_
 try dsimp only [St.put]
 refine ak rfl rfl rfl rfl (bf rfl rfl rfl (by omega) (bm (by assumption)) (Enc.len _)) ?_
 refine ak rfl rfl rfl rfl (bg rfl rfl rfl) ?_
 try dsimp only [St.put]
 refine af rfl rfl rfl rfl (aw rfl rfl) ?_
 refine ak rfl rfl rfl rfl (bg rfl rfl rfl) ?_
 try dsimp only [St.put]
 refine af rfl rfl rfl rfl (aw rfl rfl) ?_
 try dsimp only [St.put]
 refine ak rfl rfl rfl rfl (bf rfl rfl rfl (by omega) (bm (by assumption)) (Enc.len _)) ?_
 try dsimp only [St.put]
 refine af rfl rfl rfl rfl (aw rfl rfl) ?_
 refine ak rfl rfl rfl rfl (ax rfl (by constructor)) ?_
 refine ak rfl rfl rfl rfl (ax rfl (by constructor)) ?_
 refine dc ?_
 dsimp only [St.put]
 refine K5 _ ?_
 refine bk ?_
 refine i1 rfl (ed (by constructor)) (ed (by constructor)) zN zS ?_ ?_
 ·rw [hw]
  exact zW
 rw [hw]; exact Wk.refl _
theorem ufu (t : bd) (p : PlaceD) (ht : ck t = true) : Pure Tryd.prog 24 [dn t, val p] (.v (.bool (fp t p))) := by
 refine cx Tryd.func24 rfl (fun m => .v) fun G nx => ?_
 simp only [Tryd.ntmps24, List.length_cons, List.length_nil, Nat.reduceAdd, Nat.reduceSub]
 refine b9 fun hlt => ?_
 dsimp only at hlt
 have hwl := ts ht (p.ch, p.ln)
 refine yS fun _ K1 => ?_
 refine yR ?_
 try dsimp only [St.put]
 refine yB rfl rfl rfl ?_
 try dsimp only [St.put]
 refine yB rfl rfl rfl ?_
 refine yA rfl rfl ?_
 refine yN ?_
 dsimp only [St.put]
 refine K1 _ ?_
 refine yS fun _ K2 => ?_
 refine yR ?_
 try dsimp only [St.put]
 refine aa rfl (ah rfl rfl rfl) ?_
 refine yE rfl rfl rfl ?_
 try dsimp only [St.put]
 refine av rfl (br rfl rfl rfl (uv t p ht) ?_)
 refine yM rfl rfl ?_
 refine yX rfl rfl rfl rfl ?_
 refine yX rfl rfl rfl rfl ?_
 refine yA rfl rfl ?_
 refine yA rfl rfl ?_
 refine yN ?_
 dsimp only [St.put]
 refine K2 _ ?_
 refine yS fun _ K3 => ?_
 refine yR ?_
 refine yM rfl rfl ?_
 refine yM rfl rfl ?_
 refine et (fun hs => ?_) (fun hs => ?_)
 ·obtain ⟨l, hw⟩ := Option.isSome_iff_exists.1 hs
  refine yF rfl rfl rfl rfl ?_
  refine yL rfl rfl rfl ?_
  refine yM rfl rfl ?_
  refine ae rfl (bj rfl rfl (List.length_map _)) ?_
  refine ae rfl (ip rfl rfl rfl (by omega)) ?_
  try dsimp only [St.put]
  refine av rfl (br rfl rfl rfl (jd _ _ _) ?_)
  refine ae rfl (bt rfl rfl (by constructor)) ?_
  refine yA rfl rfl ?_
  refine yN ?_
  dsimp only [St.put]
  refine K3 _ ?_
  refine bk ?_
  refine bo rfl (by constructor) zN zS ?_
  exact vb (by simp [fp, hw])
 have hw : dm t (p.ch, p.ln) = none := by simpa using hs
 refine yK rfl ?_
 refine yK rfl ?_
 refine yK rfl ?_
 refine yK rfl ?_
 refine yK rfl ?_
 refine yK rfl ?_
 refine ae rfl (bu rfl rfl (by constructor)) ?_
 refine yA rfl rfl ?_
 refine yN ?_
 dsimp only [St.put]
 refine K3 _ ?_
 refine bk ?_
 refine bo rfl (by constructor) zN zS ?_
 exact vb (by simp [fp, hw])
end Go.Proofs.YthboenlglkmnjaaDoor
namespace Go.AB
open Go Go.RowKit
open Go.AB.Enc (cells)
open Go.PB (Chap bd PlaceD bh CopyD bw)
end Go.AB
namespace Go.Proofs.YthboenlglkmnjaaDoor
set_option maxRecDepth 10000
open Go.RowKit Go.AB
open Go.AB.Enc (cells)
open Go.PB (Chap bd PlaceD bh CopyD bw)
/-! ### Plain editions -/
end Go.Proofs.YthboenlglkmnjaaDoor
namespace Go.AB
open Go Go.RowKit
open Go.AB.Enc (cells)
open Go.PB (Chap bd PlaceD bh CopyD bw)
def j1 (t : bd) : C := bif ck t then .elem [lst t] else .v (.pointer none)
theorem ubn (t : bd) (m : Nat) : (j1 t).low m := by
 unfold j1
 cases ck t
 ·exact .v
 ·exact .elem (cv (ce _ _) de)
theorem placeB_len {t : bd} {p : PlaceD} : fp t p = qh 0 ((((dm t (p.ch, p.ln)).getD []).length : Int) - 1) [p.wd] := by
 rw [fq]
 unfold fp
 cases dm t (p.ch, p.ln) with
 | some l => rfl
 | none =>
  rw [eq_comm, Bool.eq_false_iff]
  intro h
  rw [inB_true] at h
  simp at h
  omega
end Go.AB
namespace Go.Proofs.YthboenlglkmnjaaDoor
set_option maxRecDepth 10000
open Go.RowKit Go.AB
open Go.AB.Enc (cells)
open Go.PB (Chap bd PlaceD bh CopyD bw)
theorem sj (t : bd) : Pure Tryd.prog 26 [dn t] (.tup [j1 t, .v (.int .i64 (fy t))]) := by
 refine cx Tryd.func26 rfl (fun m => .tup (cv (ubn _ _) (cv .v de))) fun G nx => ?_
 simp only [Tryd.ntmps26, List.length_cons, List.length_nil, Nat.reduceAdd, Nat.reduceSub]
 refine b9 fun hlt => ?_
 dsimp only at hlt
 refine aj fun K1 hK1 => ?_
 refine aq ?_
 try dsimp only [St.put]
 refine av rfl (cw rfl rfl (by simp) ?_)
 refine ae rfl (ax rfl (by constructor)) ?_
 refine ae rfl (ax rfl (by constructor)) ?_
 refine am ?_
 dsimp only [St.put]
 refine hK1 _ ?_
 refine aj fun K2 hK2 => ?_
 refine aj fun K3 hK3 => ?_
 refine aq ?_
 try dsimp only [St.put]
 first | refine aa rfl (aw rfl rfl) ?_ | refine aa rfl (ah rfl rfl (Enc.len _)) ?_ | refine aa rfl (ah rfl rfl rfl) ?_ | refine aa rfl (a7 rfl rfl zG trivial (by first | rfl | assumption)) ?_ | refine aa rfl (az rfl rfl zG trivial (by rfl)) ?_ | refine aa rfl (a8 rfl rfl zG trivial (by simp)) ?_ | refine aa rfl (ai rfl rfl zG trivial (ay (by assumption) rfl)) ?_ | refine aa rfl (ai rfl rfl zG trivial (by assumption)) ?_ | refine aa rfl (a9 rfl rfl zG trivial rfl (by assumption) rfl (by decide)) ?_ | refine aa rfl (ba rfl rfl zG (by rfl)) ?_
 try dsimp only [St.put]
 refine av rfl (br rfl rfl rfl (ucr t) ?_)
 refine ae rfl (ax rfl (by constructor)) ?_
 refine am ?_
 dsimp only [St.put]
 refine hK3 _ ?_
 refine aj fun K4 hK4 => ?_
 refine aq ?_
 refine ae rfl (ar rfl (by constructor)) ?_
 refine ae rfl (em rfl rfl rfl) ?_
 refine am ?_
 dsimp only [St.put]
 refine hK4 _ ?_
 refine bl rfl (fun hc => ?_) (fun hc => ?_)
 ·have htx : ck t = false := by
   cases h : ck t
   ·rfl
   ·simp [fy, h] at hc
  refine aj fun K5 hK5 => ?_
  refine aq ?_
  refine ae rfl (ar rfl (by constructor)) ?_
  refine ae rfl (ax rfl (by constructor)) ?_
  refine ae rfl (ax rfl (by constructor)) ?_
  refine am ?_
  dsimp only [St.put]
  refine hK5 _ ?_
  refine bk ?_
  refine j4 rfl (by constructor) (by constructor) zN zS ?_ ?_
  ·simp [j1, htx]
  ·rfl
 ·have htx : ck t = true := by
   cases h : ck t
   ·simp [fy, h] at hc
   ·rfl
  refine bn ?_
  refine hK2 _ ?_
  refine aj fun K6 hK6 => ?_
  refine aq ?_
  try dsimp only [St.put]
  first | refine aa rfl (aw rfl rfl) ?_ | refine aa rfl (ah rfl rfl (Enc.len _)) ?_ | refine aa rfl (ah rfl rfl rfl) ?_ | refine aa rfl (a7 rfl rfl zG trivial (by first | rfl | assumption)) ?_ | refine aa rfl (az rfl rfl zG trivial (by rfl)) ?_ | refine aa rfl (a8 rfl rfl zG trivial (by simp)) ?_ | refine aa rfl (ai rfl rfl zG trivial (ay (by assumption) rfl)) ?_ | refine aa rfl (ai rfl rfl zG trivial (by assumption)) ?_ | refine aa rfl (a9 rfl rfl zG trivial rfl (by assumption) rfl (by decide)) ?_ | refine aa rfl (ba rfl rfl zG (by rfl)) ?_
  refine ae rfl (jo rfl rfl) ?_
  try dsimp only [St.put]
  refine av rfl (cw (cs := [lst t]) rfl rfl (by simp) ?_)
  refine ae rfl (ax rfl (by constructor)) ?_
  refine ae rfl (ax rfl (by constructor)) ?_
  refine am ?_
  dsimp only [St.put]
  refine hK6 _ ?_
  refine bk ?_
  refine j4 rfl (by constructor) (by constructor) zN zS ?_ ?_
  ·simp [j1, htx]
  ·exact vi (by simp [fy, htx])
theorem p7 (t : bd) (p : PlaceD) (ht : ck t = true) : Pure Tryd.prog 41 [.elem [lst t], val p] (lst ((dm t (p.ch, p.ln)).getD [])) := by
 refine cx Tryd.func41 rfl (fun m => (ce _ _)) fun G nx => ?_
 simp only [Tryd.ntmps41, List.length_cons, List.length_nil, Nat.reduceAdd, Nat.reduceSub]
 refine b9 fun hlt => ?_
 dsimp only at hlt
 obtain ⟨hl1, hl2, hl3⟩ := i3 ht
 refine aj fun K1 hK1 => ?_
 refine aq ?_
 try dsimp only [St.put]
 refine av rfl (cw rfl rfl (by simp) ?_)
 refine ae rfl (ax rfl (by constructor)) ?_
 refine am ?_
 dsimp only [St.put]
 refine hK1 _ ?_
 refine aj fun K2 hK2 => ?_
 refine cg 5 ?_
 refine zQ ?_
 refine ky (X := Bool) (fun b => b = !(dm t (p.ch, p.ln)).isSome) (fun b => [(35, .v (.bool b))]) (fun b G' => G') rfl ?_ (fun _ _ _ _ h => .inl h) ?_ ?_
 ·rintro b hI
  exact zL
 ·refine kx [(0, none), (1, none), (2, none), (3, none), (4, none), (5, none), (6, none), (7, none), (8, none)] (fun _ => false) (fun i => [0, 1, 2, 3, 5, 6, 7].contains i) 22 (rl [9, 22]) (by kernel_rfl) (by kernel_rfl) ?_
  refine ak rfl rfl rfl rfl (ar rfl (by constructor)) ?_
  first | refine ak rfl rfl rfl rfl (m1 rfl rfl) ?_ | refine ak rfl rfl rfl rfl (m0 rfl rfl) ?_ | refine ak rfl rfl rfl rfl (mz rfl rfl) ?_
  first | refine ak rfl rfl rfl rfl (bg rfl rfl rfl) ?_ | refine ak rfl rfl rfl rfl (bi rfl rfl) ?_
  first | refine ak rfl rfl rfl rfl (bg rfl rfl rfl) ?_ | refine ak rfl rfl rfl rfl (bi rfl rfl) ?_
  try dsimp only [St.put]
  first | refine af rfl rfl rfl rfl (aw rfl rfl) ?_ | refine af rfl rfl rfl rfl (ah rfl rfl (Enc.len _)) ?_ | refine af rfl rfl rfl rfl (ah rfl rfl rfl) ?_ | refine af rfl rfl rfl rfl (a7 rfl rfl zG (by simp) (by first | rfl | assumption)) ?_ | refine af rfl rfl rfl rfl (az rfl rfl zG (by simp) (by rfl)) ?_ | refine af rfl rfl rfl rfl (a8 rfl rfl zG (by simp) (by simp)) ?_ | refine af rfl rfl rfl rfl (ai rfl rfl zG (by simp) (ay (by assumption) rfl)) ?_ | refine af rfl rfl rfl rfl (ai rfl rfl zG (by simp) (by assumption)) ?_ | refine af rfl rfl rfl rfl (a9 rfl rfl zG (by simp) rfl (by assumption) rfl (by decide)) ?_ | refine af rfl rfl rfl rfl (ba rfl rfl zG (by rfl)) ?_
  first | refine ak rfl rfl rfl rfl (bj rfl rfl (List.length_map _)) ?_ | refine ak rfl rfl rfl rfl (bj rfl rfl rfl) ?_ | refine ak rfl rfl rfl rfl (b8 rfl rfl) ?_ | refine ak rfl rfl rfl rfl (cd rfl rfl) ?_ | refine ak rfl rfl rfl rfl (cb rfl rfl) ?_ | refine ak rfl rfl rfl rfl (ca rfl rfl (by omega)) ?_
  first | refine ak rfl rfl rfl rfl (ip rfl rfl rfl (by omega)) ?_ | refine ak rfl rfl rfl rfl (jh rfl rfl rfl) ?_
  first | refine ak rfl rfl rfl rfl (bg rfl rfl rfl) ?_ | refine ak rfl rfl rfl rfl (bi rfl rfl) ?_
  try dsimp only [St.put]
  first | refine af rfl rfl rfl rfl (aw rfl rfl) ?_ | refine af rfl rfl rfl rfl (ah rfl rfl (Enc.len _)) ?_ | refine af rfl rfl rfl rfl (ah rfl rfl rfl) ?_ | refine af rfl rfl rfl rfl (a7 rfl rfl zG (by simp) (by first | rfl | assumption)) ?_ | refine af rfl rfl rfl rfl (az rfl rfl zG (by simp) (by rfl)) ?_ | refine af rfl rfl rfl rfl (a8 rfl rfl zG (by simp) (by simp)) ?_ | refine af rfl rfl rfl rfl (ai rfl rfl zG (by simp) (ay (by assumption) rfl)) ?_ | refine af rfl rfl rfl rfl (ai rfl rfl zG (by simp) (by assumption)) ?_ | refine af rfl rfl rfl rfl (a9 rfl rfl zG (by simp) rfl (by assumption) rfl (by decide)) ?_ | refine af rfl rfl rfl rfl (ba rfl rfl zG (by rfl)) ?_
  refine dc ?_
  refine dj [9] (by kernel_rfl) (by simp) ?_
  refine dz ?_ ?_
  ·try dsimp only [St.put]
   refine dr rfl rfl rfl (dx rfl rfl rfl (by decide) (by decide) zR (by decide) ?_)
   refine dj [10] (by kernel_rfl) (by simp) ?_
   refine dz ?_ ?_
   ·try dsimp only [St.put]
    refine dr rfl rfl rfl (br rfl rfl rfl (jk _ _ [p.ch]) ?_)
    refine fm [(11, none), (12, none), (13, none), (14, none), (15, none), (16, none), (17, none), (18, none), (19, none), (20, none), (21, none), (22, none), (23, none), (24, none), (25, none), (26, none)] (fun i => [11, 12, 13, 14, 15, 16, 18, 20, 21, 23, 24, 25].contains i) 4 (rl [27, 4]) (by kernel_rfl) ?_
    refine ak rfl rfl rfl rfl (dt rfl rfl) ?_
    refine ak rfl rfl rfl rfl (ar rfl (by constructor)) ?_
    refine k7 (fun hs => ?_) (fun hs => ?_)
    ·have h8 : inB p.ch 0 ((t.length : Int) - 1) = false := by rw [fq] at hs; simpa using hs
     refine bp rfl rfl rfl ?_
     refine bp rfl rfl rfl ?_
     refine bp rfl rfl rfl ?_
     refine bp rfl rfl rfl ?_
     refine bp rfl rfl rfl ?_
     refine bp rfl rfl rfl ?_
     refine bp rfl rfl rfl ?_
     refine bp rfl rfl rfl ?_
     refine bp rfl rfl rfl ?_
     refine bp rfl rfl rfl ?_
     refine bp rfl rfl rfl ?_
     refine bp rfl rfl rfl ?_
     refine bp rfl rfl rfl ?_
     refine bp rfl rfl rfl ?_
     refine dc ?_
     refine dj [27] (by kernel_rfl) (by simp) ?_
     refine dz ?_ ?_
     ·refine mp rfl rfl rfl ?_
      refine dj [28] (by kernel_rfl) (by simp) ?_
      refine dz ?_ ?_
      ·refine mp rfl rfl rfl ?_
       refine fm [(29, none), (30, none)] (fun i => [29, 30].contains i) 0 (rl [31]) (by kernel_rfl) ?_
       refine bp rfl rfl rfl ?_
       first | refine ak rfl rfl rfl rfl (bt rfl rfl (by constructor)) ?_ | refine ak rfl rfl rfl rfl (bu rfl rfl (by constructor)) ?_ | refine ak rfl rfl rfl rfl (b7 rfl rfl rfl rfl) ?_ | refine ak rfl rfl rfl rfl (bz rfl rfl rfl rfl) ?_
       refine dc ?_
       dsimp only [St.put]
       refine gw (by kernel_rfl) ?_
       refine ⟨_, ?_, ⟨⟨rfl, rfl⟩, zF, zB, zN, zX⟩⟩
       rw [o8]
       first | (simp [h8]; done) | (simp [h8, hnl, fq]; done)
      exact d8
     exact d8
    ·have h8 : inB p.ch 0 ((t.length : Int) - 1) = true := by rw [fq] at hs; simpa using hs
     have hn1' := h8
     simp only [inB_true] at hn1'
     obtain ⟨c, hcx⟩ : ∃ c, t[p.ch.toNat]? = some c := cm (by omega)
     have hnl : jg t p.ch = c.lines.length := by simp [jg, hcx]
     have hll := (hl3 c (dv hcx)).2.1
     have hch : p.ch = ((p.ch.toNat : Nat) : Int) := by omega
     refine ak rfl rfl rfl rfl (ar rfl (by constructor)) ?_
     first | refine ak rfl rfl rfl rfl (m1 rfl rfl) ?_ | refine ak rfl rfl rfl rfl (m0 rfl rfl) ?_ | refine ak rfl rfl rfl rfl (mz rfl rfl) ?_
     first | refine ak rfl rfl rfl rfl (bg rfl rfl rfl) ?_ | refine ak rfl rfl rfl rfl (bi rfl rfl) ?_
     first | refine ak rfl rfl rfl rfl (bg rfl rfl rfl) ?_ | refine ak rfl rfl rfl rfl (bi rfl rfl) ?_
     try dsimp only [St.put]
     first | refine af rfl rfl rfl rfl (aw rfl rfl) ?_ | refine af rfl rfl rfl rfl (ah rfl rfl (Enc.len _)) ?_ | refine af rfl rfl rfl rfl (ah rfl rfl rfl) ?_ | refine af rfl rfl rfl rfl (a7 rfl rfl zG (by simp) (by first | rfl | assumption)) ?_ | refine af rfl rfl rfl rfl (az rfl rfl zG (by simp) (by rfl)) ?_ | refine af rfl rfl rfl rfl (a8 rfl rfl zG (by simp) (by simp)) ?_ | refine af rfl rfl rfl rfl (ai rfl rfl zG (by simp) (ay (by assumption) rfl)) ?_ | refine af rfl rfl rfl rfl (ai rfl rfl zG (by simp) (by assumption)) ?_ | refine af rfl rfl rfl rfl (a9 rfl rfl zG (by simp) rfl (by assumption) rfl (by decide)) ?_ | refine af rfl rfl rfl rfl (ba rfl rfl zG (by rfl)) ?_
     first | refine ak rfl rfl rfl rfl (bg rfl rfl rfl) ?_ | refine ak rfl rfl rfl rfl (bi rfl rfl) ?_
     try dsimp only [St.put]
     first | refine af rfl rfl rfl rfl (aw rfl rfl) ?_ | refine af rfl rfl rfl rfl (ah rfl rfl (Enc.len _)) ?_ | refine af rfl rfl rfl rfl (ah rfl rfl rfl) ?_ | refine af rfl rfl rfl rfl (a7 rfl rfl zG (by simp) (by first | rfl | assumption)) ?_ | refine af rfl rfl rfl rfl (az rfl rfl zG (by simp) (by rfl)) ?_ | refine af rfl rfl rfl rfl (a8 rfl rfl zG (by simp) (by simp)) ?_ | refine af rfl rfl rfl rfl (ai rfl rfl zG (by simp) (ay (by assumption) rfl)) ?_ | refine af rfl rfl rfl rfl (ai rfl rfl zG (by simp) (by assumption)) ?_ | refine af rfl rfl rfl rfl (a9 rfl rfl zG (by simp) rfl (by assumption) rfl (by decide)) ?_ | refine af rfl rfl rfl rfl (ba rfl rfl zG (by rfl)) ?_
     try dsimp only [St.put]
     first | refine ak rfl rfl rfl rfl (bf rfl rfl rfl rfl (bm (by assumption)) (Enc.len _)) ?_ | refine ak rfl rfl rfl rfl (bf rfl rfl rfl rfl (by assumption) rfl) ?_ | refine ak rfl rfl rfl rfl (cr rfl rfl rfl (by first | exact ct _ | exact rfl) (by omega)) ?_ | refine ak rfl rfl rfl rfl (bf rfl rfl rfl (by omega) (bm (by assumption)) (Enc.len _)) ?_
     first | refine ak rfl rfl rfl rfl (bg rfl rfl rfl) ?_ | refine ak rfl rfl rfl rfl (bi rfl rfl) ?_
     try dsimp only [St.put]
     first | refine af rfl rfl rfl rfl (aw rfl rfl) ?_ | refine af rfl rfl rfl rfl (ah rfl rfl (Enc.len _)) ?_ | refine af rfl rfl rfl rfl (ah rfl rfl rfl) ?_ | refine af rfl rfl rfl rfl (a7 rfl rfl zG (by simp) (by first | rfl | assumption)) ?_ | refine af rfl rfl rfl rfl (az rfl rfl zG (by simp) (by rfl)) ?_ | refine af rfl rfl rfl rfl (a8 rfl rfl zG (by simp) (by simp)) ?_ | refine af rfl rfl rfl rfl (ai rfl rfl zG (by simp) (ay (by assumption) rfl)) ?_ | refine af rfl rfl rfl rfl (ai rfl rfl zG (by simp) (by assumption)) ?_ | refine af rfl rfl rfl rfl (a9 rfl rfl zG (by simp) rfl (by assumption) rfl (by decide)) ?_ | refine af rfl rfl rfl rfl (ba rfl rfl zG (by rfl)) ?_
     first | refine ak rfl rfl rfl rfl (bj rfl rfl (List.length_map _)) ?_ | refine ak rfl rfl rfl rfl (bj rfl rfl rfl) ?_ | refine ak rfl rfl rfl rfl (b8 rfl rfl) ?_ | refine ak rfl rfl rfl rfl (cd rfl rfl) ?_ | refine ak rfl rfl rfl rfl (cb rfl rfl) ?_ | refine ak rfl rfl rfl rfl (ca rfl rfl (by omega)) ?_
     first | refine ak rfl rfl rfl rfl (ip rfl rfl rfl (by omega)) ?_ | refine ak rfl rfl rfl rfl (jh rfl rfl rfl) ?_
     first | refine ak rfl rfl rfl rfl (bg rfl rfl rfl) ?_ | refine ak rfl rfl rfl rfl (bi rfl rfl) ?_
     try dsimp only [St.put]
     first | refine af rfl rfl rfl rfl (aw rfl rfl) ?_ | refine af rfl rfl rfl rfl (ah rfl rfl (Enc.len _)) ?_ | refine af rfl rfl rfl rfl (ah rfl rfl rfl) ?_ | refine af rfl rfl rfl rfl (a7 rfl rfl zG (by simp) (by first | rfl | assumption)) ?_ | refine af rfl rfl rfl rfl (az rfl rfl zG (by simp) (by rfl)) ?_ | refine af rfl rfl rfl rfl (a8 rfl rfl zG (by simp) (by simp)) ?_ | refine af rfl rfl rfl rfl (ai rfl rfl zG (by simp) (ay (by assumption) rfl)) ?_ | refine af rfl rfl rfl rfl (ai rfl rfl zG (by simp) (by assumption)) ?_ | refine af rfl rfl rfl rfl (a9 rfl rfl zG (by simp) rfl (by assumption) rfl (by decide)) ?_ | refine af rfl rfl rfl rfl (ba rfl rfl zG (by rfl)) ?_
     refine dc ?_
     refine dj [27] (by kernel_rfl) (by simp) ?_
     refine dz ?_ ?_
     ·try dsimp only [St.put]
      refine dr rfl rfl rfl (dx rfl rfl rfl (by decide) (by decide) zR (by decide) ?_)
      refine dj [28] (by kernel_rfl) (by simp) ?_
      refine dz ?_ ?_
      ·try dsimp only [St.put]
       refine dr rfl rfl rfl (br rfl rfl rfl (jk _ _ [p.ln]) ?_)
       refine fm [(29, none), (30, none)] (fun i => [29, 30].contains i) 0 (rl [31]) (by kernel_rfl) ?_
       refine ak rfl rfl rfl rfl (dt rfl rfl) ?_
       first | refine ak rfl rfl rfl rfl (bt rfl rfl (by constructor)) ?_ | refine ak rfl rfl rfl rfl (bu rfl rfl (by constructor)) ?_ | refine ak rfl rfl rfl rfl (b7 rfl rfl rfl rfl) ?_ | refine ak rfl rfl rfl rfl (bz rfl rfl rfl rfl) ?_
       refine dc ?_
       dsimp only [St.put]
       refine gw (by kernel_rfl) ?_
       refine ⟨_, ?_, ⟨⟨rfl, rfl⟩, zF, zB, zN, zX⟩⟩
       rw [o8]
       first | (simp [h8]; done) | (simp [h8, hnl, fq]; done)
      exact d8
     exact d8
   exact d8
  exact d8
 ·rintro b hst
  dsimp only at hst ⊢
  refine bl rfl (fun hc => ?_) (fun hc => ?_)
  ·have hw : dm t (p.ch, p.ln) = none := by rw [hc] at hst; simpa using hst.symm
   refine aj fun K4 hK4 => ?_
   refine aq ?_
   refine ae rfl (ax rfl (by constructor)) ?_
   refine am ?_
   dsimp only [St.put]
   refine hK4 _ ?_
   refine bk ?_
   refine j3 rfl (ed (by constructor)) zN zS ?_
   rw [hw]
   exact zW
  ·have hw0 : (dm t (p.ch, p.ln)).isSome = true := by rw [hc] at hst; simpa using hst.symm
   obtain ⟨l, hw⟩ := Option.isSome_iff_exists.1 hw0
   obtain ⟨k, n, c, hkn, hk, hn⟩ := nn hw
   have hch : p.ch = ((k : Nat) : Int) := congrArg Prod.fst hkn
   have hln : p.ln = ((n : Nat) : Int) := congrArg Prod.snd hkn
   refine bn ?_
   refine hK2 _ ?_
   refine aj fun K5 hK5 => ?_
   refine fw [(0, none), (1, none), (2, none), (3, none), (4, none), (5, none), (6, none), (7, none), (8, none), (9, none), (10, none), (11, none), (12, none), (13, none), (14, none)] (fun i => [].contains i) (fun i => [].contains i) (fun i => [0, 1, 2, 3, 5, 7, 8, 10, 12, 14].contains i) [] (by kernel_rfl) (by kernel_rfl) ?_
   refine ak rfl rfl rfl rfl (ar rfl (by constructor)) ?_
   first | refine ak rfl rfl rfl rfl (m1 rfl rfl) ?_ | refine ak rfl rfl rfl rfl (m0 rfl rfl) ?_ | refine ak rfl rfl rfl rfl (mz rfl rfl) ?_
   first | refine ak rfl rfl rfl rfl (bg rfl rfl rfl) ?_ | refine ak rfl rfl rfl rfl (bi rfl rfl) ?_
   first | refine ak rfl rfl rfl rfl (bg rfl rfl rfl) ?_ | refine ak rfl rfl rfl rfl (bi rfl rfl) ?_
   try dsimp only [St.put]
   first | refine af rfl rfl rfl rfl (aw rfl rfl) ?_ | refine af rfl rfl rfl rfl (ah rfl rfl (Enc.len _)) ?_ | refine af rfl rfl rfl rfl (ah rfl rfl rfl) ?_ | refine af rfl rfl rfl rfl (a7 rfl rfl zG (by simp) (by first | rfl | assumption)) ?_ | refine af rfl rfl rfl rfl (az rfl rfl zG (by simp) (by rfl)) ?_ | refine af rfl rfl rfl rfl (a8 rfl rfl zG (by simp) (by simp)) ?_ | refine af rfl rfl rfl rfl (ai rfl rfl zG (by simp) (ay (by assumption) rfl)) ?_ | refine af rfl rfl rfl rfl (ai rfl rfl zG (by simp) (by assumption)) ?_ | refine af rfl rfl rfl rfl (a9 rfl rfl zG (by simp) rfl (by assumption) rfl (by decide)) ?_ | refine af rfl rfl rfl rfl (ba rfl rfl zG (by rfl)) ?_
   first | refine ak rfl rfl rfl rfl (bg rfl rfl rfl) ?_ | refine ak rfl rfl rfl rfl (bi rfl rfl) ?_
   try dsimp only [St.put]
   first | refine af rfl rfl rfl rfl (aw rfl rfl) ?_ | refine af rfl rfl rfl rfl (ah rfl rfl (Enc.len _)) ?_ | refine af rfl rfl rfl rfl (ah rfl rfl rfl) ?_ | refine af rfl rfl rfl rfl (a7 rfl rfl zG (by simp) (by first | rfl | assumption)) ?_ | refine af rfl rfl rfl rfl (az rfl rfl zG (by simp) (by rfl)) ?_ | refine af rfl rfl rfl rfl (a8 rfl rfl zG (by simp) (by simp)) ?_ | refine af rfl rfl rfl rfl (ai rfl rfl zG (by simp) (ay (by assumption) rfl)) ?_ | refine af rfl rfl rfl rfl (ai rfl rfl zG (by simp) (by assumption)) ?_ | refine af rfl rfl rfl rfl (a9 rfl rfl zG (by simp) rfl (by assumption) rfl (by decide)) ?_ | refine af rfl rfl rfl rfl (ba rfl rfl zG (by rfl)) ?_
   try dsimp only [St.put]
   first | refine ak rfl rfl rfl rfl (bf rfl rfl rfl rfl (bm (by assumption)) (Enc.len _)) ?_ | refine ak rfl rfl rfl rfl (bf rfl rfl rfl rfl (by assumption) rfl) ?_ | refine ak rfl rfl rfl rfl (cr rfl rfl rfl (by first | exact ct _ | exact rfl) (by omega)) ?_ | refine ak rfl rfl rfl rfl (bf rfl rfl rfl (by omega) (bm (by assumption)) (Enc.len _)) ?_
   first | refine ak rfl rfl rfl rfl (bg rfl rfl rfl) ?_ | refine ak rfl rfl rfl rfl (bi rfl rfl) ?_
   try dsimp only [St.put]
   first | refine af rfl rfl rfl rfl (aw rfl rfl) ?_ | refine af rfl rfl rfl rfl (ah rfl rfl (Enc.len _)) ?_ | refine af rfl rfl rfl rfl (ah rfl rfl rfl) ?_ | refine af rfl rfl rfl rfl (a7 rfl rfl zG (by simp) (by first | rfl | assumption)) ?_ | refine af rfl rfl rfl rfl (az rfl rfl zG (by simp) (by rfl)) ?_ | refine af rfl rfl rfl rfl (a8 rfl rfl zG (by simp) (by simp)) ?_ | refine af rfl rfl rfl rfl (ai rfl rfl zG (by simp) (ay (by assumption) rfl)) ?_ | refine af rfl rfl rfl rfl (ai rfl rfl zG (by simp) (by assumption)) ?_ | refine af rfl rfl rfl rfl (a9 rfl rfl zG (by simp) rfl (by assumption) rfl (by decide)) ?_ | refine af rfl rfl rfl rfl (ba rfl rfl zG (by rfl)) ?_
   first | refine ak rfl rfl rfl rfl (bg rfl rfl rfl) ?_ | refine ak rfl rfl rfl rfl (bi rfl rfl) ?_
   try dsimp only [St.put]
   first | refine af rfl rfl rfl rfl (aw rfl rfl) ?_ | refine af rfl rfl rfl rfl (ah rfl rfl (Enc.len _)) ?_ | refine af rfl rfl rfl rfl (ah rfl rfl rfl) ?_ | refine af rfl rfl rfl rfl (a7 rfl rfl zG (by simp) (by first | rfl | assumption)) ?_ | refine af rfl rfl rfl rfl (az rfl rfl zG (by simp) (by rfl)) ?_ | refine af rfl rfl rfl rfl (a8 rfl rfl zG (by simp) (by simp)) ?_ | refine af rfl rfl rfl rfl (ai rfl rfl zG (by simp) (ay (by assumption) rfl)) ?_ | refine af rfl rfl rfl rfl (ai rfl rfl zG (by simp) (by assumption)) ?_ | refine af rfl rfl rfl rfl (a9 rfl rfl zG (by simp) rfl (by assumption) rfl (by decide)) ?_ | refine af rfl rfl rfl rfl (ba rfl rfl zG (by rfl)) ?_
   try dsimp only [St.put]
   first | refine ak rfl rfl rfl rfl (bf rfl rfl rfl rfl (bm (by assumption)) (Enc.len _)) ?_ | refine ak rfl rfl rfl rfl (bf rfl rfl rfl rfl (by assumption) rfl) ?_ | refine ak rfl rfl rfl rfl (cr rfl rfl rfl (by first | exact ct _ | exact rfl) (by omega)) ?_ | refine ak rfl rfl rfl rfl (bf rfl rfl rfl (by omega) (bm (by assumption)) (Enc.len _)) ?_
   try dsimp only [St.put]
   first | refine af rfl rfl rfl rfl (aw rfl rfl) ?_ | refine af rfl rfl rfl rfl (ah rfl rfl (Enc.len _)) ?_ | refine af rfl rfl rfl rfl (ah rfl rfl rfl) ?_ | refine af rfl rfl rfl rfl (a7 rfl rfl zG (by simp) (by first | rfl | assumption)) ?_ | refine af rfl rfl rfl rfl (az rfl rfl zG (by simp) (by rfl)) ?_ | refine af rfl rfl rfl rfl (a8 rfl rfl zG (by simp) (by simp)) ?_ | refine af rfl rfl rfl rfl (ai rfl rfl zG (by simp) (ay (by assumption) rfl)) ?_ | refine af rfl rfl rfl rfl (ai rfl rfl zG (by simp) (by assumption)) ?_ | refine af rfl rfl rfl rfl (a9 rfl rfl zG (by simp) rfl (by assumption) rfl (by decide)) ?_ | refine af rfl rfl rfl rfl (ba rfl rfl zG (by rfl)) ?_
   refine ak rfl rfl rfl rfl (ax rfl (by constructor)) ?_
   refine dc ?_
   dsimp only [St.put]
   refine hK5 _ ?_
   refine bk ?_
   refine j3 rfl (ed (by constructor)) zN zS ?_
   rw [hw]
   exact zW
theorem uco (t : bd) (p : PlaceD) (ht : ck t = true) : Pure Tryd.prog 22 [.elem [lst t], val p] (.v (.bool (fp t p))) := by
 refine cx Tryd.func22 rfl (fun m => .v) fun G nx => ?_
 simp only [Tryd.ntmps22, List.length_cons, List.length_nil, Nat.reduceAdd, Nat.reduceSub]
 refine b9 fun hlt => ?_
 dsimp only at hlt
 have hwl := ts ht (p.ch, p.ln)
 refine aj fun K1 hK1 => ?_
 refine aq ?_
 try dsimp only [St.put]
 refine av rfl (cw rfl rfl (by simp) ?_)
 refine ae rfl (ax rfl (by constructor)) ?_
 refine am ?_
 dsimp only [St.put]
 refine hK1 _ ?_
 refine aj fun K2 hK2 => ?_
 refine kx [(0, none), (1, none), (5, none), (6, none)] (fun _ => false) (fun i => [0, 5].contains i) 6 (rl [2, 3, 2, 3]) (by kernel_rfl) (by kernel_rfl) ?_
 refine ak rfl rfl rfl rfl (ar rfl (by constructor)) ?_
 try dsimp only [St.put]
 first | refine af rfl rfl rfl rfl (aw rfl rfl) ?_ | refine af rfl rfl rfl rfl (ah rfl rfl (Enc.len _)) ?_ | refine af rfl rfl rfl rfl (ah rfl rfl rfl) ?_ | refine af rfl rfl rfl rfl (a7 rfl rfl zG (by simp) (by first | rfl | assumption)) ?_ | refine af rfl rfl rfl rfl (az rfl rfl zG (by simp) (by rfl)) ?_ | refine af rfl rfl rfl rfl (a8 rfl rfl zG (by simp) (by simp)) ?_ | refine af rfl rfl rfl rfl (ai rfl rfl zG (by simp) (ay (by assumption) rfl)) ?_ | refine af rfl rfl rfl rfl (ai rfl rfl zG (by simp) (by assumption)) ?_ | refine af rfl rfl rfl rfl (a9 rfl rfl zG (by simp) rfl (by assumption) rfl (by decide)) ?_ | refine af rfl rfl rfl rfl (ba rfl rfl zG (by rfl)) ?_
 first | refine ak rfl rfl rfl rfl (bg rfl rfl rfl) ?_ | refine ak rfl rfl rfl rfl (bi rfl rfl) ?_
 try dsimp only [St.put]
 first | refine af rfl rfl rfl rfl (aw rfl rfl) ?_ | refine af rfl rfl rfl rfl (ah rfl rfl (Enc.len _)) ?_ | refine af rfl rfl rfl rfl (ah rfl rfl rfl) ?_ | refine af rfl rfl rfl rfl (a7 rfl rfl zG (by simp) (by first | rfl | assumption)) ?_ | refine af rfl rfl rfl rfl (az rfl rfl zG (by simp) (by rfl)) ?_ | refine af rfl rfl rfl rfl (a8 rfl rfl zG (by simp) (by simp)) ?_ | refine af rfl rfl rfl rfl (ai rfl rfl zG (by simp) (ay (by assumption) rfl)) ?_ | refine af rfl rfl rfl rfl (ai rfl rfl zG (by simp) (by assumption)) ?_ | refine af rfl rfl rfl rfl (a9 rfl rfl zG (by simp) rfl (by assumption) rfl (by decide)) ?_ | refine af rfl rfl rfl rfl (ba rfl rfl zG (by rfl)) ?_
 refine dc ?_
 refine dj [2, 7] (by kernel_rfl) (by simp) ?_
 refine dz ?_ ?_
 ·try dsimp only [St.put]
  refine dr rfl rfl rfl (br rfl rfl rfl (p7 t p ht) ?_)
  refine fm [(3, none), (4, none)] (fun i => [3, 4].contains i) 3 (rl [7, 3]) (by kernel_rfl) ?_
  first | refine ak rfl rfl rfl rfl (bj rfl rfl (List.length_map _)) ?_ | refine ak rfl rfl rfl rfl (bj rfl rfl rfl) ?_ | refine ak rfl rfl rfl rfl (b8 rfl rfl) ?_ | refine ak rfl rfl rfl rfl (cd rfl rfl) ?_ | refine ak rfl rfl rfl rfl (cb rfl rfl) ?_ | refine ak rfl rfl rfl rfl (ca rfl rfl (by omega)) ?_
  first | refine ak rfl rfl rfl rfl (ip rfl rfl rfl (by omega)) ?_ | refine ak rfl rfl rfl rfl (jh rfl rfl rfl) ?_
  refine dc ?_
  refine dj [7] (by kernel_rfl) (by simp) ?_
  refine dz ?_ ?_
  ·try dsimp only [St.put]
   refine dr rfl rfl rfl (dx rfl rfl rfl (by decide) (by decide) zR (by decide) ?_)
   refine dj [8] (by kernel_rfl) (by simp) ?_
   refine dz ?_ ?_
   ·try dsimp only [St.put]
    refine dr rfl rfl rfl (br rfl rfl rfl (jk _ _ [p.wd]) ?_)
    refine fm [(9, none)] (fun i => [9].contains i) 0 (rl [10]) (by kernel_rfl) ?_
    refine ak rfl rfl rfl rfl (ax rfl (by constructor)) ?_
    refine dc ?_
    dsimp only [St.put]
    refine gw (by kernel_rfl) ?_
    refine hK2 _ ?_
    refine bk ?_
    refine bo rfl (by constructor) zN zS ?_
    exact vb placeB_len.symm
   exact d8
  exact d8
 refine dz ?_ ?_
 ·try dsimp only [St.put]
  refine dr rfl rfl rfl (dx rfl rfl rfl (by decide) (by decide) zR (by decide) ?_)
  refine dj [2] (by kernel_rfl) (by simp) ?_
  refine dz ?_ ?_
  ·try dsimp only [St.put]
   refine dr rfl rfl rfl (br rfl rfl rfl (p7 t p ht) ?_)
   refine fm [(3, none), (4, none)] (fun i => [3, 4].contains i) 2 (rl [8, 2]) (by kernel_rfl) ?_
   first | refine ak rfl rfl rfl rfl (bj rfl rfl (List.length_map _)) ?_ | refine ak rfl rfl rfl rfl (bj rfl rfl rfl) ?_ | refine ak rfl rfl rfl rfl (b8 rfl rfl) ?_ | refine ak rfl rfl rfl rfl (cd rfl rfl) ?_ | refine ak rfl rfl rfl rfl (cb rfl rfl) ?_ | refine ak rfl rfl rfl rfl (ca rfl rfl (by omega)) ?_
   first | refine ak rfl rfl rfl rfl (ip rfl rfl rfl (by omega)) ?_ | refine ak rfl rfl rfl rfl (jh rfl rfl rfl) ?_
   refine dc ?_
   refine dj [8] (by kernel_rfl) (by simp) ?_
   refine dz ?_ ?_
   ·try dsimp only [St.put]
    refine dr rfl rfl rfl (br rfl rfl rfl (jk _ _ [p.wd]) ?_)
    refine fm [(9, none)] (fun i => [9].contains i) 0 (rl [10]) (by kernel_rfl) ?_
    refine ak rfl rfl rfl rfl (ax rfl (by constructor)) ?_
    refine dc ?_
    dsimp only [St.put]
    refine gw (by kernel_rfl) ?_
    refine hK2 _ ?_
    refine bk ?_
    refine bo rfl (by constructor) zN zS ?_
    exact vb placeB_len.symm
   exact d8
  exact d8
 exact d8
/-! ### Books -/
end Go.Proofs.YthboenlglkmnjaaDoor
namespace Go.AB
open Go Go.RowKit Go.Proofs
open Go.AB.Enc (cells)

/-! ### Some names alone -/
/-! ### The world behind what only reads -/
/-! ### Cells that are values -/
def ua4 : C → Value
 | .v x => x
 | _ => undef
def Plain (cs : List C) : Prop := ∀ c ∈ cs, ∃ x, c = .v x ∧ okV x = true
theorem Plain.one {cs : List C} (h : Plain cs) : ∀ v ∈ cs.map ua4, v.oneCell' = true := fun v hv => by
 obtain ⟨c, hc, rfl⟩ := List.mem_map.1 hv
 obtain ⟨x, rfl, hx⟩ := h c hc
 exact vx hx

end Go.AB
namespace Go.AB
open Go Go.RowKit
open Go.AB.Enc (cells)
def fl (a b : Int) : Int := bif decide (a < b) then -1 else bif decide (b < a) then 1 else 0
def j6 : List Int → List Int → Int
 | [], [] => 0
 | [], _ :: _ => -1
 | _ :: _, [] => 1
 | x :: a, y :: b => bif decide (fl x y = 0) then j6 a b else fl x y
theorem uek {a b : Int} : fl a b < 0 ↔ a < b := by
 unfold fl
 by_cases h : a < b
 ·simp [h]
 ·by_cases h2 : b < a <;> simp [h, h2]
theorem cmpI_zero {a b : Int} : fl a b = 0 ↔ a = b := by
 unfold fl
 by_cases h : a < b
 ·simp [h]; omega
 ·by_cases h2 : b < a <;> simp [h, h2] <;> omega
/-- words of the same length, one behind the other -/
def ltW : List Int → List Int → Prop
 | x :: a, y :: b => x < y ∨ x = y ∧ ltW a b
 | _, _ => False
theorem yd : ∀ {a b : List Int}, a.length = b.length → (j6 a b < 0 ↔ ltW a b)
 | [], [], _ => by simp [j6, ltW]
 | x :: a, y :: b, h => by
  simp only [j6, ltW]
  by_cases h0 : fl x y = 0
  ·have := cmpI_zero.1 h0
   subst this
   rw [decide_eq_true h0, cond_true, yd (by simpa using h)]
   simp
  ·have := mt cmpI_zero.2 h0
   rw [decide_eq_false h0, cond_false, uek]
   constructor
   ·exact .inl
   ·rintro (h1 | ⟨h1, _⟩)
    ·exact h1
    ·exact absurd h1 this
end Go.AB
namespace Go.Proofs.YthboenlglkmnjaaDoor
set_option maxRecDepth 10000
open Go.RowKit Go.AB
open Go.AB.Enc (cells)
theorem w7 (x : Int) : Pure Tryd.prog 65 [.v (.int .i64 x)] (.v (.bool false)) := by
 refine cx Tryd.func65 rfl (fun m => .v) fun G nx => ?_
 simp only [Tryd.ntmps65, List.length_cons, List.length_nil, Nat.reduceAdd, Nat.reduceSub]
 refine b9 fun hlt => ?_
 dsimp only at hlt
 refine aj fun K1 hK1 => ?_
 refine aq ?_
 refine ae rfl (ax rfl (by constructor)) ?_
 refine am ?_
 dsimp only [St.put]
 refine hK1 _ ?_
 refine aj fun K2 hK2 => ?_
 refine aq ?_
 refine ae rfl (ar rfl (by constructor)) ?_
 refine ae rfl (ar rfl (by constructor)) ?_
 refine ae rfl (em rfl rfl rfl) ?_
 refine ae rfl (ax rfl (by constructor)) ?_
 refine am ?_
 dsimp only [St.put]
 refine hK2 _ ?_
 refine bk ?_
 refine bo rfl (by constructor) zN zS ?_
 exact vb (by simp)
theorem s6 (x y : Int) : Pure Tryd.prog 60 [.v (.int .i64 x), .v (.int .i64 y)] (.v (.int .i64 (fl x y))) := by
 refine cx Tryd.func60 rfl (fun m => .v) fun G nx => ?_
 simp only [Tryd.ntmps60, List.length_cons, List.length_nil, Nat.reduceAdd, Nat.reduceSub]
 refine b9 fun hlt => ?_
 dsimp only at hlt
 refine aj fun K1 hK1 => ?_
 refine aq ?_
 refine ae rfl (ax rfl (by constructor)) ?_
 refine am ?_
 dsimp only [St.put]
 refine hK1 _ ?_
 refine aj fun K2 hK2 => ?_
 refine aq ?_
 refine ae rfl (ar rfl (by constructor)) ?_
 try dsimp only [St.put]
 refine av rfl (br rfl rfl rfl (w7 _) ?_)
 refine ae rfl (ax rfl (by constructor)) ?_
 refine am ?_
 dsimp only [St.put]
 refine hK2 _ ?_
 refine aj fun K3 hK3 => ?_
 refine aq ?_
 refine ae rfl (ar rfl (by constructor)) ?_
 try dsimp only [St.put]
 refine av rfl (br rfl rfl rfl (w7 _) ?_)
 refine ae rfl (ax rfl (by constructor)) ?_
 refine am ?_
 dsimp only [St.put]
 refine hK3 _ ?_
 refine aj fun K4 hK4 => ?_
 refine aj fun K5 hK5 => ?_
 refine aq ?_
 refine ae rfl (du (c := false) (ar rfl (by constructor)) (by rfl)) ?_
 refine am ?_
 dsimp only [St.put]
 refine hK5 _ ?_
 refine bl rfl (fun h => by cases h) (fun _ => ?_)
 refine bn ?_
 refine hK4 _ ?_
 refine aj fun K6 hK6 => ?_
 refine aj fun K7 hK7 => ?_
 refine aq ?_
 refine ae rfl (du (c := false) (ar rfl (by constructor)) (by rfl)) ?_
 refine am ?_
 dsimp only [St.put]
 refine hK7 _ ?_
 refine bl rfl (fun h => by cases h) (fun _ => ?_)
 refine bn ?_
 refine hK6 _ ?_
 refine aj fun K8 hK8 => ?_
 refine aj fun K9 hK9 => ?_
 refine aq ?_
 refine ae rfl (ar rfl (by constructor)) ?_
 refine ae rfl (ar rfl (by constructor)) ?_
 refine ae rfl (cj rfl rfl rfl) ?_
 refine am ?_
 dsimp only [St.put]
 refine hK9 _ ?_
 refine bl rfl (fun hc => ?_) (fun hc => ?_)
 ·have h1 := of_decide_eq_true hc
  refine aj fun K10 hK10 => ?_
  refine aq ?_
  refine ae rfl (ax rfl (by constructor)) ?_
  refine am ?_
  dsimp only [St.put]
  refine hK10 _ ?_
  refine bk ?_
  refine bo rfl (by constructor) zN zS ?_
  exact vi (by simp [fl, h1])
 ·have h1 := of_decide_eq_false hc
  refine bn ?_
  refine hK8 _ ?_
  refine aj fun K11 hK11 => ?_
  refine aj fun K12 hK12 => ?_
  refine aq ?_
  refine ae rfl (ar rfl (by constructor)) ?_
  refine ae rfl (ar rfl (by constructor)) ?_
  refine ae rfl (g7 rfl rfl rfl) ?_
  refine am ?_
  dsimp only [St.put]
  refine hK12 _ ?_
  refine bl rfl (fun hc => ?_) (fun hc => ?_)
  ·have h2 := of_decide_eq_true hc
   refine aj fun K13 hK13 => ?_
   refine aq ?_
   refine ae rfl (ax rfl (by constructor)) ?_
   refine am ?_
   dsimp only [St.put]
   refine hK13 _ ?_
   refine bk ?_
   refine bo rfl (by constructor) zN zS ?_
   exact vi (by have h2' : y < x := h2; simp [fl, h1, h2'])
  ·have h2 := of_decide_eq_false hc
   refine bn ?_
   refine hK11 _ ?_
   refine aj fun K14 hK14 => ?_
   refine aq ?_
   refine ae rfl (ax rfl (by constructor)) ?_
   refine am ?_
   dsimp only [St.put]
   refine hK14 _ ?_
   refine bk ?_
   refine bo rfl (by constructor) zN zS ?_
   exact vi (by have h2' : ¬ y < x := h2; simp [fl, h1, h2'])
end Go.Proofs.YthboenlglkmnjaaDoor
namespace Go.AB
open Go Go.RowKit
open Go.AB.Enc (cells)
section
variable {P : Program} {o : Oper} {st : St} {K : St → Prop}
/-- A slice that is built: owned. -/
theorem xz {α : Type} [Enc α] {t e : TypeId} {bytes n : Nat} [AppT P t e (Enc.n α) bytes] {parts : List (Nat × Operand)} {rows : List (List C)} (xs : List α) (ho : o.op = .buildSlice t n parts.toArray) (hi : parts.map (·.1) = List.range n) (hr : l8 (parts.map fun p => (p.1, evC st p.2)) = some rows) (hrx : rows = xs.map cells) (hn : n ≠ 0) (hs : 1 ≤ Enc.n α) (h24 : n * Enc.n α ≤ 16777216)
  (h : K (St.put { st with G := bc st.G st.nx (.arr 0 0 e (Enc.n α) n (cy xs)), nx := st.nx + 1 } o.dst (.own st.nx 0 n))) : EStep P o st K :=
 kh fun E w a hsim => by
  obtain ⟨sz, hszE⟩ : ∃ sz, sz = Enc.n α := ⟨_, rfl⟩
  have hsz : ∀ r ∈ rows, r.length = sz := fun r hr' => by
   rw [hrx] at hr'
   obtain ⟨x, _, rfl⟩ := List.mem_map.1 hr'
   rw [hszE]; exact Enc.len x
  rw [← hszE] at hs h24
  obtain ⟨ht, i, z, hie, hz, h1, h2, h3⟩ := AppT.spec (P := P) (t := t) (e := e) (sz := Enc.n α) (bytes := bytes)
  rw [← hszE] at h1 h3
  have hpl : parts.length = n := by have := congrArg List.length hi; simpa using this
  obtain ⟨r1, r2, r3, r4⟩ := rp (E := E) (w := w) (parts.map fun p => (p.1, evC st p.2)) (parts.map fun p => a.eval p.2) rows (by simp) (fun j i c hj => by
   rw [List.getElem?_map] at hj ⊢
   cases hp : parts[j]? with
   | none => rw [hp] at hj; cases hj
   | some p =>
    rw [hp] at hj
    simp only [Option.map_some, Option.some.injEq, Prod.mk.injEq] at hj
    obtain ⟨rfl, rfl⟩ := hj
    exact ⟨a.eval p.2, rfl, hsim.ev p.2⟩) hr
  simp only [List.length_map] at r1
  have hcs : ∀ v ∈ parts.map (fun p => a.eval p.2), v.cells.size = sz := fun v hv => by
   obtain ⟨j, hj⟩ := List.getElem?_of_mem hv
   have hlt : j < rows.length := by rw [r1]; simpa using (List.getElem?_eq_some_iff.1 hj).1
   rw [← r4 j _ v (List.getElem?_eq_getElem hlt) hj]
   exact hsz _ (List.getElem_mem hlt)
  have hpos : 0 < n * sz := Nat.mul_pos (by omega) (by omega)
  have hfill := Great.fill_whole (s := sz) (by omega) (parts.map fun p => a.eval p.2) ((Array.range (n * i.size)).map (z.cells[· % z.cells.size]!)) hcs (by simp [hpl, h1])
  have hparts : (((parts.map fun p => a.eval p.2).zipIdx 0).map fun x => (x.2, x.1)) = parts.map fun p => (p.1, a.eval p.2) := by
   apply List.ext_getElem?
   intro j
   simp only [List.getElem?_map, List.getElem?_zipIdx]
   cases hp : parts[j]? with
   | none => rfl
   | some p =>
    have h1 : (parts.map (·.1))[j]? = some p.1 := by rw [List.getElem?_map, hp]; rfl
    rw [hi] at h1
    have h2 : (List.range n)[j]? = some j := List.getElem?_range (by rw [← hpl]; exact (List.getElem?_eq_some_iff.1 hp).1)
    rw [h2] at h1
    simp only [Option.some.injEq] at h1
    simp [h1]
  rw [hparts, ← h1] at hfill
  have hrun := run_buildSlice (P := P) w t e n (parts.map fun p => (p.1, a.eval p.2)).toArray _ i z ht hie hz (by rw [h1]; omega) (by rw [h1]; omega) (by simpa using hfill)
  have hrl : rows.length = n := by omega
  have hfl := i0 hsz
  have hul := r2.1
  obtain ⟨us, hus⟩ : ∃ us, us = (parts.map fun p => a.eval p.2).flatMap fun v => v.cells.toList := ⟨_, rfl⟩
  rw [← hus] at hrun r2 hul
  obtain ⟨ob, hob⟩ : ∃ ob, ob = Obj.cells us.toArray e := ⟨_, rfl⟩
  rw [← hob] at hrun
  have hev := Ev.laid hsim.g (o := ob) 0 (.inl rfl) (.inl rfl)
  have hg := SimG.laid hsim.g (o := ob) 0 (.inl rfl) (.inl rfl)
  have hnew : (w.alloc ob).heap[w.heap.size]? = some ob := kr w ob
  have hwsz : (w.alloc ob).heap.size = w.heap.size + 1 := by simp
  have hold : ∀ n tt b, (E.lay w.heap.size 0).T n = some tt → blk tt.2.2 = some b → b < w.heap.size := fun n tt b h5 h6 => (hsim.g.tb n _ _ _ b h5 h6).2
  have hnx := hsim.g.nx
  have hev2 := hev.thenName (.slice (some ⟨w.heap.size, 0, none⟩) n n) fun b o' hbk ho' => by
   simp only [blk, Option.some.injEq] at hbk
   subst hbk
   have := (Array.getElem?_eq_some_iff.1 ho').1
   omega
  have hflat : rows.flatten = cy xs := by rw [hrx]; rfl
  have hrs : Rs ((E.lay w.heap.size 0).name (.slice (some ⟨w.heap.size, 0, none⟩) n n)) (w.alloc ob) (cy xs) us := by rw [← hflat]; exact r2.ev hev2
  have hmx : n ≤ maxLen := by unfold maxLen; have := Nat.le_mul_of_pos_right n (show 0 < sz by omega); omega
  have hg2 := SimG.name hg (.slice (some ⟨w.heap.size, 0, none⟩) n n) (.arr 0 0 e (Enc.n α) n (cy xs)) (fun b hbk => by
   simp only [blk, Option.some.injEq] at hbk
   subst hbk
   exact ⟨hsim.g.base, by rw [hwsz]; omega, fun n tt h5 h6 => absurd (hold n tt _ h5 h6) (by omega)⟩) (by
   refine ⟨.slice (some ⟨w.heap.size, 0, none⟩) n n, us, ?_, ⟨by rw [hul, hfl, hrl, hszE], .inr ⟨w.heap.size, n, _, rfl, hsim.g.base, hnew.trans (by rw [hob]), Nat.le_refl _, hmx, ?_, ?_⟩⟩, fun c hc => ?_, hrs, fun b hbk => ?_, by rw [← hszE]; exact hs⟩
   ·simp [Env.name, Env.lay, hnx]
   ·rw [List.size_toArray, hul, hfl, hrl, hszE]
   ·rw [List.toList_toArray, List.take_of_length_le (by rw [hul, hfl, hrl, hszE]; exact Nat.le_refl _)]
   ·obtain ⟨r, hr1, hc1⟩ := List.mem_flatten.1 hc
    obtain ⟨y, _, rfl⟩ := List.mem_map.1 hr1
    exact Enc.one y c hc1
   ·simp only [blk, Option.some.injEq] at hbk
    subst hbk
    simp [Env.name, Env.lay])
  refine ⟨.slice (some ⟨w.heap.size, 0, none⟩) n n, w.alloc ob, _, _, _, .own st.nx 0 n, ?_, hev2, ?_, hg2, h⟩
  ·simp only [execOp, ho, Sem.run_bind, List.map_toArray]
   rw [hrun]; rfl
  ·refine R.own (by simp [Env.name, Env.lay]; omega) (Nat.le_refl _) hmx fun ver wv val htt => ?_
   simp only [Env.name, Env.lay, hnx, if_true, Option.some.injEq, Prod.mk.injEq] at htt
   obtain ⟨rfl, rfl, rfl⟩ := htt
   exact ⟨Nat.le_refl _, fun _ => ⟨_, Nat.le_refl _, rfl⟩⟩
end
end Go.AB
namespace Go.AB
open Go Go.RowKit Go.Shelf Go.Proofs
open Go.AB.Enc (cells)
section
variable {P : Program} {o : Oper} {st : St} {K : St → Prop}
theorem R.okVv {E : Env} {w : World} {x v : Value} (h : R E w (.v x) v) : _root_.Go.AB.okV x = true := by
 cases h with
 | v h => exact h
theorem vq {E : Env} {w : World} {v : Value} {n ver len : Nat} (hp : R E w (.own n ver len) v) : ∃ a cap, v = .slice a len cap ∧ n < E.nx ∧ len ≤ cap ∧ cap ≤ maxLen ∧ ∀ ver' wv val, E.T n = some (ver', wv, val) → ver ≤ ver' ∧ (ver = ver' → ∃ m, len ≤ m ∧ val = .slice a m cap) := by
 cases hp with
 | own h1 h2 h3 h4 => exact ⟨_, _, rfl, h1, h2, h3, h4⟩
/-- What is ahead of some of an own slice. -/
theorem lh {t e : TypeId} {sz : Nat} {ag : Bool} [Elt P t e] [Ty P e ag sz] {x y : Operand} {m ver len : Nat} {ik : IntKind} {n : Int} {k : Nat} (ho : o.op = .slice t x none (some y) none) (hx : evC st x = .own m ver len) (hy : evC st y = .v (.int ik n)) (hn : n = (k : Int)) (hk : k ≤ len) : NStep P o st (.own m ver k) := fun E w a hs => by
 subst hn
 have e1 := (hy ▸ hs.ev y).v_inv
 obtain ⟨ad, cap, hv, h1, h2, h3, h4⟩ := vq (hx ▸ hs.ev x)
 have q1 := Elt.spec (P := P) (t := t) (e := e)
 have hel : P.elem t = e := by simp [Program.elem, q1]
 have q2 := fun w => Ty.size (P := P) (w := w) (t := e) (ag := ag) (n := sz)
 have e3 : (if cap = 0 then ad else ad.map (·.add (0 * sz))) = ad := by
  split
  ·rfl
  ·cases ad with
   | none => rfl
   | some ad => obtain ⟨b, off, sp⟩ := ad; simp [Addr.add]
 refine ⟨.slice ad k cap, .own h1 (Nat.le_trans hk h2) h3 fun ver' wv val ht => ?_, fun w' => ?_⟩
 ·obtain ⟨h5, h6⟩ := h4 _ _ _ ht
  exact ⟨h5, fun e => let ⟨m', h7, h8⟩ := h6 e; ⟨m', Nat.le_trans hk h7, h8⟩⟩
 ·have hs1 := run_slice_h (P := P) (w := w') t ad len cap (by rw [hel]; exact q1) ik (k : Int) (by omega) (by omega)
  have hs2 := run_sliceAt_slice (P := P) (w := w') t (.slice ad len cap) none (some (.int ik (k : Int))) none (by rw [hel]; exact q1)
  simp only [execOp, ho, hv, e1, Option.map_none, Option.map_some, Sem.run_bind, hs2, hs1, hel, q2, Result.andThen_ok, sliced, Int.toNat_natCast, e3, Nat.sub_zero]
  rfl
theorem ubb {B : Nat} {w : World} {tt : TypeId} {sz len : Nat} {val : Value} {us : List Value} (h : w.ownsRow B tt sz val len us) {a : Option Addr} {m cap : Nat} (e : val = .slice a m cap) : m = len ∧ (∀ b, blk val = some b → ∃ o : Obj, w.heap[b]? = some o ∧ o.isCells = true) := by
 subst e
 rcases h.2 with ⟨e, e0⟩ | ⟨g, cap, cur, e, _, hh, _⟩
 ·cases e
  exact ⟨e0.symm, fun b hb => by simp [blk] at hb⟩
 ·cases e
  exact ⟨rfl, fun b hb => by simp only [blk, Option.some.injEq] at hb; subst hb; exact ⟨_, hh, rfl⟩⟩
theorem ubc {B : Nat} {w : World} {tt : TypeId} {sz len k cap : Nat} {a : Option Addr} {us : List Value} (h : w.ownsRow B tt sz (.slice a len cap) len us) (hk : k ≤ len) : w.ownsRow B tt sz (.slice a k cap) k (us.take (k * sz)) := by
 have hm : k * sz ≤ len * sz := Nat.mul_le_mul_right _ hk
 refine ⟨by rw [List.length_take, h.1]; omega, ?_⟩
 rcases h.2 with ⟨e, e0⟩ | ⟨g, cap, cur, e, h1, h2, h3, h4, h5, h6⟩
 ·cases e
  left
  obtain rfl : k = 0 := by omega
  exact ⟨rfl, rfl⟩
 ·cases e
  right
  refine ⟨g, cap, cur, rfl, h1, h2, by omega, h4, h5, ?_⟩
  rw [← h6, List.take_take]
  congr 1
  omega
/-- The cells behind it are given up. -/
theorem e_cut (i : Nat) {n ver wv len k : Nat} {e : TypeId} {sz : Nat} {cs : List C} (h0 : st.at i = .own n ver k) (hG : st.G n = some (.arr ver wv e sz len cs)) (h : EStep P o { st with r := (i, .own n (ver + 1) k) :: st.r, G := bc st.G n (.arr (ver + 1) wv e sz k (cs.take (k * sz))) } K) : EStep P o st K := by
 intro E w a hs
 obtain ⟨val, us, hT, hown, hcone, hrs, hL, hsz1⟩ := hs.g.obj n _ hG
 have hp := hs.at i
 rw [h0] at hp
 obtain ⟨ad, m, cap, e1, e2, hk, hnx, hkc, hcm⟩ := ubd hp hT
 obtain ⟨rfl, hcells⟩ := ubb hown e2
 have hblk : blk (.slice ad k cap) = blk val := by rw [e2]; cases ad <;> rfl
 have hchg : Chg E w w ver wv val (ver + 1) wv (.slice ad k cap) 0 :=
  ⟨Below.refl _ _, fun _ _ _ => rfl, fun b hb => .inl ⟨hblk ▸ hb, by rw [hL b (hblk ▸ hb)]; exact Nat.le_refl _⟩, fun _ _ _ _ => rfl, .inl (Nat.lt_succ_self _), fun b o _ ho => ⟨o, ho, rfl⟩, fun _ b hb => hcells b (hblk ▸ hb), fun b _ hl => absurd hl (Nat.not_lt_zero _)⟩
 have hev := Ev.chg hs.g hT hchg
 have hobj : ObjOk (E.chg n (ver + 1, wv, .slice ad k cap) 0) w n (.arr (ver + 1) wv e sz k (cs.take (k * sz))) :=
  ⟨.slice ad k cap, us.take (k * sz), by simp [Env.chg], ubc (e2 ▸ hown) hk, fun c hc => hcone c (List.mem_of_mem_take hc), (hrs.ev hev).take _, fun b hb => by simp [Env.chg, hb], hsz1⟩
 have hg := SimG.chg hs.g hT hchg hobj
 have hs2 := hs.evd hev hg
 have hs3 : Sim (E.chg n (ver + 1, wv, .slice ad k cap) 0) w { st with r := (i, .own n (ver + 1) k) :: st.r, G := bc st.G n (.arr (ver + 1) wv e sz k (cs.take (k * sz))) } a := by
  refine ⟨hs2.d, hs.sz, fun j v hj => ?_, hg⟩
  simp only [cq]
  cases hb : Nat.beq i j
  ·exact hs2.t j v hj
  ·have hij := Nat.eq_of_beq_eq_true hb
   subst hij
   have hv : a.tmps.getD i undef = v := by rw [Array.getD_eq_getD_getElem?, hj]; rfl
   rw [hv] at e1
   rw [e1]
   refine .own hnx hkc hcm fun ver' wv' val' ht => ?_
   simp only [Env.chg, if_true, Option.some.injEq, Prod.mk.injEq] at ht
   obtain ⟨rfl, rfl, rfl⟩ := ht
   exact ⟨Nat.le_refl _, fun _ => ⟨_, Nat.le_refl _, rfl⟩⟩
 exact fun Kr Q hq => h _ w a hs3 Kr Q fun a' w' st' E' hev' => hq a' w' st' E' (hev.trans hev')
/-- append of nothing onto an own slice. -/
theorem ub3 {t e : TypeId} {sz bytes n ver m : Nat} [AppT P t e sz bytes] {s x : Operand} {tk : Tok} (ho : o.op = .call { callee := .builtin .append, args := #[s, x], argTypes := #[t, t] }) (hs : evC st s = .own n ver m) (hx : evC st x = .list [] tk) : NStep P o st (.own n ver m) := fun E w a hsim => by
 obtain ⟨ht, i, z, hie, hz, h1, h2, h3⟩ := AppT.spec (P := P) (t := t) (e := e) (sz := sz) (bytes := bytes)
 have hown := hs ▸ hsim.ev s
 obtain ⟨ad, cap, e1, q1, q2, q3, q4⟩ := vq hown
 obtain ⟨ao, c, _, _, e3, _⟩ := (hx ▸ hsim.ev x).list_inv
 refine ⟨a.eval s, hown, fun w' => ?_⟩
 have hrun := nw (P := P) w' t o.type e i ht hie ad ao m cap c q2
 simp only [execOp, ho, resolve, invoke, builtin, Sem.run_bind, Sem.run_pure, Result.andThen_ok, List.map_toArray, List.map_cons, List.map_nil, e1, e3]
 rw [List.length_nil] at *
 rw [hrun]; rfl
/-- append of data onto an own slice. -/
theorem sx {α : Type} [Enc α] {t e : TypeId} {bytes n ver wv : Nat} [AppT P t e (Enc.n α) bytes] {s x : Operand} {tk : Tok} {rows : List (List C)} {xs : List α} {m : Nat} {cs : List C} (ys : List α) (ho : o.op = .call { callee := .builtin .append, args := #[s, x], argTypes := #[t, t] }) (hs : evC st s = .own n ver m) (hG : st.G n = some (.arr ver wv e (Enc.n α) m cs)) (hc : cs = cy xs) (hm : m = xs.length) (hx : evC st x = .list rows tk) (hy : rows = ys.map cells) (hb : (xs.length + ys.length) * bytes ≤ 140737488355328) (hmax : xs.length + ys.length ≤ 9223372036854775807)
  (h : ∀ v : Nat, K (St.put { st with G := bc st.G n (.arr v wv e (Enc.n α) (xs ++ ys).length (cy (xs ++ ys))) } o.dst (.own n v (xs ++ ys).length))) : EStep P o st K := by
 subst hc; subst hm; subst hy
 by_cases h0 : ys = []
 ·subst h0
  have h1 := h ver
  simp only [List.append_nil] at h1
  have h2 : bc st.G n (.arr ver wv e (Enc.n α) xs.length (cy xs)) = st.G := by
   funext k
   simp only [bc]
   split
   ·rename_i e; rw [e, hG]
   ·rfl
  rw [h2] at h1
  exact SStep.e' (NStep.s (D := fun _ => True) (ub3 ho hs hx)) h1
 ·refine ud5 ho hs hG hx (i5 ys) (by simpa using hb) (by simpa using hmax) (by simpa using h0) ?_
  have h1 := h (ver + 1)
  rw [kg] at h1
  simpa [cy] using h1
/-- .. ahead of which a part of it is given up. -/
theorem lp {α : Type} [Enc α] (i : Nat) {t e : TypeId} {bytes n ver wv len : Nat} [AppT P t e (Enc.n α) bytes] {x : Operand} {tk : Tok} {rows : List (List C)} (xs : List α) {m : Nat} {cs : List C} (ys : List α) (ho : o.op = .call { callee := .builtin .append, args := #[.tmp i, x], argTypes := #[t, t] }) (h0 : st.at i = .own n ver m) (hi : Nat.blt i st.n = true) (hG : st.G n = some (.arr ver wv e (Enc.n α) len cs)) (hc : cs.take (m * Enc.n α) = cy xs) (hm : m = xs.length) (hx : evC { st with r := (i, .own n (ver + 1) m) :: st.r } x = .list rows tk) (hy : rows = ys.map cells) (hb : (xs.length + ys.length) * bytes ≤ 140737488355328) (hmax : xs.length + ys.length ≤ 9223372036854775807)
  (h : ∀ v : Nat, K (St.put { st with r := (i, .own n (ver + 1) m) :: st.r, G := bc (bc st.G n (.arr (ver + 1) wv e (Enc.n α) m (cy xs))) n (.arr v wv e (Enc.n α) (xs ++ ys).length (cy (xs ++ ys))) } o.dst (.own n v (xs ++ ys).length))) : EStep P o st K := by
 refine e_cut i h0 hG ?_
 rw [hc]
 refine sx (xs := xs) ys ho ?_ (f5 _ _ _) rfl hm hx hy hb hmax h
 show St.at _ i = _
 unfold St.at
 dsimp only
 rw [hi]
 simp [cq]
/-- An own slice is laid for good, ahead of an operation. -/
theorem su {α : Type} [Enc α] (i : Nat) {n ver wv len sz : Nat} {tt : TypeId} {cs : List C} (xs : List α) (h0 : st.at i = .own n ver len) (hG : st.G n = some (.arr ver wv tt sz len cs)) (hsz : sz = Enc.n α) (hcs : cs = cy xs) (hlen : len = xs.length) (h : EStep P o { st with r := (i, lst xs) :: st.r, G := j5 st.G n } K) : EStep P o st K := by
 intro E w a hs
 obtain ⟨E', hE, hg', hl⟩ := ubg hs.g xs hG hsz hcs hlen
 have hp := hs.at i
 rw [h0] at hp
 have hs2 := hs.evd hE hg'
 have hs3 : Sim E' w { st with r := (i, lst xs) :: st.r, G := j5 st.G n } a := by
  refine ⟨hs2.d, hs.sz, fun j v hj => ?_, hg'⟩
  simp only [cq]
  cases hb : Nat.beq i j
  ·exact hs2.t j v hj
  ·have hij := Nat.eq_of_beq_eq_true hb
   subst hij
   have hv : a.tmps.getD i undef = v := by rw [Array.getD_eq_getD_getElem?, hj]; rfl
   exact hl v (hv ▸ hp)
 exact fun Kr Q hq => h _ w a hs3 Kr Q fun a' w' st' E' hev' => hq a' w' st' E' (hE.trans hev')
theorem udk {α : Type} [Inhabited α] (enc : α → Value) {w : World} {g n : Nat} {cur : Array Value} {e : TypeId} {fr : Nat × Nat} (F : Array α) (hb : w.heap[g]? = some (.cells cur e fr)) :
  (Sort.putRow enc (Sort.ahead w n) g 0 F).heap[g]? = some (.cells (Sort.putCells enc 0 F cur) e fr) := by
 simp [Sort.putRow, Sort.mapBlock, Sort.ahead, Array.getElem?_modify, hb, Sort.onCells]
theorem w9 {α : Type} [Inhabited α] (enc : α → Value) {w : World} {g n k : Nat} (F : Array α) (hne : k ≠ g) : (Sort.putRow enc (Sort.ahead w n) g 0 F).heap[k]? = w.heap[k]? := by
 simp [Sort.putRow, Sort.mapBlock, Sort.ahead, Array.getElem?_modify, Ne.symm hne]
theorem z6 {α : Type} [Inhabited α] (enc : α → Value) (cur : Array Value) (F : Array α) (m : Nat) (hm : m ≤ F.size) (h : F.size ≤ cur.size) : (Sort.putCells enc 0 F cur).toList.take m = (F.toList.take m).map enc := by
 apply List.ext_getElem?
 intro j
 by_cases hj : j < m
 ·rw [List.getElem?_take_of_lt hj, List.getElem?_map, List.getElem?_take_of_lt hj, Array.getElem?_toList, Array.getElem?_toList]
  have h1 : j < F.size := by omega
  simp [Sort.putCells, h1, show j < cur.size by omega]
 ·rw [List.getElem?_take_eq_none (by omega), List.getElem?_eq_none (by simp; omega)]
/-- slices.DeleteFunc of what is the frame's own. -/
theorem xx {β : Type} [Enc β] [Inhabited β] {q : Go.Shelf.Ren} (L : SlLaysH.n10 P q) {n ver wv m : Nat} {e : TypeId} {xs : List β} {cs : List C} (enc : β → Value) (henc : ∀ y : β, cells y = [.v (enc y)]) (h1c : ∀ y, (enc y).oneCell' = true) (p : β → Bool) (zr : β) (hz : ∀ w, (zeroValue (q.t 23)).run P w = .ok (enc zr) w) {f g : FuncId} [Fun P g] {fv s x : Operand} {ats : Array TypeId}
  (ho : o.op = .call { callee := .value fv, args := #[s, x], argTypes := ats }) (hf : evC st fv = .fn (.func f) []) (hfq : f = q.f 10) (hs : evC st s = .own n ver m) (hG : st.G n = some (.arr ver wv e 1 m cs)) (hcs : cs = cy xs) (hm : m = xs.length) (hne : xs ≠ []) (hmx : xs.length ≤ 9223372036854775807) (hx : evC st x = .fn (.func g) [])
  (hp : ∀ (W : World) (y : β), Calls P g #[enc y] W fun e w' => e = .returned (.bool (p y)) ∧ ∃ q, w' = W.drewN q) {zs : List β} (hzs : (xs.filter fun y => !p y) = zs)
  (h : K (St.put { st with G := bc st.G n (.arr (ver + 1) wv e 1 zs.length (cy zs)) } o.dst (.own n (ver + 1) zs.length))) : EStep P o st K := by
 subst hfq; subst hcs; subst hm; subst hzs
 intro E w a hsim Kr Q hq
 obtain ⟨fs, e1, hfs⟩ := (hf ▸ hsim.ev fv).fn_inv
 have hfs0 : fs = [] := List.eq_nil_of_length_eq_zero hfs.1
 subst hfs0
 obtain ⟨vs, e2, hvs⟩ := (hx ▸ hsim.ev x).fn_inv
 have hvs0 : vs = [] := List.eq_nil_of_length_eq_zero hvs.1
 subst hvs0
 obtain ⟨val, us, hT, hown, hcone, hrs, hL, hsz1⟩ := hsim.g.obj n _ hG
 obtain ⟨e3, q1, ad, cap, e4, h6, h7⟩ := n5 (hs ▸ hsim.ev s) hT hown
 unfold Oper.wp
 have hrun : (execOp a.eval o).run P w = .ok (.enter (q.f 10) #[a.eval s, a.eval x]) w := by
  simp only [execOp, ho, resolve, e1]
  have hcf6 := L.f10.enters rfl #[a.eval s, a.eval x] w
  simpa [Deferred.ofValue, invoke] using hcf6
 rw [hrun, e2, e4]
 have hn1 : 1 ≤ xs.length := by cases xs with | nil => exact absurd rfl hne | cons => simp
 obtain ⟨gb, cap', cur, hval, hgB, hh, hc1, hc2, hc3, hc4⟩ : ∃ gb cap' cur, val = .slice (some ⟨gb, 0, none⟩) xs.length cap' ∧ E.B ≤ gb ∧ w.heap[gb]? = some (.cells cur e (0, 0)) ∧ xs.length ≤ cap' ∧ cap' ≤ maxLen ∧ cur.size = cap' * 1 ∧ us = cur.toList.take (xs.length * 1) := by
  rcases hown.2 with ⟨_, q0⟩ | ⟨g', c', cu, q2, q3, q4, q5, q6, q7, q8⟩
  ·omega
  ·exact ⟨g', c', cu, q2, q3, q4, q5, q6, q7, q8.symm⟩
 have e5 : ad = some ⟨gb, 0, none⟩ ∧ cap = cap' := by
  have := e4.symm.trans (e3.trans hval)
  simp only [Value.slice.injEq] at this
  exact ⟨this.1, this.2.2⟩
 obtain ⟨rfl, rfl⟩ := e5
 have hgb := (Array.getElem?_eq_some_iff.1 hh).1
 have hflat : ∀ l : List β, cy l = l.map fun y => .v (enc y) := fun l => by
  induction l with
  | nil => rfl
  | cons y l ih => simp only [cy, List.map_cons, List.flatten_cons, henc] at ih ⊢; rw [ih]; rfl
 have hus : us = xs.map enc := by
  apply List.ext_getElem?
  intro j
  rw [List.getElem?_map]
  have hlen := hrs.1
  rw [hflat, List.length_map] at hlen
  cases hj : xs[j]? with
  | none =>
   have := List.getElem?_eq_none_iff.1 hj
   rw [List.getElem?_eq_none (by omega)]; rfl
  | some y =>
   have hlt := (List.getElem?_eq_some_iff.1 hj).1
   rw [List.getElem?_eq_getElem (show j < us.length by omega)]
   have := hrs.2 j (.v (enc y)) us[j] (by rw [hflat, List.getElem?_map, hj]; rfl) (List.getElem?_eq_getElem (by omega))
   rw [this.v_inv]; rfl
 have hokx : ∀ y ∈ xs, okV (enc y) = true := fun y hy => by
  obtain ⟨j, hj⟩ := List.getElem?_of_mem hy
  have hlt := (List.getElem?_eq_some_iff.1 hj).1
  have hlu : j < us.length := by rw [hus, List.length_map]; exact hlt
  have := hrs.2 j (.v (enc y)) us[j] (by rw [hflat, List.getElem?_map, hj]; rfl) (List.getElem?_eq_getElem hlu)
  exact this.okVv
 have hcur : xs.length ≤ cur.size := by rw [hc3, Nat.mul_one]; exact hc1
 have hH : Sort.Holds enc w gb 0 xs.toArray := by
  intro j hj
  rw [List.size_toArray] at hj
  have h9 : us[j]? = some (enc xs.toArray[j]!) := by
   rw [hus, List.getElem?_map, List.getElem?_eq_getElem hj, getElem!_pos xs.toArray j (by simpa using hj)]
   simp
  rw [hc4, List.getElem?_take_of_lt (by omega), Array.getElem?_toList] at h9
  refine ⟨by rw [Nat.zero_add]; exact jw hh h9, ?_⟩
  simp [World.frozen?, hh]
 have hO : OneCell enc := h1c
 have hcall := AnyE.slices_DeleteFunc L enc hO p g #[] (fun args w => ro args w) zr hz gb 0 cap xs.toArray w
  (fun W y _ => by
   unfold FnGives
   exact hp W y)
  (fun n' os dk y _ => by
   unfold FnGives
   exact hp _ y) hH (by simpa using hmx) (by simpa using hc1)
 rw [List.size_toArray] at hcall
 refine hcall.mono ?_
 rintro e' w' ⟨rfl, qn, hw⟩
 have hfl : (xs.filter fun y => !p y).length ≤ xs.length := List.length_filter_le _ _
 generalize hys : (xs.filter fun y => !p y) = ys at hw h hfl ⊢
 have hyx : ∀ y ∈ ys, y ∈ xs := fun y hy => by rw [← hys] at hy; exact (List.mem_filter.1 hy).1
 generalize hD : (ys ++ List.replicate (xs.length - ys.length) zr).toArray = D at hw
 have hDs : D.size = xs.length := by rw [← hD]; simp; omega
 have hDt : D.toList.take ys.length = ys := by rw [← hD]; simp
 subst hw
 have hnew := udk enc (n := qn) D hh
 have hblk : blk val = some gb := by rw [hval]; rfl
 have hchg : Chg E w (Sort.putRow enc (Sort.ahead w qn) gb 0 D) ver wv val (ver + 1) wv (.slice (some ⟨gb, 0, none⟩) ys.length cap) 0 := by
  refine ⟨⟨rfl, rfl, rfl, ?_, fun k hk => w9 enc D (by omega)⟩, fun k hk hne => w9 enc D fun e => hne (by rw [e, hblk]), fun b hb => .inl ⟨?_, ?_⟩, fun b i hb hi => ?_, .inl (Nat.lt_succ_self _), fun b o hb ho => ?_, fun _ b hb => ?_, fun b _ hl => absurd hl (Nat.not_lt_zero _)⟩
  ·rw [Sort.size_putRow]; exact Nat.le_refl _
  ·simp only [blk, Option.some.injEq] at hb; subst hb; exact hblk
  ·simp only [blk, Option.some.injEq] at hb; subst hb; rw [hL _ hblk]; exact Nat.le_refl _
  ·rw [hL b hb] at hi; omega
  ·rw [hblk] at hb; cases hb; rw [hh] at ho; cases ho; exact ⟨_, hnew, rfl⟩
  ·simp only [blk, Option.some.injEq] at hb; subst hb; exact ⟨_, hnew, rfl⟩
 have hev := Ev.chg hsim.g hT hchg
 have hobj : ObjOk (E.chg n (ver + 1, wv, .slice (some ⟨gb, 0, none⟩) ys.length cap) 0) (Sort.putRow enc (Sort.ahead w qn) gb 0 D) n (.arr (ver + 1) wv e 1 ys.length (cy ys)) := by
  refine ⟨_, ys.map enc, by simp [Env.chg], ⟨by simp, .inr ⟨gb, cap, _, rfl, hgB, hnew, by omega, hc2, ?_, ?_⟩⟩, fun c hc => ?_, ?_, fun b hb => by simp [Env.chg, hb], Nat.le_refl _⟩
  ·simp only [Sort.putCells, Array.size_mapIdx]; exact hc3
  ·rw [Nat.mul_one, z6 enc _ _ _ (by omega) (by omega), hDt]
  ·rw [hflat] at hc
   obtain ⟨y, _, rfl⟩ := List.mem_map.1 hc
   rfl
  ·refine ⟨by rw [hflat]; simp, fun j c v hc hv => ?_⟩
   rw [hflat, List.getElem?_map] at hc
   rw [List.getElem?_map] at hv
   cases hj : ys[j]? with
   | none => rw [hj] at hc; cases hc
   | some y =>
    rw [hj] at hc hv
    cases hc; cases hv
    exact .v (hokx y (hyx y (List.mem_of_getElem? hj)))
 refine hq _ _ _ _ hev ((hsim.evd hev (SimG.chg hsim.g hT hchg hobj)).put o.dst (.own ?_ (by omega) h7 fun ver' wv' val' ht => ?_)) h
 ·exact q1
 ·simp only [Env.chg, if_true, Option.some.injEq, Prod.mk.injEq] at ht
  obtain ⟨rfl, rfl, rfl⟩ := ht
  exact ⟨Nat.le_refl _, fun _ => ⟨_, Nat.le_refl _, rfl⟩⟩
end
end Go.AB
namespace Go.AB
open Go Go.RowKit
open Go.AB.Enc (cells)
variable {ρ : Option Nat}
section
variable {P : Program} {Q : Exit → St → Prop} {st : St}
theorem Back.simN {E0 E' : Env} {w0 w' : World} {a0 a' : Act} {st' : St} {u : List (Nat × C)} {g : Nat → Option GObj} {M : Nat} (h0 : Sim E0 w0 st a0) (hr : st.r = []) (hM : st.nx ≤ M) (hb : Back { st with nx := M } u g st') (hu : mi M u) (hg : ∀ n o, g n = some o → st.G n = some o ∨ (n < M ∧ o.low M))
  (hev : Ev E0 w0 E' w') (hs : Sim E' w' st' a') : Ev E0 w0 (E'.drop M) w' ∧ Sim (E'.drop M) w' { st with r := u, G := g, nx := M } a' := by
 have h1 := h0.g.nx
 refine ⟨hev.drop (by omega), ?_⟩
 have hlow : ∀ i, i < st.n → (cq st.l u i).low M := fun i hi => by
  rcases oo st.l u i with ⟨p, hp, _, he⟩ | ⟨_, he⟩
  ·rw [he]; exact sf hu p hp
  ·rw [he]
   have := h0.low i hi
   rw [hr] at this
   exact C.low.mono this hM
 have hcl : ∀ i, cq st.l u i = .any ∨ cq st.l u i = cq st'.l st'.r i := fun i => by
  by_cases hi : i < st.l.length
  ·rcases qk _ _ hb.fits i (Nat.zero_le _) (by show i < 0 + st.l.length; omega) with h | h
   ·exact .inl h
   ·exact .inr h.symm
  ·rcases oo st.l u i with ⟨p, hp, he, he2⟩ | ⟨_, he⟩
   ·rcases hb.keys with hk | hk
    ·have h2 : p.1 < st.l.length := qa hk p hp
     omega
    ·rcases qj hk p hp with h | h
     ·left; rw [he2, h]
     ·right; rw [he2, ← h, he]
   ·left; rw [he, List.getD_eq_getElem?_getD, List.getElem?_eq_none (by omega)]; rfl
 refine hs.dropTo (st' := { st with r := u, G := g, nx := M }) hb.n.1.symm hb.n.2.symm hb.nx (fun i hi => ?_) fun n o ho => ⟨hb.G n o ho, ?_⟩
 ·rcases hcl i with h2 | h2
  ·exact .inl h2
  ·exact .inr ⟨h2, hlow i (hb.n.1 ▸ hi)⟩
 ·rcases hg n o ho with h2 | h2
  ·have := h0.lowG n o h2
   exact ⟨by have := this.1; show n < M; omega, GObj.low_mono this.2 hM⟩
  ·exact h2
/-- A loop whose rounds may make names, of which some stay. -/
theorem qw {X : Type} {c : Code} (I : X → Prop) (μ : X → Nat) (u : X → List (Nat × C)) (g : X → (Nat → Option GObj) → Nat → Option GObj) (N : X → Nat) (x0 : X) (hr : st.r = []) (h0 : I x0) (e0 : l4 st.l [] (u x0)) (n0 : N x0 = st.nx) (g0 : ∀ n o, g x0 st.G n = some o → st.G n = some o)
  (hN : ∀ x, I x → st.nx ≤ N x) (hu : ∀ x, I x → mi (N x) (u x)) (hg : ∀ x, I x → ∀ n o, g x st.G n = some o → st.G n = some o ∨ (n < N x ∧ o.low (N x)))
  (round : ∀ x, I x → AW ρ P c (jz (fun st' => ∃ x', μ x' < μ x ∧ I x' ∧ Back { st with nx := N x' } (u x') (g x' st.G) st') Q) { st with r := u x, G := g x st.G, nx := N x }) : AW ρ P (.loop c) Q st := by
 intro E w a hs
 refine s4 (fun m a1 w1 => ∃ x E1, m = μ x ∧ I x ∧ Ev E w E1 w1 ∧ Sim E1 w1 { st with r := u x, G := g x st.G, nx := N x } a1) (μ x0) ⟨x0, E, rfl, h0, Ev.refl E w, ?_⟩ ?_
 ·have h1 : Sim E w { st with r := u x0 } a := le_r (n := st.n) (G := st.G) (nx := st.nx) (df := st.df) e0 rfl E w a (by rw [← hr]; exact hs)
  rw [n0]
  exact le_G (st := { st with r := u x0 }) g0 E w a h1
 ·rintro m a1 w1 ⟨x, E1, rfl, hI, hev, hs1⟩
  refine gd ?_ (round x hI E1 w1 a1 hs1)
  rintro e a' w' ⟨st', E', h1, h2, h3⟩
  cases e with
  | normal =>
   obtain ⟨x', h4, h5, h6⟩ := h3
   obtain ⟨h7, h8⟩ := Back.simN hs hr (hN x' h5) h6 (hu x' h5) (hg x' h5) (hev.trans h1) h2
   exact ⟨μ x', h4, x', _, rfl, h5, h7, h8⟩
  | _ => exact kp (hev.trans h1) ⟨st', E', Ev.refl _ _, h2, h3⟩
end
section
variable {P : Program} {o : Oper} {st : St} {K : St → Prop}
/-- A nil slice in a slot gets a name, ahead of an operation. -/
theorem x6 (i : Nat) (e : TypeId) (sz : Nat) (h0 : st.at i = .list [] .nil) (hsz : 1 ≤ sz) (h : EStep P o { st with r := (i, .list [] (.tip st.nx)) :: st.r, G := bc st.G st.nx (.tip 0 e sz), nx := st.nx + 1 } K) : EStep P o st K := by
 intro E w a hs
 have hnx := hs.g.nx
 have hev := Ev.name hs.g (.slice none 0 0) (fun b o hb _ => by simp [blk] at hb)
 have hg := SimG.name hs.g (.slice none 0 0) (.tip 0 e sz) (fun b hb => by simp [blk] at hb) ⟨.slice none 0 0, [], by simp [Env.name, hnx], World.ownsRow_nil _ _ _ _, fun b hb => by simp [blk] at hb, hsz⟩
 have hp := hs.at i
 rw [h0] at hp
 have hs2 := hs.evd hev hg
 have hs3 : Sim (E.name (.slice none 0 0)) w { st with r := (i, .list [] (.tip st.nx)) :: st.r, G := bc st.G st.nx (.tip 0 e sz), nx := st.nx + 1 } a := by
  refine ⟨hs.d.ev hev, hs.sz, fun j v hj => ?_, hg⟩
  simp only [cq]
  cases hb : Nat.beq i j
  ·exact hs2.t j v hj
  ·have hij := Nat.eq_of_beq_eq_true hb
   subst hij
   have hv : a.tmps.getD i undef = v := by rw [Array.getD_eq_getD_getElem?, hj]; rfl
   rw [hv] at hp
   obtain ⟨as1, cap, s, us, rfl, h1, h2, _, _, _, _, _, z1, _⟩ := hp.list_inv
   obtain ⟨rfl, rfl⟩ := z1 rfl
   exact R.mk_list (rows := []) (sz := 1) (us := []) (Nat.le_refl _) (Nat.zero_le _) (Nat.le_refl _) (by simp) (by simp) Rs.nil (.inl rfl) (by simp) (by simp) fun n hn => by
    simp only [Tok.tip.injEq] at hn
    subst hn
    refine ⟨by simp [Env.name]; omega, fun ver wv val ht => ?_⟩
    simp only [Env.name] at ht
    rw [if_pos (by omega)] at ht
    simp only [Option.some.injEq, Prod.mk.injEq] at ht
    obtain ⟨rfl, rfl, rfl⟩ := ht
    exact ⟨Nat.le_refl _, fun _ => rfl⟩
 exact fun Kr Q hq => h _ w a hs3 Kr Q fun a' w' st' E' hev' => hq a' w' st' E' (hev.trans hev')
end
/-- What is looked up, as it is said. -/
theorem ue {P : Program} {o : Oper} {st : St} {α : Type} [KeyV α] {D : Nat → Prop} {t k e : TypeId} [MapT P t k e] [KeyT P k α] {x i : Operand} {n wv : Nat} {m : α → Option C} {c : C} {z : Value} [Zero P e z] (key : α) (ho : o.op = .lookup t x i false) (hx : evC st x = .map n) (hG : st.G n = some (ei P k wv m)) (hD : D n) (hi : evC st i = KeyV.kc key) (hc : (m key).getD (jl z) = c) : SStep P D o st c := by
 subst hc
 exact uf key ho hx hG hD hi rfl
end Go.AB
namespace Go.AB
open Go Go.RowKit
open Go.Maps (Keyed)
/-- A map whose clock is bounded. -/
def okN (P : Program) (k : TypeId) (α : Type) [KeyV α] (N : Nat) : List MapEntry → Nat → Prop := fun es cl => okK P k α es cl ∧ cl ≤ N
/-- .. of which an entry is in hand. -/
def okP (P : Program) (k : TypeId) (α : Type) [KeyV α] (N : Nat) (x : α) (s : Nat) : List MapEntry → Nat → Prop := fun es cl => okK P k α es cl ∧ cl ≤ N ∧ ∃ e ∈ es, e.key = KeyV.kv x ∧ e.born = s
noncomputable def js (P : Program) (k : TypeId) {α : Type} [KeyV α] (wv N : Nat) (m : α → Option C) : GObj := .map wv (okN P k α N) (gp m)

section
variable {P : Program} {k t e : TypeId} {w : World} {r : Nat} {es : Array MapEntry} {clock : Nat}
theorem ub6 (K : Keyed P k) (ht : P.underlying t = some (.map k e)) (hb : w.heap[r]? = some (.map es clock))
  (h1 : ∀ e ∈ es.toList, ∃ l, keyOf P k e.key = some l) {key : Value} {kl : Lit} (hkey : keyOf P k key = some kl) (val : Value) {es' : Array MapEntry} {clock' : Nat}
  (h : (Instr.mapUpdate t (.map (some r)) key val).run P w = .ok () (ChangeMaps.setBlock w r (.map es' clock'))) : clock' ≤ clock + 1 := by
 have hn := ChangeMaps.heap_setBlock_same hb (.map es' clock')
 rcases K.find w hkey es.toList h1 with ⟨hf, _⟩ | ⟨j, e0, hf, hj, hk⟩
 ·have h2 : (Instr.mapUpdate t (.map (some r)) key val).run P w = .ok () (ChangeMaps.setBlock w r (.map (es.push ⟨key, val, clock⟩) (clock + 1))) := by
   simp [Instr.mapUpdate, run_underlying ht, MapKept.run_getObj_map hb, K.check w false hkey, hf, MapKept.run_setObj_map _ hb, Result.andThen, ChangeMaps.setBlock]
  rw [h] at h2
  injection h2 with _ h2
  rw [h2, ChangeMaps.heap_setBlock_same hb] at hn
  injection hn with hn
  injection hn with _ hn
  omega
 ·have hj' : es[j]? = some e0 := by simpa using hj
  have h2 : (Instr.mapUpdate t (.map (some r)) key val).run P w = .ok () (ChangeMaps.setBlock w r (.map (es.modify j fun e' => { e' with key := key, val := val }) clock)) := by
   simp [Instr.mapUpdate, run_underlying ht, MapKept.run_getObj_map hb, K.check w false hkey, hf, hj', hk, K.stays w hkey, MapKept.run_setObj_map _ hb, Result.andThen, ChangeMaps.setBlock]
  rw [h] at h2
  injection h2 with _ h2
  rw [h2, ChangeMaps.heap_setBlock_same hb] at hn
  injection hn with hn
  injection hn with _ hn
  omega
theorem ub7 (K : Keyed P k) (ht : P.underlying t = some (.map k e)) (hb : w.heap[r]? = some (.map es clock)) {z : Value} (hz : (zeroValue e).run P w = .ok z w)
  (h1 : ∀ e ∈ es.toList, ∃ l, keyOf P k e.key = some l) {key : Value} {kl : Lit} (hkey : keyOf P k key = some kl) :
  ∃ (v0 : Value) (s : Nat) (w' : World), (Instr.mapEntry t (.map (some r)) key).run P w = .ok (.tuple #[v0, goInt s]) w' ∧ (Instr.mapUpdate t (.map (some r)) key v0).run P w = .ok () w' ∧
   ((∃ e0 ∈ es.toList, e0.key = key ∧ v0 = e0.val ∧ s = e0.born) ∨ ((∀ x ∈ es.toList, x.key ≠ key) ∧ v0 = z ∧ s = clock)) := by
 rcases K.find w hkey es.toList h1 with ⟨hf, hn⟩ | ⟨j, e0, hf, hj, hk⟩
 ·refine ⟨z, clock, ChangeMaps.setBlock w r (.map (es.push ⟨key, z, clock⟩) (clock + 1)), ?_, ?_, .inr ⟨hn, rfl, rfl⟩⟩
  ·simp [Instr.mapEntry, run_underlying ht, MapKept.run_getObj_map hb, K.check w false hkey, hf, hz, MapKept.run_setObj_map _ hb, Result.andThen, ChangeMaps.setBlock]
  ·simp [Instr.mapUpdate, run_underlying ht, MapKept.run_getObj_map hb, K.check w false hkey, hf, MapKept.run_setObj_map _ hb, Result.andThen, ChangeMaps.setBlock]
 ·have hj' : es[j]? = some e0 := by simpa using hj
  have hsame : ∀ f : MapEntry → MapEntry, f e0 = e0 → es.modify j f = es := fun f hf => by
   apply Array.ext'
   rw [Array.toList_modify, ChangeMaps.modify_eq_set _ _ _ _ hj, hf]
   exact WideElems.set_self _ _ _ hj
  refine ⟨e0.val, e0.born, ChangeMaps.setBlock w r (.map es clock), ?_, ?_, .inl ⟨e0, List.mem_of_getElem? hj, hk, rfl, rfl⟩⟩
  ·have := hsame (fun e => { e with key := key }) (by rw [← hk])
   simp [Instr.mapEntry, run_underlying ht, MapKept.run_getObj_map hb, K.check w false hkey, hf, hj', hk, K.stays w hkey, this, MapKept.run_setObj_map _ hb, Result.andThen, ChangeMaps.setBlock]
  ·have := hsame (fun e => { e with key := key, val := e0.val }) (by rw [← hk])
   simp [Instr.mapUpdate, run_underlying ht, MapKept.run_getObj_map hb, K.check w false hkey, hf, hj', hk, K.stays w hkey, this, MapKept.run_setObj_map _ hb, Result.andThen, ChangeMaps.setBlock]
theorem uds (K : Keyed P k) (ht : P.underlying t = some (.map k e)) (hb : w.heap[r]? = some (.map es clock)) (h1 : ∀ e ∈ es.toList, ∃ l, keyOf P k e.key = some l) (h2 : es.toList.Pairwise fun a b => a.key ≠ b.key) (h3 : es.toList.Pairwise fun a b => a.born ≠ b.born)
  {key : Value} {kl : Lit} (hkey : keyOf P k key = some kl) {e0 : MapEntry} (he0 : e0 ∈ es.toList) (hk0 : e0.key = key) (val : Value) :
  ∃ w', (Instr.entryStore t (.map (some r)) (goInt e0.born) val).run P w = .ok () w' ∧ (Instr.mapUpdate t (.map (some r)) key val).run P w = .ok () w' := by
 rcases K.find w hkey es.toList h1 with ⟨hf, hn⟩ | ⟨j, e1, hf, hj, hk⟩
 ·exact absurd hk0 (hn e0 he0)
 ·have : e1 = e0 := Go.entry_eq_of_key h2 (List.mem_of_getElem? hj) he0 (hk.trans hk0.symm)
  subst this
  have hj' : es[j]? = some e1 := by simpa using hj
  have hidx : es.findIdx? (fun e => ((e.born : Nat) : Int) == ((e1.born : Nat) : Int)) = some j := by
   rw [WideElems.findIdx_arr]
   exact WideElems.findIdx_born (List.pairwise_map.2 h3) hj
  refine ⟨ChangeMaps.setBlock w r (.map (es.modify j fun e' => { e' with key := key, val := val }) clock), ?_, ?_⟩
  ·have hmod : es.modify j (fun e => { e with val := val }) = es.modify j (fun e' => { e' with key := key, val := val }) := by
    apply Array.ext'
    rw [Array.toList_modify, Array.toList_modify, ChangeMaps.modify_eq_set _ _ _ _ hj, ChangeMaps.modify_eq_set _ _ _ _ hj, ← hk]
   simp [Instr.entryStore, MapKept.run_getObj_map hb, asInt, asIntOf, goInt, hidx, hmod, MapKept.run_setObj_map _ hb, Result.andThen, ChangeMaps.setBlock]
  ·simp [Instr.mapUpdate, run_underlying ht, MapKept.run_getObj_map hb, K.check w false hkey, hf, hj', hk, K.stays w hkey, MapKept.run_setObj_map _ hb, Result.andThen, ChangeMaps.setBlock]
end
section
variable {P : Program} {o : Oper} {st : St} {K : St → Prop} {α : Type} [KeyV α]
/-- What an update leaves, in one world. -/
theorem wg [DecidableEq α] {t k e : TypeId} [MapT P t k e] [KeyT P k α] {n wv : Nat} {ok ok' : List MapEntry → Nat → Prop} {m m' : α → Option C} {c : C} (key : α) {E : Env} {w : World} {a : Act} (hs : Sim E w st a) {r : Nat} {es : Array MapEntry} {clock : Nat} (hT : E.T n = some (0, wv, .map (some r))) (hh : w.heap[r]? = some (.map es clock)) (hok : MapOk E w ok (gp m) es.toList clock) (hcl : es.all (·.born < clock) = true) (hk0 : ∀ es cl, ok es cl → okK P k α es cl)
  {i : C} {vi : Value} (hi : i = KeyV.kc key) (hkr : R E w i vi) {v0 : Value} (hv : R E w c v0) (hm : fx m key c = m')
  (hnw : ∀ (es' : List MapEntry) (clock' : Nat), (∀ e ∈ es', (okK1 P k α e ∧ e.key = KeyV.kv key ∧ ((∃ e0 ∈ es.toList, e0.key = KeyV.kv key ∧ e0.born = e.born) ∨ ((∀ e0 ∈ es.toList, e0.key ≠ KeyV.kv key) ∧ e.born = clock))) ∨ (e ∈ es.toList ∧ e.key ≠ KeyV.kv key)) → (∃ e ∈ es', e.key = KeyV.kv key) → clock' ≤ clock + 1 → ((∃ e0 ∈ es.toList, e0.key = KeyV.kv key) → clock' = clock) → ok' es' clock')
  {w' : World} (hrw : (Instr.mapUpdate t (.map (some r)) (KeyV.kv key) v0).run P w = .ok () w') :
  ∃ E', Ev E w E' w' ∧ Sim E' w' { st with G := bc st.G n (.map (wv + 1) ok' (gp m')) } a := by
 subst hm; subst hi
 obtain ⟨kl, hkey⟩ := KeyT.has (P := P) (k := k) hkr
 have ht := MapT.spec (P := P) (t := t) (k := k) (e := e)
 have Kd := KeyT.keyed (P := P) (k := k) (α := α)
 have hkl : ∀ e ∈ es.toList, ∃ l, keyOf P k e.key = some l := fun e he => let ⟨_, l, _, h, _⟩ := hk0 _ _ hok.ok e he; ⟨l, h⟩
 obtain ⟨es', clock', hrun, h1, h2, h3, h4, h5, h6, h7⟩ := wb (w := w) Kd ht hh hkl hok.pw hkey v0 hcl
 have hclk := ub6 Kd ht hh hkl hkey v0 hrun
 rw [hrun] at hrw
 injection hrw with _ hrw
 subst hrw
 have hnew : (ChangeMaps.setBlock w r (.map es' clock')).heap[r]? = some (.map es' clock') := ChangeMaps.heap_setBlock_same hh _
 have hchg : Chg E w (ChangeMaps.setBlock w r (.map es' clock')) 0 wv (.map (some r)) 0 (wv + 1) (.map (some r)) (E.L r) := by
  have hbn := hs.g.tb n _ _ _ r hT rfl
  refine ⟨⟨rfl, rfl, rfl, by simp [ChangeMaps.setBlock], fun k hk => pc w r k _ (by omega)⟩, fun k _ hk => pc w r k _ (fun e => hk (by simp [blk, e])), fun b hb => .inl ⟨hb, ?_⟩, fun b i hb hi => ?_, .inr ⟨rfl, rfl, by omega⟩, fun b o hb ho => ?_, fun hv => absurd hv (Nat.lt_irrefl _), fun b hb hl => ?_⟩
  ·simp only [blk, Option.some.injEq] at hb; subst hb; exact Nat.le_refl _
  ·simp only [blk, Option.some.injEq] at hb; subst hb
   simp [World.cell?, hh, hnew]
  ·simp only [blk, Option.some.injEq] at hb; subst hb; rw [hh] at ho; cases ho; exact ⟨_, hnew, rfl⟩
  ·simp only [blk, Option.some.injEq] at hb; subst hb; omega
 have hev := Ev.chg hs.g hT hchg
 have hobj : ObjOk (E.chg n (0, wv + 1, .map (some r)) (E.L r)) (ChangeMaps.setBlock w r (.map es' clock')) n (.map (wv + 1) ok' (gp (fx m key c))) := by
  refine ⟨r, es', clock', by simp [Env.chg], hnew, ⟨?_, h2, h6 hok.pb, fun e he => ?_, fun x c hx => ?_⟩, h5⟩
  ·refine hnw es'.toList clock' (fun e he => ?_) h3 hclk h7
   rcases h1 e he with ⟨h, _, hb⟩ | ⟨h, hne⟩
   ·exact .inl ⟨⟨key, kl, h, h ▸ hkey, fun E' w' => h ▸ KeyV.any hkr E' w'⟩, h, hb⟩
   ·exact .inr ⟨h, hne⟩
  ·rcases h1 e he with ⟨hk, hv', _⟩ | ⟨hm, hne⟩
   ·refine ⟨c, by rw [hk, gh]; simp [fx], ?_⟩
    rw [hv']
    exact hv.ev hev
   ·obtain ⟨c, hc, hr⟩ := hok.val e hm
    refine ⟨c, ?_, hr.ev hev⟩
    obtain ⟨y, l, hy, _⟩ := hk0 _ _ hok.ok e hm
    rw [hy, gh] at hc ⊢
    have : y ≠ key := fun e2 => hne (by rw [hy, e2])
    simp [fx, this, hc]
  ·by_cases hex : ∃ y : α, x = KeyV.kv y
   ·obtain ⟨y, rfl⟩ := hex
    rw [gh] at hx
    by_cases hyk : y = key
    ·subst hyk; exact h3
    ·simp only [fx, hyk, if_false] at hx
     obtain ⟨e, he, hek⟩ := hok.has (KeyV.kv y) c (by rw [gh]; exact hx)
     exact ⟨e, h4 e he (by rw [hek]; exact fun e2 => hyk (KeyV.inj e2)), hek⟩
   ·rw [m2 _ hex] at hx; cases hx
 exact ⟨_, hev, hs.evd hev (SimG.chg hs.g hT hchg hobj)⟩
/-- An entry is taken. -/
theorem ql [DecidableEq α] {t k e : TypeId} [MapT P t k e] [KeyT P k α] {x i : Operand} {n wv N : Nat} {m m' : α → Option C} {z : Value} [Zero P e z] {c : C} (key : α) (ho : o.op = .mapEntry t x i) (hx : evC st x = .map n) (hG : st.G n = some (js P k wv N m)) (hi : evC st i = KeyV.kc key) (hN : N ≤ 9223372036854775807) (hc : (m key).getD (jl z) = c) (hm : fx m key c = m')
  (h : ∀ s : Nat, K (St.put { st with G := bc st.G n (.map (wv + 1) (okP P k α (N + 1) key s) (gp m')) } o.dst (.tup [c, .v (.int .i64 (s : Int))]))) : EStep P o st K := fun E w a hs Kr Q hq => by
 obtain ⟨r, es, clock, hT, hh, hok, hcl⟩ := hs.g.obj n _ hG
 have e1 := pv (hx ▸ hs.ev x) hT
 have hkr := hs.ev i
 rw [hi] at hkr
 have e2 := KeyV.inv hkr
 obtain ⟨kl, hkey⟩ := KeyT.has (P := P) (k := k) hkr
 have ht := MapT.spec (P := P) (t := t) (k := k) (e := e)
 have Kd := KeyT.keyed (P := P) (k := k) (α := α)
 have hkl : ∀ e ∈ es.toList, ∃ l, keyOf P k e.key = some l := fun e he => let ⟨_, l, _, h, _⟩ := hok.ok.1 e he; ⟨l, h⟩
 obtain ⟨v0, s, w', h1, h2, h3⟩ := ub7 Kd ht hh (Zero.run (P := P) (t := e) (v := z) (w := w)) hkl hkey
 have hcl' : ∀ e ∈ es.toList, e.born < clock := fun e he => by simpa using Array.all_eq_true_iff_forall_mem.1 hcl e (by simpa using he)
 have hs63 : s ≤ N := by
  rcases h3 with ⟨e0, h4, _, _, rfl⟩ | ⟨_, _, rfl⟩
  ·have := hcl' e0 h4
   have := hok.ok.2
   omega
  ·exact hok.ok.2
 have hv0 : R E w c v0 := by
  rcases h3 with ⟨e0, h4, h5, rfl, _⟩ | ⟨h4, rfl, _⟩
  ·obtain ⟨c', hc', hr'⟩ := hok.val e0 h4
   rw [h5, gh] at hc'
   rw [hc'] at hc
   exact hc ▸ hr'
  ·have : m key = none := by
    cases hmk : m key with
    | none => rfl
    | some c' =>
     obtain ⟨e0, h5, h6⟩ := hok.has (KeyV.kv key) c' (by rw [gh, hmk])
     exact absurd h6 (h4 e0 h5)
   rw [this] at hc
   exact hc ▸ R.const E w _
 obtain ⟨E', hev, hs'⟩ := wg (ok' := okP P k α (N + 1) key s) (e := e) key hs hT hh hok hcl (fun _ _ h => h.1) rfl hkr hv0 hm (fun es' clock' he hex hc1 hc2 => by
  refine ⟨fun e h => ?_, by have := hok.ok.2; omega, ?_⟩
  ·rcases he e h with h | h
   ·exact h.1
   ·exact hok.ok.1 e h.1
  ·obtain ⟨e, h4, h5⟩ := hex
   refine ⟨e, h4, h5, ?_⟩
   rcases he e h4 with ⟨_, _, ⟨e0, h6, h7, h8⟩ | ⟨h6, h7⟩⟩ | ⟨_, h6⟩
   ·rcases h3 with ⟨e0', h9, h10, _, rfl⟩ | ⟨h9, _, _⟩
    ·have : e0 = e0' := Go.entry_eq_of_key hok.pw h6 h9 (h7.trans h10.symm)
     rw [← h8, this]
    ·exact absurd h7 (h9 e0 h6)
   ·rcases h3 with ⟨e0', h9, h10, _, _⟩ | ⟨_, _, rfl⟩
    ·exact absurd h10 (h6 e0' h9)
    ·exact h7
   ·exact absurd h5 h6) h2
 unfold Oper.wp
 have hex : (execOp a.eval o).run P w = .ok (.value (.tuple #[v0, goInt s])) w' := by simp [execOp, ho, e1, e2, h1]
 rw [hex]
 exact hq _ _ _ _ hev (hs'.put o.dst ((Rs.cons (hv0.ev hev) (Rs.cons (.v (jf (by omega))) Rs.nil)).tup)) (h s)
/-- .. and stored. -/
theorem qm [DecidableEq α] {t k e : TypeId} [MapT P t k e] [KeyT P k α] {x i y : Operand} {n wv N s : Nat} {m m' : α → Option C} (key : α) (ho : o.op = .entryStore t x i y) (hd : o.dst = none) (hx : evC st x = .map n) (hG : st.G n = some (.map wv (okP P k α N key s) (gp m))) (hi : evC st i = .v (.int .i64 (s : Int))) (hm : fx m key (evC st y) = m')
  (h : K { st with G := bc st.G n (js P k (wv + 1) N m') }) : EStep P o st K := fun E w a hs Kr Q hq => by
 obtain ⟨r, es, clock, hT, hh, hok, hcl⟩ := hs.g.obj n _ hG
 have e1 := pv (hx ▸ hs.ev x) hT
 have e2 := (hi ▸ hs.ev i).v_inv
 have ht := MapT.spec (P := P) (t := t) (k := k) (e := e)
 have Kd := KeyT.keyed (P := P) (k := k) (α := α)
 obtain ⟨hok1, hok2, e0, he0, hk0, rfl⟩ := hok.ok
 have hkl : ∀ e ∈ es.toList, ∃ l, keyOf P k e.key = some l := fun e he => let ⟨_, l, _, h, _⟩ := hok1 e he; ⟨l, h⟩
 obtain ⟨x0, l0, q1, q2, q3⟩ := hok1 e0 he0
 have : x0 = key := KeyV.inj (q1.symm.trans hk0)
 subst this
 rw [q1] at q2
 obtain ⟨w', h1, h2⟩ := uds Kd ht hh hkl hok.pw hok.pb q2 he0 q1 (a.eval y)
 obtain ⟨E', hev, hs'⟩ := wg (ok' := okN P k α N) (e := e) x0 hs hT hh hok hcl (fun _ _ h => h.1) rfl (q3 E w) (hs.ev y) hm (fun es' clock' he hex hc1 hc2 => by
  refine ⟨fun e h => ?_, by have := hc2 ⟨e0, he0, q1⟩; omega⟩
  rcases he e h with h | h
  ·exact h.1
  ·exact hok1 e h.1) h2
 unfold Oper.wp
 have hex : (execOp a.eval o).run P w = .ok .skip w' := by
  have : a.eval i = goInt e0.born := e2
  simp [execOp, ho, e1, this, h1]
 rw [hex]
 refine hq _ _ _ _ hev ?_ h
 first | exact hs' | (rw [hd]; exact hs') | simpa [Act.put, hd, js] using hs'
/-- A new map. -/
theorem xv {t k e : TypeId} [MapT P t k e] (ho : o.op = .makeMap t none) (h : K (St.put { st with G := bc st.G st.nx (js P k (α := α) 0 0 fun _ => none), nx := st.nx + 1 } o.dst (.map st.nx))) : EStep P o st K :=
 xw (ok := okN P k α 0) ⟨fun e he => by simp at he, Nat.le_refl _⟩ ho h
end
/-- A map whose values are known less well, and whose clock is forgotten. -/
theorem yn {ρ : Option Nat} {P : Program} {Q : Exit → St → Prop} {st : St} {c : Code} {α : Type} [KeyV α] {k : TypeId} {n wv N : Nat} {m m' : α → Option C} (hG : st.G n = some (js P k wv N m)) (hm : ∀ x c, m x = some c → ∃ c', m' x = some c' ∧ ∀ (E : Env) (w : World) (v : Value), R E w c v → R E w c' v) (hm2 : ∀ x c', m' x = some c' → ∃ c, m x = some c) (h : AW ρ P c Q { st with G := bc st.G n (ei P k wv m') }) : AW ρ P c Q st := by
 intro E w a hs
 refine h E w a ⟨hs.d, hs.sz, hs.t, ?_⟩
 refine ⟨hs.g.nx, fun j o ho => ?_, hs.g.lt, hs.g.tb, hs.g.ap, hs.g.fresh, hs.g.base⟩
 simp only [bc] at ho
 split at ho
 ·rename_i ej
  subst ej
  simp only [Option.some.injEq] at ho
  subst ho
  obtain ⟨r, es, clock, h1, h2, h3, h4⟩ := hs.g.obj j _ hG
  refine ⟨r, es, clock, h1, h2, ⟨h3.ok.1, h3.pw, h3.pb, fun e he => ?_, fun x c' hx => ?_⟩, h4⟩
  ·obtain ⟨c, q1, q2⟩ := h3.val e he
   obtain ⟨x, l, q3, _⟩ := h3.ok.1 e he
   rw [q3, gh] at q1 ⊢
   obtain ⟨c', q5, q6⟩ := hm x c q1
   exact ⟨c', q5, q6 E w _ q2⟩
  ·by_cases hex : ∃ y : α, x = KeyV.kv y
   ·obtain ⟨y, rfl⟩ := hex
    rw [gh] at hx
    obtain ⟨c, hc⟩ := hm2 y c' hx
    exact h3.has (KeyV.kv y) c (by rw [gh, hc])
   ·rw [m2 _ hex] at hx; cases hx
 ·exact hs.g.obj j o ho
/-- Three numbers. -/
instance : KeyV Go.PB.PlaceD where
 kv x := .agg #[.int .i64 x.ch, .int .i64 x.ln, .int .i64 x.wd]
 kc x := .agg [.v (.int .i64 x.ch), .v (.int .i64 x.ln), .v (.int .i64 x.wd)]
 inv h := by
  obtain ⟨vs, rfl, h1, _⟩ := h.agg_inv
  match vs, h1 with
  | [a, b, c], h1 =>
   have e1 := (h1.2 0 _ _ rfl rfl).v_inv
   have e2 := (h1.2 1 _ _ rfl rfl).v_inv
   have e3 := (h1.2 2 _ _ rfl rfl).v_inv
   subst e1; subst e2; subst e3; rfl
  | [], h => exact absurd h.1 (by simp)
  | [_], h => exact absurd h.1 (by simp)
  | [_, _], h => exact absurd h.1 (by simp)
  | _ :: _ :: _ :: _ :: _, h => exact absurd h.1 (by simp)
 inj h := by
  rename_i x y
  obtain ⟨a, b, c⟩ := x
  obtain ⟨d, e, f⟩ := y
  simpa using h
 any {E w x v} h E' w' := by
  obtain ⟨vs, rfl, h1, _⟩ := h.agg_inv
  match vs, h1 with
  | [a, b, c], h1 =>
   have e1 := h1.2 0 _ _ rfl rfl
   have e2 := h1.2 1 _ _ rfl rfl
   have e3 := h1.2 2 _ _ rfl rfl
   cases e1 with | v e1 =>
   cases e2 with | v e2 =>
   cases e3 with | v e3 =>
   exact (Rs.cons (.v e1) (Rs.cons (.v e2) (Rs.cons (.v e3) Rs.nil))).agg (by intro c hc; simp only [List.mem_cons, List.not_mem_nil, or_false] at hc; rcases hc with rfl | rfl | rfl <;> rfl)
  | [], h => exact absurd h.1 (by simp)
  | [_], h => exact absurd h.1 (by simp)
  | [_, _], h => exact absurd h.1 (by simp)
  | _ :: _ :: _ :: _ :: _, h => exact absurd h.1 (by simp)
end Go.AB
namespace Go.AB
open Go Go.RowKit
open Go.AB.Enc (cells)
open Go.PB (Chap bd PlaceD bh CopyD bw)
/-- the first of some numbers that is not nought -/
def orP (xs : List Int) : Int := (xs.find? fun x => !decide (x = 0)).getD 0
theorem ubk {xs : List Int} {k : Nat} {x : Int} (hx : xs[k]? = some x) (hne : x ≠ 0) (h : ∀ y ∈ xs.take k, y = 0) : orP xs = x := by
 unfold orP
 rw [List.find?_eq_some_iff_append.2 ⟨by simpa using hne, xs.take k, xs.drop (k + 1), ?_, fun y hy => by simp [h y hy]⟩]
 ·rfl
 ·obtain ⟨h1, h2⟩ := List.getElem?_eq_some_iff.1 hx
  rw [← h2, ← List.drop_eq_getElem_cons h1, List.take_append_drop]
theorem ubl {xs : List Int} (h : ∀ y ∈ xs, y = 0) : orP xs = 0 := by
 unfold orP
 rw [List.find?_eq_none.2 fun y hy => by simp [h y hy]]
 rfl
theorem ubm (a b : PlaceD) : orP [fl a.ch b.ch, fl a.ln b.ln, fl a.wd b.wd] = gt a b := by
 obtain ⟨a1, a2, a3⟩ := a
 obtain ⟨b1, b2, b3⟩ := b
 have key : ∀ x y : Int, (x < y ∧ ¬ y < x ∧ ¬ x = y) ∨ (y < x ∧ ¬ x < y ∧ ¬ x = y) ∨ x = y := fun x y => by omega
 rcases key a1 b1 with ⟨h1, h2, h3⟩ | ⟨h1, h2, h3⟩ | rfl
 ·simp [orP, fl, gt, h1, h2, h3]
 ·simp [orP, fl, gt, h1, h2, h3]
 ·rcases key a2 b2 with ⟨h1, h2, h3⟩ | ⟨h1, h2, h3⟩ | rfl
  ·simp [orP, fl, gt, h1, h2, h3]
  ·simp [orP, fl, gt, h1, h2, h3]
  ·rcases key a3 b3 with ⟨h1, h2, h3⟩ | ⟨h1, h2, h3⟩ | rfl
   ·simp [orP, fl, gt, h1, h2, h3]
   ·simp [orP, fl, gt, h1, h2, h3]
   ·simp [orP, fl, gt]
theorem mg {α : Type} {l : List α} {k : Nat} {x : α} {p : α → Prop} (hx : l[k]? = some x) (hp : p x) (h : ∀ y ∈ l.take k, p y) : ∀ y ∈ l.take (k + 1), p y := fun y hy => by
 rw [List.take_add_one, hx] at hy
 simp only [Option.toList_some, List.mem_append, List.mem_singleton] at hy
 rcases hy with hy | rfl
 ·exact h y hy
 ·exact hp
/-- what a kind of readings asks, and makes -/
def oe (k : Nat) (own put : ByteArray) : Bool := bif decide (k = 1) then decide (put = ByteArray.empty) else bif decide (k = 2) then e8 put else e8 put && !decide (put = own)
def g8 (k : Nat) (own put : ByteArray) : List ByteArray := bif decide (k = 1) then [] else bif decide (k = 2) then [put, own] else [put]
def jq (k : Nat) : Int := bif decide (k = 2) then 1 else 0
def ll (c : CopyD) : Bool := decide (30 < c.rs.length) || c.rs.any fun r => decide (40 < r.word.size)
theorem ko {P : Program} {o : Oper} {st : St} {t : TypeId} {x i : Operand} {m j : Nat} {v : Value} {cs : List C} {d : C} {ds : List C} {e : TypeId} {ik : IntKind} {n : Int} {k sz : Nat} {ag : Bool} [ArrT P t m e] [Ty P e ag sz] (ho : o.op = .indexAddr t x i) (hx : evC st x = .v v) (hG : st.G j = some (.fact v (.elem cs))) (hi : evC st i = .v (.int ik n)) (hn : n = (k : Int)) (hk : k < m) (hd : cs.drop (k * sz) = d :: ds) : NStep P o st (.elem (d :: ds)) := fun E w a hs => by
 subst hn
 have e1 := (hi ▸ hs.ev i).v_inv
 have e0 := (hx ▸ hs.ev x).v_inv
 obtain ⟨b, off, us, hv, h1, h2, h3, h4, _⟩ := (hs.g.obj j _ hG).2.elem_inv
 refine ⟨.pointer (some ⟨b, off + k * sz, none⟩), hd ▸ R.elem_drop h1 h2 h3 h4 (k * sz) (by rw [hd]; simp), fun w' => ?_⟩
 have q1 := ArrT.spec (P := P) (t := t) (n := m) (e := e)
 have q2 := Ty.size (P := P) (w := w') (t := e) (ag := ag) (n := sz)
 have q3 : (k : Int) < (m : Int) := by omega
 simp [execOp, ho, Instr.indexAt, Instr.sureAddr, e0, hv, e1, asIntOf, run_underlying q1, q2, q3, lz]
 intro h; omega
/-- A call that leaves all as it was, where a fact is known by a name. -/
def gx (n : Nat) (F : GObj) (P : Program) (f : FuncId) (args : List C) (r : C) : Prop := ∀ G nx, G n = some F → n < nx → PC P f args G nx fun r' G' nx' => r' = r ∧ G' = G ∧ nx' = nx
theorem Pure.n {n : Nat} {F : GObj} {P : Program} {f : FuncId} {args : List C} {r : C} (h : Pure P f args r) : gx n F P f args r := fun G nx _ _ => h G nx
theorem gq {n : Nat} {F : GObj} {P : Program} {o : Oper} {st : St} {f : FuncId} [Fun P f] {fv : Operand} {args : List Operand} {ats : Array TypeId} {caps al : List C} {K : St → Prop} {r : C} (ho : o.op = .call { callee := .value fv, args := args.toArray, argTypes := ats }) (hf : evC st fv = .fn (.func f) caps) (has : args.map (evC st) ++ caps = al)
  (hp : gx n F P f al r) (hG : st.G n = some F) (hn : n < st.nx) (h : K (st.put o.dst r)) : EStep P o st K := sv ho hf has (hp _ _ hG hn) h
theorem uaw (t : bd) (r : bh) {l : List ByteArray} (hw : dm t (r.pl.ch, r.pl.ln) = some l) {k : Nat} (hk : r.kind = (k : Int)) (h1 : 1 ≤ k) (h3 : k ≤ 3) : fo t r = (inB r.pl.wd 0 ((l.length : Int) - 1 + jq k) && oe k (ci l r.pl.wd.toNat) r.word) := by
 unfold fo
 rw [hw]
 dsimp only
 have : k = 1 ∨ k = 2 ∨ k = 3 := by omega
 rcases this with rfl | rfl | rfl
 ·simp [hk, oe, jq]
 ·simp [hk, oe, jq]
 ·simp [hk, oe, jq]
theorem ry {t : bd} {r : bh} (hw : dm t (r.pl.ch, r.pl.ln) = none) : fo t r = false := by
 unfold fo
 rw [hw]
theorem uy {t : bd} {r : bh} (h : inB r.kind 1 3 = false) : fo t r = false := by
 rw [udd] at h
 unfold fo
 cases dm t (r.pl.ch, r.pl.ln) with
 | none => rfl
 | some l =>
  dsimp only
  rw [decide_eq_false (show ¬ r.kind = 1 by omega), decide_eq_false (show ¬ r.kind = 2 by omega), decide_eq_false (show ¬ r.kind = 3 by omega)]
  rfl
theorem wi {own : ByteArray} {r : bh} {k : Nat} (hk : r.kind = (k : Int)) : py own r = g8 k own r.word := by
 unfold py g8
 have e1 : decide (r.kind = 1) = decide (k = 1) := by rw [hk]; exact decide_eq_decide.2 (by omega)
 have e2 : decide (r.kind = 2) = decide (k = 2) := by rw [hk]; exact decide_eq_decide.2 (by omega)
 rw [e1, e2]
end Go.AB
namespace Go.Proofs.YthboenlglkmnjaaDoor
set_option maxRecDepth 10000
open Go.RowKit Go.AB
open Go.AB.Enc (cells)
open Go.PB (Chap bd PlaceD bh CopyD bw)
theorem uej (xs : List Int) : Pure Tryd.prog 59 [lst xs] (.v (.int .i64 (orP xs))) := by
 refine cx Tryd.func59 rfl (fun m => .v) fun G nx => ?_
 simp only [Tryd.ntmps59, List.length_cons, List.length_nil, Nat.reduceAdd, Nat.reduceSub]
 refine b9 fun hlt => ?_
 dsimp only at hlt
 refine fj 0 (fun hf => ?_)
 replace hf := (fit_lst.1 hf).1
 refine aj fun K1 hK1 => ?_
 refine aq ?_
 refine ae rfl (ax rfl (by constructor)) ?_
 refine am ?_
 dsimp only [St.put]
 refine hK1 _ ?_
 refine aj fun K2 hK2 => ?_
 refine aq ?_
 refine ae rfl (ax rfl (by constructor)) ?_
 refine am ?_
 dsimp only [St.put]
 refine hK2 _ ?_
 refine aj fun K3 hK3 => ?_
 refine aj fun K4 hK4 => ?_
 refine aq ?_
 refine ae rfl (ar rfl (by constructor)) ?_
 first | refine ae rfl (bj rfl rfl (List.length_map _)) ?_ | refine ae rfl (bj rfl rfl rfl) ?_ | refine ae rfl (b8 rfl rfl) ?_ | refine ae rfl (cd rfl rfl) ?_ | refine ae rfl (cb rfl rfl) ?_ | refine ae rfl (ca rfl rfl (by omega)) ?_
 refine ae rfl (ar rfl (by constructor)) ?_
 refine am ?_
 dsimp only [St.put]
 refine hK4 _ ?_
 refine bq ?_
 refine cg 9 ?_
 refine zQ ?_
 refine cn (G) zX ?_
 dsimp only
 refine cz (X := Nat) (fun k => k ≤ xs.length ∧ ∀ y ∈ xs.take k, y = 0) (fun k => xs.length - k) (fun k => [(4, .any), (5, .any), (8, .v (.int .i64 (k : Int)))]) (fun k G' => G') 0 rfl ?_ ?_ (fun _ _ h => h) ?_ ?_ ?_
 ·exact ⟨by simp, by simp⟩
 ·exact zF
 ·rintro k hI
  exact zL
 ·exact fun _ _ _ _ h => .inl h
 ·rintro k hI
  dsimp only at hI ⊢
  refine aj fun K5 hK5 => ?_
  refine aq ?_
  refine ae rfl (cj rfl rfl rfl) ?_
  refine am ?_
  dsimp only [St.put]
  refine hK5 _ ?_
  refine aj fun K6 hK6 => ?_
  refine bl rfl (fun hc => ?_) (fun hc => ?_)
  ·replace hc := of_decide_eq_true hc
   obtain ⟨x, hx⟩ : ∃ x, xs[k]? = some x := cm (by omega)
   refine bn ?_
   refine hK6 _ ?_
   refine aj fun K7 hK7 => ?_
   refine bq ?_
   refine aj fun K8 hK8 => ?_
   refine aq ?_
   try dsimp only [St.put]
   first | refine ae rfl (bf rfl rfl rfl rfl (bm (by assumption)) (Enc.len _)) ?_ | refine ae rfl (bf rfl rfl rfl rfl (by assumption) rfl) ?_ | refine ae rfl (cr rfl rfl rfl (by first | exact ct _ | exact rfl) (by omega)) ?_ | refine ae rfl (bf rfl rfl rfl (by omega) (bm (by assumption)) (Enc.len _)) ?_
   try dsimp only [St.put]
   first | refine aa rfl (aw rfl rfl) ?_ | refine aa rfl (ah rfl rfl (Enc.len _)) ?_ | refine aa rfl (ah rfl rfl rfl) ?_ | refine aa rfl (a7 rfl rfl zG trivial (by first | rfl | assumption)) ?_ | refine aa rfl (az rfl rfl zG trivial (by rfl)) ?_ | refine aa rfl (a8 rfl rfl zG trivial (by simp)) ?_ | refine aa rfl (ai rfl rfl zG trivial (ay (by assumption) rfl)) ?_ | refine aa rfl (ai rfl rfl zG trivial (by assumption)) ?_ | refine aa rfl (a9 rfl rfl zG trivial rfl (by assumption) rfl (by decide)) ?_ | refine aa rfl (ba rfl rfl zG (by rfl)) ?_
   refine ae rfl (ax rfl (by constructor)) ?_
   refine am ?_
   dsimp only [St.put]
   refine hK8 _ ?_
   refine aj fun K9 hK9 => ?_
   refine aq ?_
   refine ae rfl (ar rfl (by constructor)) ?_
   refine ae rfl (ar rfl (by constructor)) ?_
   refine ae rfl (em rfl rfl rfl) ?_
   refine am ?_
   dsimp only [St.put]
   refine hK9 _ ?_
   refine bl rfl (fun hc => ?_) (fun hc => ?_)
   ·replace hc := gn hc
    refine aj fun K10 hK10 => ?_
    refine aq ?_
    refine ae rfl (ar rfl (by constructor)) ?_
    refine ae rfl (ax rfl (by constructor)) ?_
    refine am ?_
    dsimp only [St.put]
    refine hK10 _ ?_
    refine bk ?_
    refine bo rfl (by constructor) zN zS ?_
    exact vi (ubk hx hc hI.2).symm
   ·replace hc := ff hc
    refine bn ?_
    refine hK7 _ ?_
    refine aq ?_
    first | refine ae rfl (bx rfl rfl rfl (by omega)) ?_ | refine ae rfl (cp rfl rfl rfl) ?_
    refine ae rfl (ar rfl (by constructor)) ?_
    refine am ?_
    dsimp only [St.put]
    exact ⟨k + 1, by omega, ⟨by omega, mg hx hc hI.2⟩, ⟨⟨rfl, rfl⟩, zF, zB, zN, zX⟩⟩
  ·try replace hc := of_decide_eq_false hc
   refine co ?_
   refine hK3 _ ?_
   refine aj fun K11 hK11 => ?_
   refine aq ?_
   refine ae rfl (ar rfl (by constructor)) ?_
   refine ae rfl (ax rfl (by constructor)) ?_
   refine am ?_
   dsimp only [St.put]
   refine hK11 _ ?_
   refine bk ?_
   refine bo rfl (by constructor) zN zS ?_
   exact vi (by
    rw [ubl]
    have := hI.2
    rwa [dd (by omega)] at this)
theorem uck (a b : PlaceD) : Pure Tryd.prog 46 [val a, val b] (.v (.int .i64 (gt a b))) := by
 refine cx Tryd.func46 rfl (fun m => .v) fun G nx => ?_
 simp only [Tryd.ntmps46, List.length_cons, List.length_nil, Nat.reduceAdd, Nat.reduceSub]
 refine b9 fun hlt => ?_
 dsimp only at hlt
 refine aj fun K1 hK1 => ?_
 refine aq ?_
 try dsimp only [St.put]
 refine av rfl (cw rfl rfl (by simp) ?_)
 try dsimp only [St.put]
 refine av rfl (cw rfl rfl (by simp) ?_)
 refine ae rfl (ax rfl (by constructor)) ?_
 refine am ?_
 dsimp only [St.put]
 refine hK1 _ ?_
 refine aj fun K2 hK2 => ?_
 refine fw [(0, none), (1, none), (2, none), (3, none), (5, none), (6, none), (7, none), (8, none), (10, none), (11, none), (12, none), (13, none), (4, none), (9, none), (14, none), (15, none), (16, none), (17, none)] (fun i => [14, 15, 16].contains i) (fun i => [4, 9, 14, 15, 16].contains i) (fun i => [0, 2, 5, 7, 10, 12, 17].contains i) [] (by kernel_rfl) (by kernel_rfl) ?_
 first | refine ak rfl rfl rfl rfl (bg rfl rfl rfl) ?_ | refine ak rfl rfl rfl rfl (bi rfl rfl) ?_
 try dsimp only [St.put]
 first | refine af rfl rfl rfl rfl (aw rfl rfl) ?_ | refine af rfl rfl rfl rfl (ah rfl rfl (Enc.len _)) ?_ | refine af rfl rfl rfl rfl (ah rfl rfl rfl) ?_ | refine af rfl rfl rfl rfl (a7 rfl rfl zG (by simp) (by first | rfl | assumption)) ?_ | refine af rfl rfl rfl rfl (az rfl rfl zG (by simp) (by rfl)) ?_ | refine af rfl rfl rfl rfl (a8 rfl rfl zG (by simp) (by simp)) ?_ | refine af rfl rfl rfl rfl (ai rfl rfl zG (by simp) (ay (by assumption) rfl)) ?_ | refine af rfl rfl rfl rfl (ai rfl rfl zG (by simp) (by assumption)) ?_ | refine af rfl rfl rfl rfl (a9 rfl rfl zG (by simp) rfl (by assumption) rfl (by decide)) ?_ | refine af rfl rfl rfl rfl (ba rfl rfl zG (by rfl)) ?_
 first | refine ak rfl rfl rfl rfl (bg rfl rfl rfl) ?_ | refine ak rfl rfl rfl rfl (bi rfl rfl) ?_
 try dsimp only [St.put]
 first | refine af rfl rfl rfl rfl (aw rfl rfl) ?_ | refine af rfl rfl rfl rfl (ah rfl rfl (Enc.len _)) ?_ | refine af rfl rfl rfl rfl (ah rfl rfl rfl) ?_ | refine af rfl rfl rfl rfl (a7 rfl rfl zG (by simp) (by first | rfl | assumption)) ?_ | refine af rfl rfl rfl rfl (az rfl rfl zG (by simp) (by rfl)) ?_ | refine af rfl rfl rfl rfl (a8 rfl rfl zG (by simp) (by simp)) ?_ | refine af rfl rfl rfl rfl (ai rfl rfl zG (by simp) (ay (by assumption) rfl)) ?_ | refine af rfl rfl rfl rfl (ai rfl rfl zG (by simp) (by assumption)) ?_ | refine af rfl rfl rfl rfl (a9 rfl rfl zG (by simp) rfl (by assumption) rfl (by decide)) ?_ | refine af rfl rfl rfl rfl (ba rfl rfl zG (by rfl)) ?_
 first | refine ak rfl rfl rfl rfl (bg rfl rfl rfl) ?_ | refine ak rfl rfl rfl rfl (bi rfl rfl) ?_
 try dsimp only [St.put]
 first | refine af rfl rfl rfl rfl (aw rfl rfl) ?_ | refine af rfl rfl rfl rfl (ah rfl rfl (Enc.len _)) ?_ | refine af rfl rfl rfl rfl (ah rfl rfl rfl) ?_ | refine af rfl rfl rfl rfl (a7 rfl rfl zG (by simp) (by first | rfl | assumption)) ?_ | refine af rfl rfl rfl rfl (az rfl rfl zG (by simp) (by rfl)) ?_ | refine af rfl rfl rfl rfl (a8 rfl rfl zG (by simp) (by simp)) ?_ | refine af rfl rfl rfl rfl (ai rfl rfl zG (by simp) (ay (by assumption) rfl)) ?_ | refine af rfl rfl rfl rfl (ai rfl rfl zG (by simp) (by assumption)) ?_ | refine af rfl rfl rfl rfl (a9 rfl rfl zG (by simp) rfl (by assumption) rfl (by decide)) ?_ | refine af rfl rfl rfl rfl (ba rfl rfl zG (by rfl)) ?_
 first | refine ak rfl rfl rfl rfl (bg rfl rfl rfl) ?_ | refine ak rfl rfl rfl rfl (bi rfl rfl) ?_
 try dsimp only [St.put]
 first | refine af rfl rfl rfl rfl (aw rfl rfl) ?_ | refine af rfl rfl rfl rfl (ah rfl rfl (Enc.len _)) ?_ | refine af rfl rfl rfl rfl (ah rfl rfl rfl) ?_ | refine af rfl rfl rfl rfl (a7 rfl rfl zG (by simp) (by first | rfl | assumption)) ?_ | refine af rfl rfl rfl rfl (az rfl rfl zG (by simp) (by rfl)) ?_ | refine af rfl rfl rfl rfl (a8 rfl rfl zG (by simp) (by simp)) ?_ | refine af rfl rfl rfl rfl (ai rfl rfl zG (by simp) (ay (by assumption) rfl)) ?_ | refine af rfl rfl rfl rfl (ai rfl rfl zG (by simp) (by assumption)) ?_ | refine af rfl rfl rfl rfl (a9 rfl rfl zG (by simp) rfl (by assumption) rfl (by decide)) ?_ | refine af rfl rfl rfl rfl (ba rfl rfl zG (by rfl)) ?_
 first | refine ak rfl rfl rfl rfl (bg rfl rfl rfl) ?_ | refine ak rfl rfl rfl rfl (bi rfl rfl) ?_
 try dsimp only [St.put]
 first | refine af rfl rfl rfl rfl (aw rfl rfl) ?_ | refine af rfl rfl rfl rfl (ah rfl rfl (Enc.len _)) ?_ | refine af rfl rfl rfl rfl (ah rfl rfl rfl) ?_ | refine af rfl rfl rfl rfl (a7 rfl rfl zG (by simp) (by first | rfl | assumption)) ?_ | refine af rfl rfl rfl rfl (az rfl rfl zG (by simp) (by rfl)) ?_ | refine af rfl rfl rfl rfl (a8 rfl rfl zG (by simp) (by simp)) ?_ | refine af rfl rfl rfl rfl (ai rfl rfl zG (by simp) (ay (by assumption) rfl)) ?_ | refine af rfl rfl rfl rfl (ai rfl rfl zG (by simp) (by assumption)) ?_ | refine af rfl rfl rfl rfl (a9 rfl rfl zG (by simp) rfl (by assumption) rfl (by decide)) ?_ | refine af rfl rfl rfl rfl (ba rfl rfl zG (by rfl)) ?_
 first | refine ak rfl rfl rfl rfl (bg rfl rfl rfl) ?_ | refine ak rfl rfl rfl rfl (bi rfl rfl) ?_
 try dsimp only [St.put]
 first | refine af rfl rfl rfl rfl (aw rfl rfl) ?_ | refine af rfl rfl rfl rfl (ah rfl rfl (Enc.len _)) ?_ | refine af rfl rfl rfl rfl (ah rfl rfl rfl) ?_ | refine af rfl rfl rfl rfl (a7 rfl rfl zG (by simp) (by first | rfl | assumption)) ?_ | refine af rfl rfl rfl rfl (az rfl rfl zG (by simp) (by rfl)) ?_ | refine af rfl rfl rfl rfl (a8 rfl rfl zG (by simp) (by simp)) ?_ | refine af rfl rfl rfl rfl (ai rfl rfl zG (by simp) (ay (by assumption) rfl)) ?_ | refine af rfl rfl rfl rfl (ai rfl rfl zG (by simp) (by assumption)) ?_ | refine af rfl rfl rfl rfl (a9 rfl rfl zG (by simp) rfl (by assumption) rfl (by decide)) ?_ | refine af rfl rfl rfl rfl (ba rfl rfl zG (by rfl)) ?_
 refine ie ?_
 try dsimp only [St.put]
 refine ge rfl rfl rfl (br rfl rfl rfl (s6 _ _) ⟨zD, ?_⟩)
 try dsimp only [St.put]
 refine ge rfl rfl rfl (br rfl rfl rfl (s6 _ _) ⟨zD, ?_⟩)
 try dsimp only [St.put]
 refine ez rfl rfl rfl rfl (br rfl rfl rfl (s6 _ _) ?_)
 try dsimp only [St.put]
 refine ez rfl rfl rfl rfl (dx rfl rfl rfl (by decide) (by decide) zR (by decide) ?_)
 try dsimp only [St.put]
 refine ez rfl rfl rfl rfl (br rfl rfl rfl (uej [fl a.ch b.ch, fl a.ln b.ln, fl a.wd b.wd]) ?_)
 refine c0 rfl rfl rfl rfl (ax rfl (by constructor)) ?_
 refine ib ?_
 dsimp only [St.put]
 refine hK2 _ ?_
 refine bk ?_
 refine bo rfl (by constructor) zN zS ?_
 exact vi (ubm a b)
theorem si (l : List ByteArray) (w : Nat) (hw : w ≤ l.length) : Pure Tryd.prog 37 [lst l, .v (.int .i64 (w : Int))] (.v (.string (ci l w))) := by
 refine cx Tryd.func37 rfl (fun m => .v) fun G nx => ?_
 simp only [Tryd.ntmps37, List.length_cons, List.length_nil, Nat.reduceAdd, Nat.reduceSub]
 refine b9 fun hlt => ?_
 dsimp only at hlt
 refine aj fun K1 hK1 => ?_
 refine aq ?_
 refine ae rfl (ax rfl (by constructor)) ?_
 refine am ?_
 dsimp only [St.put]
 refine hK1 _ ?_
 refine aj fun K2 hK2 => ?_
 refine aj fun K3 hK3 => ?_
 refine aq ?_
 refine ae rfl (ar rfl (by constructor)) ?_
 refine ae rfl (ar rfl (by constructor)) ?_
 first | refine ae rfl (bj rfl rfl (List.length_map _)) ?_ | refine ae rfl (bj rfl rfl rfl) ?_ | refine ae rfl (b8 rfl rfl) ?_ | refine ae rfl (cd rfl rfl) ?_ | refine ae rfl (cb rfl rfl) ?_ | refine ae rfl (ca rfl rfl (by omega)) ?_
 refine ae rfl (dy rfl rfl rfl) ?_
 refine am ?_
 dsimp only [St.put]
 refine hK3 _ ?_
 refine bl rfl (fun hc => ?_) (fun hc => ?_)
 ·replace hc := of_decide_eq_true hc
  have h0 : ci l w = ByteArray.empty := by unfold ci; rw [List.getElem?_eq_none (by omega)]; rfl
  refine aj fun K4 hK4 => ?_
  refine aq ?_
  refine ae rfl (ax rfl (by constructor)) ?_
  refine am ?_
  dsimp only [St.put]
  refine hK4 _ ?_
  refine bk ?_
  refine bo rfl (by constructor) zN zS ?_
  rw [h0]
  rfl
 ·replace hc := of_decide_eq_false hc
  obtain ⟨s, hs⟩ : ∃ x, l[w]? = some x := cm (by omega)
  have h0 : ci l w = s := by unfold ci; rw [hs]; rfl
  refine bn ?_
  refine hK2 _ ?_
  refine aj fun K5 hK5 => ?_
  refine aq ?_
  refine ae rfl (ar rfl (by constructor)) ?_
  refine ae rfl (ar rfl (by constructor)) ?_
  try dsimp only [St.put]
  first | refine ae rfl (bf rfl rfl rfl rfl (bm (by assumption)) (Enc.len _)) ?_ | refine ae rfl (bf rfl rfl rfl rfl (by assumption) rfl) ?_ | refine ae rfl (cr rfl rfl rfl (by first | exact ct _ | exact rfl) (by omega)) ?_ | refine ae rfl (bf rfl rfl rfl (by omega) (bm (by assumption)) (Enc.len _)) ?_
  try dsimp only [St.put]
  first | refine aa rfl (aw rfl rfl) ?_ | refine aa rfl (ah rfl rfl (Enc.len _)) ?_ | refine aa rfl (ah rfl rfl rfl) ?_ | refine aa rfl (a7 rfl rfl zG trivial (by first | rfl | assumption)) ?_ | refine aa rfl (az rfl rfl zG trivial (by rfl)) ?_ | refine aa rfl (a8 rfl rfl zG trivial (by simp)) ?_ | refine aa rfl (ai rfl rfl zG trivial (ay (by assumption) rfl)) ?_ | refine aa rfl (ai rfl rfl zG trivial (by assumption)) ?_ | refine aa rfl (a9 rfl rfl zG trivial rfl (by assumption) rfl (by decide)) ?_ | refine aa rfl (ba rfl rfl zG (by rfl)) ?_
  refine ae rfl (ax rfl (by constructor)) ?_
  refine am ?_
  dsimp only [St.put]
  refine hK5 _ ?_
  refine bk ?_
  refine bo rfl (by constructor) zN zS ?_
  rw [h0]
theorem uap (l : List ByteArray) (hl : l.length ≤ 100000) : Pure Tryd.prog 48 [lst l] (.v (.bool (!inB l.length 1 10))) := by
 refine cx Tryd.func48 rfl (fun m => .v) fun G nx => ?_
 simp only [Tryd.ntmps48, List.length_cons, List.length_nil, Nat.reduceAdd, Nat.reduceSub]
 refine b9 fun hlt => ?_
 dsimp only at hlt
 refine aj fun K1 hK1 => ?_
 refine aq ?_
 refine ae rfl (ax rfl (by constructor)) ?_
 refine am ?_
 dsimp only [St.put]
 refine hK1 _ ?_
 refine aj fun K2 hK2 => ?_
 refine aq ?_
 refine ae rfl (ar rfl (by constructor)) ?_
 first | refine ae rfl (bj rfl rfl (List.length_map _)) ?_ | refine ae rfl (bj rfl rfl rfl) ?_ | refine ae rfl (b8 rfl rfl) ?_ | refine ae rfl (cd rfl rfl) ?_ | refine ae rfl (cb rfl rfl) ?_ | refine ae rfl (ca rfl rfl (by omega)) ?_
 try dsimp only [St.put]
 refine av rfl (dx rfl rfl rfl (by decide) (by decide) zR (by decide) ?_)
 try dsimp only [St.put]
 refine av rfl (br rfl rfl rfl (jk _ _ [(l.length : Int)]) ?_)
 refine ae rfl (dt rfl rfl) ?_
 refine ae rfl (ax rfl (by constructor)) ?_
 refine am ?_
 dsimp only [St.put]
 refine hK2 _ ?_
 refine bk ?_
 refine bo rfl (by constructor) zN zS ?_
 exact vb (by rw [fq])
theorem uc4 (own put : ByteArray) : Pure Tryd.prog 84 [.v (.string own), .v (.string put)] (.v (.bool (decide (put = ByteArray.empty)))) := by
 refine cx Tryd.func84 rfl (fun m => .v) fun G nx => ?_
 simp only [Tryd.ntmps84, List.length_cons, List.length_nil, Nat.reduceAdd, Nat.reduceSub]
 refine b9 fun hlt => ?_
 dsimp only at hlt
 refine aj fun K1 hK1 => ?_
 refine aq ?_
 refine ae rfl (ax rfl (by constructor)) ?_
 refine am ?_
 dsimp only [St.put]
 refine hK1 _ ?_
 refine aj fun K2 hK2 => ?_
 refine aq ?_
 refine ae rfl (ar rfl (by constructor)) ?_
 refine ae rfl (lg rfl rfl rfl) ?_
 refine ae rfl (ax rfl (by constructor)) ?_
 refine am ?_
 dsimp only [St.put]
 refine hK2 _ ?_
 refine bk ?_
 refine bo rfl (by constructor) zN zS ?_
 rfl
theorem uc3 (own put : ByteArray) : Pure Tryd.prog 85 [.v (.string own), .v (.string put)] (lst ([] : List ByteArray)) := by
 refine cx Tryd.func85 rfl (fun m => (ce _ _)) fun G nx => ?_
 simp only [Tryd.ntmps85, List.length_cons, List.length_nil, Nat.reduceAdd, Nat.reduceSub]
 refine b9 fun hlt => ?_
 dsimp only at hlt
 refine aj fun K1 hK1 => ?_
 refine aq ?_
 refine ae rfl (ax rfl (by constructor)) ?_
 refine am ?_
 dsimp only [St.put]
 refine hK1 _ ?_
 refine aj fun K2 hK2 => ?_
 refine aq ?_
 refine ae rfl (ax rfl (by constructor)) ?_
 refine am ?_
 dsimp only [St.put]
 refine hK2 _ ?_
 refine bk ?_
 refine j3 rfl (ed (by constructor)) zN zS ?_
 exact zW
theorem uc2 (own put : ByteArray) : Pure Tryd.prog 86 [.v (.string own), .v (.string put)] (.v (.bool (e8 put))) := by
 refine cx Tryd.func86 rfl (fun m => .v) fun G nx => ?_
 simp only [Tryd.ntmps86, List.length_cons, List.length_nil, Nat.reduceAdd, Nat.reduceSub]
 refine b9 fun hlt => ?_
 dsimp only at hlt
 refine aj fun K1 hK1 => ?_
 refine aq ?_
 refine ae rfl (ax rfl (by constructor)) ?_
 refine am ?_
 dsimp only [St.put]
 refine hK1 _ ?_
 refine aj fun K2 hK2 => ?_
 refine aq ?_
 refine ae rfl (ar rfl (by constructor)) ?_
 try dsimp only [St.put]
 refine av rfl (br rfl rfl rfl (rb put) ?_)
 refine ae rfl (ax rfl (by constructor)) ?_
 refine am ?_
 dsimp only [St.put]
 refine hK2 _ ?_
 refine bk ?_
 refine bo rfl (by constructor) zN zS ?_
 rfl
theorem uc1 (own put : ByteArray) : Pure Tryd.prog 87 [.v (.string own), .v (.string put)] (lst [put, own]) := by
 refine cx Tryd.func87 rfl (fun m => (ce _ _)) fun G nx => ?_
 simp only [Tryd.ntmps87, List.length_cons, List.length_nil, Nat.reduceAdd, Nat.reduceSub]
 refine b9 fun hlt => ?_
 dsimp only at hlt
 refine aj fun K1 hK1 => ?_
 refine aq ?_
 refine ae rfl (ax rfl (by constructor)) ?_
 refine am ?_
 dsimp only [St.put]
 refine hK1 _ ?_
 refine aj fun K2 hK2 => ?_
 refine aq ?_
 refine ae rfl (ar rfl (by constructor)) ?_
 refine ae rfl (ar rfl (by constructor)) ?_
 try dsimp only [St.put]
 refine av rfl (dx rfl rfl rfl (by decide) (by decide) zR (by decide) ?_)
 refine ae rfl (ax rfl (by constructor)) ?_
 refine am ?_
 dsimp only [St.put]
 refine hK2 _ ?_
 refine bk ?_
 refine j3 rfl (ed (by constructor)) zN zS ?_
 exact zW
theorem uc0 (own put : ByteArray) : Pure Tryd.prog 88 [.v (.string own), .v (.string put)] (.v (.bool (e8 put && !decide (put = own)))) := by
 refine cx Tryd.func88 rfl (fun m => .v) fun G nx => ?_
 simp only [Tryd.ntmps88, List.length_cons, List.length_nil, Nat.reduceAdd, Nat.reduceSub]
 refine b9 fun hlt => ?_
 dsimp only at hlt
 refine aj fun K1 hK1 => ?_
 refine aq ?_
 refine ae rfl (ax rfl (by constructor)) ?_
 refine am ?_
 dsimp only [St.put]
 refine hK1 _ ?_
 refine aj fun K2 hK2 => ?_
 refine aq ?_
 refine ae rfl (ar rfl (by constructor)) ?_
 try dsimp only [St.put]
 refine av rfl (br rfl rfl rfl (rb put) ?_)
 refine ae rfl (ar rfl (by constructor)) ?_
 refine et (fun hs => ?_) (fun hs => ?_)
 ·try replace hs := of_decide_eq_true hs
  refine ae rfl (ar rfl (by constructor)) ?_
  refine ae rfl (ar rfl (by constructor)) ?_
  refine ae rfl (me rfl rfl rfl) ?_
  first | refine ae rfl (bt rfl rfl (by constructor)) ?_ | refine ae rfl (bu rfl rfl (by constructor)) ?_ | refine ae rfl (b7 rfl rfl rfl rfl) ?_ | refine ae rfl (bz rfl rfl rfl rfl) ?_
  refine ae rfl (ax rfl (by constructor)) ?_
  refine am ?_
  dsimp only [St.put]
  refine hK2 _ ?_
  refine bk ?_
  refine bo rfl (by constructor) zN zS ?_
  exact vb (by simp [hs])
 ·try replace hs := of_decide_eq_false hs
  refine bv rfl ?_
  refine bv rfl ?_
  refine bv rfl ?_
  first | refine ae rfl (bt rfl rfl (by constructor)) ?_ | refine ae rfl (bu rfl rfl (by constructor)) ?_ | refine ae rfl (b7 rfl rfl rfl rfl) ?_ | refine ae rfl (bz rfl rfl rfl rfl) ?_
  refine ae rfl (ax rfl (by constructor)) ?_
  refine am ?_
  dsimp only [St.put]
  refine hK2 _ ?_
  refine bk ?_
  refine bo rfl (by constructor) zN zS ?_
  exact vb (by simp [hs])
theorem ucz (own put : ByteArray) : Pure Tryd.prog 89 [.v (.string own), .v (.string put)] (lst [put]) := by
 refine cx Tryd.func89 rfl (fun m => (ce _ _)) fun G nx => ?_
 simp only [Tryd.ntmps89, List.length_cons, List.length_nil, Nat.reduceAdd, Nat.reduceSub]
 refine b9 fun hlt => ?_
 dsimp only at hlt
 refine aj fun K1 hK1 => ?_
 refine aq ?_
 refine ae rfl (ax rfl (by constructor)) ?_
 refine am ?_
 dsimp only [St.put]
 refine hK1 _ ?_
 refine aj fun K2 hK2 => ?_
 refine aq ?_
 refine ae rfl (ar rfl (by constructor)) ?_
 try dsimp only [St.put]
 refine av rfl (dx rfl rfl rfl (by decide) (by decide) zR (by decide) ?_)
 refine ae rfl (ax rfl (by constructor)) ?_
 refine am ?_
 dsimp only [St.put]
 refine hK2 _ ?_
 refine bk ?_
 refine j3 rfl (ed (by constructor)) zN zS ?_
 exact zW
theorem ufw (xs : List (List ByteArray)) (p : List ByteArray → Bool) (k : Nat) (caps : List C) [Fun Tryd.prog k] (hp : ∀ x ∈ xs, Pure Tryd.prog k (lst x :: caps) (.v (.bool (p x)))) : Pure Tryd.prog 61 [lst xs, .fn (.func k) caps] (.v (.int .i64 (idxOf p xs))) := by
 refine cx Tryd.func61 rfl (fun m => .v) fun G nx => ?_
 simp only [Tryd.ntmps61, List.length_cons, List.length_nil, Nat.reduceAdd, Nat.reduceSub]
 refine b9 fun hlt => ?_
 dsimp only at hlt
 refine fj 0 (fun hf => ?_)
 replace hf := (fit_lst.1 hf).1
 refine aj fun K1 hK1 => ?_
 refine aq ?_
 refine ae rfl (ax rfl (by constructor)) ?_
 refine am ?_
 dsimp only [St.put]
 refine hK1 _ ?_
 refine aj fun K2 hK2 => ?_
 refine aj fun K3 hK3 => ?_
 refine aq ?_
 refine ae rfl (ar rfl (by constructor)) ?_
 first | refine ae rfl (bj rfl rfl (List.length_map _)) ?_ | refine ae rfl (bj rfl rfl rfl) ?_ | refine ae rfl (b8 rfl rfl) ?_ | refine ae rfl (cd rfl rfl) ?_ | refine ae rfl (cb rfl rfl) ?_ | refine ae rfl (ca rfl rfl (by omega)) ?_
 refine ae rfl (ar rfl (by constructor)) ?_
 refine am ?_
 dsimp only [St.put]
 refine hK3 _ ?_
 refine bq ?_
 refine cg 9 ?_
 refine zQ ?_
 refine cn (G) zX ?_
 dsimp only
 refine cz (X := Nat) (fun k => k ≤ xs.length ∧ ∀ y ∈ xs.take k, p y = false) (fun k => xs.length - k) (fun k => [(4, .any), (5, .any), (8, .v (.int .i64 (k : Int)))]) (fun k G' => G') 0 rfl ?_ ?_ (fun _ _ h => h) ?_ ?_ ?_
 ·exact ⟨by simp, by simp⟩
 ·exact zF
 ·rintro k hI
  exact zL
 ·exact fun _ _ _ _ h => .inl h
 ·rintro k hI
  dsimp only at hI ⊢
  refine aj fun K4 hK4 => ?_
  refine aq ?_
  refine ae rfl (cj rfl rfl rfl) ?_
  refine am ?_
  dsimp only [St.put]
  refine hK4 _ ?_
  refine aj fun K5 hK5 => ?_
  refine bl rfl (fun hc => ?_) (fun hc => ?_)
  ·replace hc := of_decide_eq_true hc
   obtain ⟨x, hx⟩ : ∃ x, xs[k]? = some x := cm (by omega)
   refine bn ?_
   refine hK5 _ ?_
   refine aj fun K6 hK6 => ?_
   refine bq ?_
   refine aj fun K7 hK7 => ?_
   refine aq ?_
   refine ae rfl (ar rfl (by constructor)) ?_
   refine ae rfl (ax rfl (by constructor)) ?_
   refine am ?_
   dsimp only [St.put]
   refine hK7 _ ?_
   refine aj fun K8 hK8 => ?_
   refine aq ?_
   refine ae rfl (ar rfl (by constructor)) ?_
   refine ae rfl (ar rfl (by constructor)) ?_
   refine ae rfl (ar rfl (by constructor)) ?_
   try dsimp only [St.put]
   first | refine ae rfl (bf rfl rfl rfl rfl (bm (by assumption)) (Enc.len _)) ?_ | refine ae rfl (bf rfl rfl rfl rfl (by assumption) rfl) ?_ | refine ae rfl (cr rfl rfl rfl (by first | exact ct _ | exact rfl) (by omega)) ?_ | refine ae rfl (bf rfl rfl rfl (by omega) (bm (by assumption)) (Enc.len _)) ?_
   try dsimp only [St.put]
   first | refine aa rfl (aw rfl rfl) ?_ | refine aa rfl (ah rfl rfl (Enc.len _)) ?_ | refine aa rfl (ah rfl rfl rfl) ?_ | refine aa rfl (a7 rfl rfl zG trivial (by first | rfl | assumption)) ?_ | refine aa rfl (az rfl rfl zG trivial (by rfl)) ?_ | refine aa rfl (a8 rfl rfl zG trivial (by simp)) ?_ | refine aa rfl (ai rfl rfl zG trivial (ay (by assumption) rfl)) ?_ | refine aa rfl (ai rfl rfl zG trivial (by assumption)) ?_ | refine aa rfl (a9 rfl rfl zG trivial rfl (by assumption) rfl (by decide)) ?_ | refine aa rfl (ba rfl rfl zG (by rfl)) ?_
   try dsimp only [St.put]
   refine av rfl (br rfl rfl rfl (hp x (dv hx)) ?_)
   refine am ?_
   dsimp only [St.put]
   refine hK8 _ ?_
   refine bl rfl (fun hc => ?_) (fun hc => ?_)
   ·skip
    refine aj fun K9 hK9 => ?_
    refine aq ?_
    refine ae rfl (ar rfl (by constructor)) ?_
    refine ae rfl (ax rfl (by constructor)) ?_
    refine am ?_
    dsimp only [St.put]
    refine hK9 _ ?_
    refine bk ?_
    refine bo rfl (by constructor) zN zS ?_
    exact vi (m6 hx hc hI.2).symm
   ·skip
    refine bn ?_
    refine hK6 _ ?_
    refine aq ?_
    first | refine ae rfl (bx rfl rfl rfl (by omega)) ?_ | refine ae rfl (cp rfl rfl rfl) ?_
    refine ae rfl (ar rfl (by constructor)) ?_
    refine am ?_
    dsimp only [St.put]
    exact ⟨k + 1, by omega, ⟨by omega, mg (p := fun y => p y = false) hx (by simpa using hc) hI.2⟩, ⟨⟨rfl, rfl⟩, zF, zB, zN, zX⟩⟩
  ·try replace hc := of_decide_eq_false hc
   refine co ?_
   refine hK2 _ ?_
   refine aj fun K10 hK10 => ?_
   refine aq ?_
   refine ae rfl (ax rfl (by constructor)) ?_
   refine am ?_
   dsimp only [St.put]
   refine hK10 _ ?_
   refine bk ?_
   refine bo rfl (by constructor) zN zS ?_
   exact vi (by
    rw [m7]
    have := hI.2
    rwa [dd (by omega)] at this)
theorem uf4 (xs : List (List ByteArray)) (p : List ByteArray → Bool) (k : Nat) (caps : List C) [Fun Tryd.prog k] (hp : ∀ x ∈ xs, Pure Tryd.prog k (lst x :: caps) (.v (.bool (p x)))) : Pure Tryd.prog 47 [lst xs, .fn (.func k) caps] (.v (.bool (xs.any p))) := by
 refine cx Tryd.func47 rfl (fun m => .v) fun G nx => ?_
 simp only [Tryd.ntmps47, List.length_cons, List.length_nil, Nat.reduceAdd, Nat.reduceSub]
 refine b9 fun hlt => ?_
 dsimp only at hlt
 refine aj fun K1 hK1 => ?_
 refine aq ?_
 refine ae rfl (ax rfl (by constructor)) ?_
 refine am ?_
 dsimp only [St.put]
 refine hK1 _ ?_
 refine aj fun K2 hK2 => ?_
 refine aq ?_
 refine ae rfl (ar rfl (by constructor)) ?_
 refine ae rfl (ar rfl (by constructor)) ?_
 try dsimp only [St.put]
 refine av rfl (br rfl rfl rfl (ufw xs p k caps hp) ?_)
 refine ae rfl (mf rfl rfl rfl) ?_
 refine ae rfl (ax rfl (by constructor)) ?_
 refine am ?_
 dsimp only [St.put]
 refine hK2 _ ?_
 refine bk ?_
 refine bo rfl (by constructor) zN zS ?_
 exact vb m8
theorem zj (c : CopyD) : Pure Tryd.prog 5 [val c] (.v (.bool (ll c))) := by
 refine cx Tryd.func5 rfl (fun m => .v) fun G nx => ?_
 simp only [Tryd.ntmps5, List.length_cons, List.length_nil, Nat.reduceAdd, Nat.reduceSub]
 refine b9 fun hlt => ?_
 dsimp only at hlt
 refine fj 0 (fun hf => ?_)
 have hf1 := (fit_lst.1 (fit_agg.1 hf _ (by exact List.mem_cons_of_mem _ (List.mem_cons_self ..)))).1
 refine aj fun K1 hK1 => ?_
 refine aq ?_
 try dsimp only [St.put]
 refine av rfl (cw rfl rfl (by simp) ?_)
 refine ae rfl (ax rfl (by constructor)) ?_
 refine am ?_
 dsimp only [St.put]
 refine hK1 _ ?_
 refine aj fun K2 hK2 => ?_
 refine aj fun K3 hK3 => ?_
 refine aq ?_
 first | refine ae rfl (bg rfl rfl rfl) ?_ | refine ae rfl (bi rfl rfl) ?_
 try dsimp only [St.put]
 first | refine aa rfl (aw rfl rfl) ?_ | refine aa rfl (ah rfl rfl (Enc.len _)) ?_ | refine aa rfl (ah rfl rfl rfl) ?_ | refine aa rfl (a7 rfl rfl zG trivial (by first | rfl | assumption)) ?_ | refine aa rfl (az rfl rfl zG trivial (by rfl)) ?_ | refine aa rfl (a8 rfl rfl zG trivial (by simp)) ?_ | refine aa rfl (ai rfl rfl zG trivial (ay (by assumption) rfl)) ?_ | refine aa rfl (ai rfl rfl zG trivial (by assumption)) ?_ | refine aa rfl (a9 rfl rfl zG trivial rfl (by assumption) rfl (by decide)) ?_ | refine aa rfl (ba rfl rfl zG (by rfl)) ?_
 first | refine ae rfl (bj rfl rfl (List.length_map _)) ?_ | refine ae rfl (bj rfl rfl rfl) ?_ | refine ae rfl (b8 rfl rfl) ?_ | refine ae rfl (cd rfl rfl) ?_ | refine ae rfl (cb rfl rfl) ?_ | refine ae rfl (ca rfl rfl (by omega)) ?_
 refine ae rfl (g7 rfl rfl rfl) ?_
 refine am ?_
 dsimp only [St.put]
 refine hK3 _ ?_
 refine bl rfl (fun hc => ?_) (fun hc => ?_)
 ·have h0 : 30 < c.rs.length := by have := of_decide_eq_true hc; omega
  refine aj fun K4 hK4 => ?_
  refine aq ?_
  refine ae rfl (ax rfl (by constructor)) ?_
  refine am ?_
  dsimp only [St.put]
  refine hK4 _ ?_
  refine bk ?_
  refine bo rfl (by constructor) zN zS ?_
  exact vb (by simp [ll, h0])
 ·have h0 : ¬ 30 < c.rs.length := by have := of_decide_eq_false hc; omega
  refine bn ?_
  refine hK2 _ ?_
  refine aj fun K5 hK5 => ?_
  refine aj fun K6 hK6 => ?_
  refine aq ?_
  refine ae rfl (ax rfl (by constructor)) ?_
  refine am ?_
  dsimp only [St.put]
  refine hK6 _ ?_
  refine bq ?_
  refine cg 4 ?_
  refine zQ ?_
  refine cn (G) zX ?_
  dsimp only
  refine cz (X := Nat) (fun k => k ≤ c.rs.length ∧ ∀ y ∈ c.rs.take k, decide (40 < y.word.size) = false) (fun k => c.rs.length - k) (fun k => [(3, .v (.int .i64 (k : Int)))]) (fun k G' => G') 0 rfl ?_ ?_ (fun _ _ h => h) ?_ ?_ ?_
  ·exact ⟨by simp, by simp⟩
  ·exact zF
  ·rintro k hI
   exact zL
  ·exact fun _ _ _ _ h => .inl h
  ·rintro k hI
   dsimp only at hI ⊢
   refine aj fun K7 hK7 => ?_
   refine aj fun K8 hK8 => ?_
   refine aq ?_
   refine ae rfl (ar rfl (by constructor)) ?_
   first | refine ae rfl (bg rfl rfl rfl) ?_ | refine ae rfl (bi rfl rfl) ?_
   try dsimp only [St.put]
   first | refine aa rfl (aw rfl rfl) ?_ | refine aa rfl (ah rfl rfl (Enc.len _)) ?_ | refine aa rfl (ah rfl rfl rfl) ?_ | refine aa rfl (a7 rfl rfl zG trivial (by first | rfl | assumption)) ?_ | refine aa rfl (az rfl rfl zG trivial (by rfl)) ?_ | refine aa rfl (a8 rfl rfl zG trivial (by simp)) ?_ | refine aa rfl (ai rfl rfl zG trivial (ay (by assumption) rfl)) ?_ | refine aa rfl (ai rfl rfl zG trivial (by assumption)) ?_ | refine aa rfl (a9 rfl rfl zG trivial rfl (by assumption) rfl (by decide)) ?_ | refine aa rfl (ba rfl rfl zG (by rfl)) ?_
   first | refine ae rfl (bj rfl rfl (List.length_map _)) ?_ | refine ae rfl (bj rfl rfl rfl) ?_ | refine ae rfl (b8 rfl rfl) ?_ | refine ae rfl (cd rfl rfl) ?_ | refine ae rfl (cb rfl rfl) ?_ | refine ae rfl (ca rfl rfl (by omega)) ?_
   refine ae rfl (cj rfl rfl rfl) ?_
   refine am ?_
   dsimp only [St.put]
   refine hK8 _ ?_
   refine bl rfl (fun hc => ?_) (fun hc => ?_)
   ·replace hc := of_decide_eq_true hc
    obtain ⟨x, hx⟩ : ∃ x, c.rs[k]? = some x := cm (by omega)
    refine bn ?_
    refine hK7 _ ?_
    refine aj fun K9 hK9 => ?_
    refine bq ?_
    refine aj fun K10 hK10 => ?_
    refine aq ?_
    first | refine ae rfl (bg rfl rfl rfl) ?_ | refine ae rfl (bi rfl rfl) ?_
    try dsimp only [St.put]
    first | refine aa rfl (aw rfl rfl) ?_ | refine aa rfl (ah rfl rfl (Enc.len _)) ?_ | refine aa rfl (ah rfl rfl rfl) ?_ | refine aa rfl (a7 rfl rfl zG trivial (by first | rfl | assumption)) ?_ | refine aa rfl (az rfl rfl zG trivial (by rfl)) ?_ | refine aa rfl (a8 rfl rfl zG trivial (by simp)) ?_ | refine aa rfl (ai rfl rfl zG trivial (ay (by assumption) rfl)) ?_ | refine aa rfl (ai rfl rfl zG trivial (by assumption)) ?_ | refine aa rfl (a9 rfl rfl zG trivial rfl (by assumption) rfl (by decide)) ?_ | refine aa rfl (ba rfl rfl zG (by rfl)) ?_
    refine ae rfl (ar rfl (by constructor)) ?_
    try dsimp only [St.put]
    first | refine ae rfl (bf rfl rfl rfl rfl (bm (by assumption)) (Enc.len _)) ?_ | refine ae rfl (bf rfl rfl rfl rfl (by assumption) rfl) ?_ | refine ae rfl (cr rfl rfl rfl (by first | exact ct _ | exact rfl) (by omega)) ?_ | refine ae rfl (bf rfl rfl rfl (by omega) (bm (by assumption)) (Enc.len _)) ?_
    first | refine ae rfl (bg rfl rfl rfl) ?_ | refine ae rfl (bi rfl rfl) ?_
    try dsimp only [St.put]
    first | refine aa rfl (aw rfl rfl) ?_ | refine aa rfl (ah rfl rfl (Enc.len _)) ?_ | refine aa rfl (ah rfl rfl rfl) ?_ | refine aa rfl (a7 rfl rfl zG trivial (by first | rfl | assumption)) ?_ | refine aa rfl (az rfl rfl zG trivial (by rfl)) ?_ | refine aa rfl (a8 rfl rfl zG trivial (by simp)) ?_ | refine aa rfl (ai rfl rfl zG trivial (ay (by assumption) rfl)) ?_ | refine aa rfl (ai rfl rfl zG trivial (by assumption)) ?_ | refine aa rfl (a9 rfl rfl zG trivial rfl (by assumption) rfl (by decide)) ?_ | refine aa rfl (ba rfl rfl zG (by rfl)) ?_
    first | refine ae rfl (bj rfl rfl (List.length_map _)) ?_ | refine ae rfl (bj rfl rfl rfl) ?_ | refine ae rfl (b8 rfl rfl) ?_ | refine ae rfl (cd rfl rfl) ?_ | refine ae rfl (cb rfl rfl) ?_ | refine ae rfl (ca rfl rfl (by omega)) ?_
    refine ae rfl (g7 rfl rfl rfl) ?_
    refine am ?_
    dsimp only [St.put]
    refine hK10 _ ?_
    refine bl rfl (fun hc => ?_) (fun hc => ?_)
    ·have h1 : 40 < x.word.size := by have := of_decide_eq_true hc; omega
     refine aj fun K11 hK11 => ?_
     refine aq ?_
     refine ae rfl (ax rfl (by constructor)) ?_
     refine am ?_
     dsimp only [St.put]
     refine hK11 _ ?_
     refine bk ?_
     refine bo rfl (by constructor) zN zS ?_
     exact vb (by
      have : (c.rs.any fun r => decide (40 < r.word.size)) = true := List.any_eq_true.2 ⟨x, dv hx, decide_eq_true h1⟩
      simp [ll, this])
    ·have h1 : decide (40 < x.word.size) = false := decide_eq_false (by have := of_decide_eq_false hc; omega)
     refine bn ?_
     refine hK9 _ ?_
     refine aq ?_
     refine ae rfl (ar rfl (by constructor)) ?_
     first | refine ae rfl (bx rfl rfl rfl (by omega)) ?_ | refine ae rfl (cp rfl rfl rfl) ?_
     refine ae rfl (ax rfl (by constructor)) ?_
     refine am ?_
     dsimp only [St.put]
     exact ⟨k + 1, by omega, ⟨by omega, mg (p := fun y : bh => decide (40 < y.word.size) = false) hx h1 hI.2⟩, ⟨⟨rfl, rfl⟩, zF, zB, zN, zX⟩⟩
   ·try replace hc := of_decide_eq_false hc
    refine co ?_
    refine hK5 _ ?_
    refine aj fun K12 hK12 => ?_
    refine aq ?_
    refine ae rfl (ax rfl (by constructor)) ?_
    refine am ?_
    dsimp only [St.put]
    refine hK12 _ ?_
    refine bk ?_
    refine bo rfl (by constructor) zN zS ?_
    exact vb (by
     have h2 := hI.2
     rw [dd (by omega)] at h2
     have : (c.rs.any fun r => decide (40 < r.word.size)) = false := by rw [List.any_eq_false]; intro y hy; simpa using h2 y hy
     simp [ll, h0, this])
end Go.Proofs.YthboenlglkmnjaaDoor
namespace Go.AB
open Go Go.RowKit
open Go.PB (Chap bd PlaceD bh CopyD bw)
def xd (P : Program) (k u : TypeId) : Bool := match P.underlying k with
 | some (.struct fs) => (match fs.toList with
  | [a, b, c] => a.type == u && b.type == u && c.type == u && a.offset == 0 && b.offset == 1 && c.offset == 2 && fs.all (·.name != "_")
  | _ => false)
 | _ => false
theorem key3 {P : Program} {k u : TypeId} (h : xd P k u = true) (hu : P.underlying u = some (.int .i64)) (h3 : P.cellsOf k = 3) (h1 : P.cellsOf u = 1) (hk : P.keyType k = true) (hm : ∃ m, P.types.size = m + 3) {x y z : Int} (hx : (Lit.int .i64 x).wf = true) (hy : (Lit.int .i64 y).wf = true) (hz : (Lit.int .i64 z).wf = true) : ∃ l, keyOf P k (.agg #[.int .i64 x, .int .i64 y, .int .i64 z]) = some l := by
 obtain ⟨m, hm⟩ := hm
 unfold xd at h
 split at h
 ·rename_i fs hfs
  split at h
  ·rename_i a b c habc
   simp only [Bool.and_eq_true, beq_iff_eq] at h
   obtain ⟨⟨⟨⟨⟨⟨e1, e2⟩, e3⟩, e4⟩, e5⟩, e6⟩, e7⟩ := h
   have hf : (Value.agg #[.int .i64 x, .int .i64 y, .int .i64 z]).formed P k = true := by simp [Value.formed, hfs, h3]
   refine ⟨.string (keyBytes [.int .i64 x, .int .i64 y, .int .i64 z]), ?_⟩
   unfold keyOf
   rw [hfs]
   simp only [hk, hf, Bool.and_self, if_true]
   have hl : P.keyLits (P.types.size + 1) k (Value.agg #[.int .i64 x, .int .i64 y, .int .i64 z]).cells.toList = some [.int .i64 x, .int .i64 y, .int .i64 z] := by
    rw [hm]
    unfold Program.keyLits
    simp only [hfs, h3, h1, e1, e2, e3, e4, e5, e6, e7, habc, Value.cells]
    unfold Program.keyLits
    simp [hu, h1, e1, e2, e3, e4, e5, e6, hx, hy, hz]
   rw [hl]
   rfl
  ·cases h
 ·cases h
end Go.AB
namespace Go.Proofs.YthboenlglkmnjaaDoor
set_option maxRecDepth 10000
open Go Go.RowKit Go.AB
open Go.PB (Chap bd PlaceD bh CopyD bw)
theorem ua6 : Go.Maps.Keyed Tryd.prog 29 := Go.Maps.Keyed.of_law (deep_law_laid oa (m := 2) (by omega) (of_decide_eq_true (by kernel_rfl)) (by kernel_rfl) (by kernel_rfl))
instance : KeyT Tryd.prog 29 PlaceD where
 keyed := ua6
 has {E w x v} h := by
  obtain ⟨vs, rfl, h1, _⟩ := R.agg_inv h
  match vs, h1 with
  | [a, b, c], h1 => exact key3 (u := 3) (by kernel_rfl) re (by kernel_rfl) (by kernel_rfl) (by kernel_rfl) ub9 (pz (qc (h1.2 0 _ _ rfl rfl))) (pz (qc (h1.2 1 _ _ rfl rfl))) (pz (qc (h1.2 2 _ _ rfl rfl)))
  | [], h => exact absurd h.1 (by simp)
  | [_], h => exact absurd h.1 (by simp)
  | [_, _], h => exact absurd h.1 (by simp)
  | _ :: _ :: _ :: _ :: _, h => exact absurd h.1 (by simp)
end Go.Proofs.YthboenlglkmnjaaDoor
namespace Go.AB
open Go Go.RowKit
open Go.AB.Enc (cells)
open Go.PB (Chap bd PlaceD bh CopyD bw)
/-- the places of the first readings, as they come up -/
def c7 (rs : List bh) : Nat → List PlaceD
 | 0 => []
 | k + 1 => match rs[k]? with
  | some r => if r.pl ∈ c7 rs k then c7 rs k else c7 rs k ++ [r.pl]
  | none => c7 rs k
theorem od {rs : List bh} {k : Nat} {r : bh} (hk : rs[k]? = some r) (h : r.pl ∈ c7 rs k) : c7 rs (k + 1) = c7 rs k := by
 simp [c7, hk, h]
theorem m4 {rs : List bh} {k : Nat} {r : bh} (hk : rs[k]? = some r) (h : r.pl ∉ c7 rs k) : c7 rs (k + 1) = c7 rs k ++ [r.pl] := by
 simp [c7, hk, h]
theorem ma {rs : List bh} {k : Nat} {r : bh} (hk : rs[k]? = some r) (p : PlaceD) : dl (rs.take (k + 1)) p = if r.pl = p then dl (rs.take k) p ++ [r] else dl (rs.take k) p := by
 rw [← jn hk, dl, List.filter_append, List.filter_cons]
 split <;> rename_i h <;> simp at h <;> simp [dl, h]
theorem w4 {rs : List bh} : ∀ {k : Nat}, k ≤ rs.length → ∀ p, p ∈ c7 rs k ↔ dl (rs.take k) p ≠ []
 | 0, _, p => by simp [c7, dl]
 | k + 1, h, p => by
  obtain ⟨r, hk⟩ : ∃ r, rs[k]? = some r := cm (l := rs) (k := k) (by omega)
  have ih := w4 (rs := rs) (k := k) (by omega) p
  rw [ma hk]
  by_cases hin : r.pl ∈ c7 rs k
  ·rw [od hk hin, ih]
   split
   ·rename_i e
    rw [e] at hin
    have := ih.1 hin
    simp [this]
   ·rfl
  ·rw [m4 hk hin, List.mem_append, List.mem_singleton, ih]
   split
   ·rename_i e; simp [e]
   ·rename_i e
    constructor
    ·rintro (h | rfl)
     ·exact h
     ·exact absurd rfl e
    ·exact .inl
theorem uc5 (rs : List bh) : ∀ k, (c7 rs k).length ≤ k
 | 0 => by simp [c7]
 | k + 1 => by
  have := uc5 rs k
  simp only [c7]
  split
  ·split
   ·omega
   ·simp; omega
  ·omega
theorem wz (rs : List bh) : ∀ k, (c7 rs k).Nodup
 | 0 => by simp [c7]
 | k + 1 => by
  have ih := wz rs k
  simp only [c7]
  split
  ·split
   ·exact ih
   ·rename_i h; exact sb ih h
  ·exact ih
theorem ubs {α : Type} [DecidableEq α] {l : List α} (h : l.Nodup) {j : Nat} {x : α} (hj : l[j]? = some x) : l.idxOf x = j := by
 obtain ⟨h1, h2⟩ := List.getElem?_eq_some_iff.1 hj
 have h3 : x ∈ l := List.mem_of_getElem? hj
 have h4 := List.idxOf_lt_length_of_mem h3
 have h5 : l[l.idxOf x] = x := List.getElem_idxOf h4
 have h6 := List.pairwise_iff_getElem.1 h
 rcases Nat.lt_trichotomy (l.idxOf x) j with h7 | h7 | h7
 ·exact absurd (h5.trans h2.symm) (h6 _ _ h4 h1 h7)
 ·exact h7
 ·exact absurd (h2.trans h5.symm) (h6 _ _ h1 h4 h7)
def gg (base : Nat) (rs : List bh) (k : Nat) (p : PlaceD) : Nat := base + 2 * (c7 rs k).idxOf p + 1
def eh (base : Nat) (rs : List bh) (k : Nat) : Nat := base + 2 * (c7 rs k).length
/-- what the map holds -/
def atN (base : Nat) (rs : List bh) (k : Nat) : PlaceD → Option C := fun p => if p ∈ c7 rs k then some (.list ((dl (rs.take k) p).map cells) (.tip (gg base rs k p))) else none
/-- .. in the end -/
def atF (rs : List bh) : PlaceD → Option C := fun p => if p ∈ c7 rs rs.length then some (lst (dl rs p)) else none
noncomputable def rdG (P : Program) (kt rt : TypeId) (G0 : Nat → Option GObj) (M base : Nat) (rs : List bh) (k : Nat) : Nat → Option GObj := fun n =>
 if n < base then (if n = M then some (js P kt (2 * k) k (atN base rs k)) else G0 n)
 else if (n - base) % 2 = 1 then ((c7 rs k)[(n - base) / 2]?).map fun p => .tip (dl (rs.take k) p).length rt 5 else none
theorem km (base : Nat) (rs : List bh) (k : Nat) : base ≤ eh base rs k := by unfold eh; omega
theorem zw {base : Nat} {rs : List bh} {k : Nat} {p : PlaceD} (h : p ∈ c7 rs k) : gg base rs k p < eh base rs k := by
 have := List.idxOf_lt_length_of_mem h
 unfold gg eh; omega
theorem nq (base : Nat) (rs : List bh) (k : Nat) (p : PlaceD) : base < gg base rs k p := by unfold gg; omega
section
variable {P : Program} {kt rt : TypeId} {G0 : Nat → Option GObj} {M base : Nat} {rs : List bh} {k : Nat} {r : bh}
theorem ld (hM : M < base) : rdG P kt rt G0 M base rs k M = some (js P kt (2 * k) k (atN base rs k)) := by
 unfold rdG
 rw [if_pos hM, if_pos rfl]
theorem r6 {n : Nat} (hM : n < base) (hne : n ≠ M) : rdG P kt rt G0 M base rs k n = G0 n := by
 unfold rdG
 rw [if_pos hM, if_neg hne]
theorem vd {p : PlaceD} (h : p ∈ c7 rs k) : rdG P kt rt G0 M base rs k (gg base rs k p) = some (.tip (dl (rs.take k) p).length rt 5) := by
 unfold rdG gg
 rw [if_neg (by omega), if_pos (by omega)]
 have : (base + 2 * (c7 rs k).idxOf p + 1 - base) / 2 = (c7 rs k).idxOf p := by omega
 rw [this, List.getElem?_eq_getElem (List.idxOf_lt_length_of_mem h), List.getElem_idxOf]
 rfl
theorem ua1 (hG0 : ∀ n o, G0 n = some o → n < base) {n : Nat} {o : GObj} (h : rdG P kt rt G0 M base rs k n = some o) : n < eh base rs k := by
 have := km base rs k
 unfold rdG at h
 split at h
 ·omega
 ·split at h
  ·obtain ⟨p, hp, _⟩ := Option.map_eq_some_iff.1 h
   have := (List.getElem?_eq_some_iff.1 hp).1
   unfold eh
   omega
  ·cases h
theorem ue4 {m : Nat} (hm : eh base rs k ≤ m) (p : PlaceD) (c : C) (h : atN base rs k p = some c) : c.low m := by
 unfold atN at h
 split at h
 ·rename_i hp
  cases h
  refine .list (fun row hrow c hc => ?_) (fun n hn => ?_)
  ·obtain ⟨x, _, rfl⟩ := List.mem_map.1 hrow
   exact Enc.low m x c hc
  ·cases hn
   have := zw (base := base) hp
   omega
 ·cases h
theorem we {α : Type} [KeyV α] {m : α → Option C} {k : Nat} (h : ∀ x c, m x = some c → c.low k) : ∀ v c, gp m v = some c → c.low k := fun v c hv => by
 by_cases hex : ∃ y : α, v = KeyV.kv y
 ·obtain ⟨y, rfl⟩ := hex
  rw [gh] at hv
  exact h y c hv
 ·rw [m2 _ hex] at hv; cases hv
theorem vg {H : Nat → Option GObj} (hG0 : ∀ n o, G0 n = some o → n ≠ M → H n = some o) {n : Nat} {o : GObj} (h : rdG P kt rt G0 M base rs k n = some o) (hM : M < base) : H n = some o ∨ (n < eh base rs k ∧ o.low (eh base rs k)) := by
 have h1 := km base rs k
 unfold rdG at h
 split at h
 ·split at h
  ·rename_i hn
   cases h
   exact .inr ⟨by omega, we fun x c hc => ue4 (Nat.le_refl _) x c hc⟩
  ·rename_i hn
   exact .inl (hG0 n o h hn)
 ·split at h
  ·obtain ⟨p, hp, rfl⟩ := Option.map_eq_some_iff.1 h
   have := (List.getElem?_eq_some_iff.1 hp).1
   refine .inr ⟨by unfold eh; omega, trivial⟩
  ·cases h
theorem ue3 (base : Nat) (rs : List bh) : atN base rs 0 = fun _ => none := by
 funext p
 simp [atN, c7]
theorem ve (hM : M < base) {n : Nat} {o : GObj} (h : rdG P kt rt G0 M base rs 0 n = some o) : bc G0 M (js P kt 0 0 (α := PlaceD) fun _ => none) n = some o := by
 unfold rdG at h
 split at h
 ·split at h
  ·rename_i hn
   rw [hn, f5, ← ue3 base rs]; exact h
  ·rename_i hn
   rw [dg hn]; exact h
 ·split at h
  ·simp [c7] at h
  ·cases h
theorem yw {z : Value} (h : r.pl ∈ c7 rs k) : (atN base rs k r.pl).getD (jl z) = .list ((dl (rs.take k) r.pl).map cells) (.tip (gg base rs k r.pl)) := by
 simp [atN, h]
theorem yv (h : r.pl ∉ c7 rs k) : (atN base rs k r.pl).getD (jl (.slice none 0 0)) = .list [] .nil := by
 simp [atN, h]; rfl
theorem yu {c : C} (h : r.pl ∈ c7 rs k) (hc : c = .list ((dl (rs.take k) r.pl).map cells) (.tip (gg base rs k r.pl))) : fx (atN base rs k) r.pl c = atN base rs k := by
 funext p
 unfold fx
 split
 ·rename_i e; rw [e, hc]; simp [atN, h]
 ·rfl
theorem rh {p : PlaceD} (hk : rs[k]? = some r) (h : p ∈ c7 rs k) : gg base rs (k + 1) p = gg base rs k p := by
 unfold gg
 by_cases hin : r.pl ∈ c7 rs k
 ·rw [od hk hin]
 ·rw [m4 hk hin, List.idxOf_append, if_pos h]
theorem zv (hk : rs[k]? = some r) (h : r.pl ∉ c7 rs k) : gg base rs (k + 1) r.pl = eh base rs k + 1 := by
 unfold gg eh
 rw [m4 hk h, List.idxOf_append, if_neg h]
 simp
theorem yq (hk : rs[k]? = some r) (h : r.pl ∈ c7 rs k) {c : C} (hc : c = .list ((dl (rs.take k) r.pl ++ [r]).map cells) (.tip (gg base rs k r.pl))) : fx (atN base rs k) r.pl c = atN base rs (k + 1) := by
 funext p
 unfold fx atN
 rw [od hk h, ma hk]
 split
 ·rename_i e
  subst e
  rw [if_pos h, if_pos rfl, hc, rh hk h]
 ·rename_i e
  split
  ·rename_i hp
   rw [if_neg (fun e2 => e e2.symm), rh hk hp]
  ·rfl
theorem rx (hk : k ≤ rs.length) {p : PlaceD} (h : p ∉ c7 rs k) : dl (rs.take k) p = [] := by
 rw [w4 hk] at h
 simpa using h
theorem yr (hk : rs[k]? = some r) (h : r.pl ∉ c7 rs k) {c d : C} (hc : c = .list ((([] : List bh) ++ [r]).map cells) (.tip (eh base rs k + 1))) : fx (fx (atN base rs k) r.pl d) r.pl c = atN base rs (k + 1) := by
 have hk' : k ≤ rs.length := Nat.le_of_lt (List.getElem?_eq_some_iff.1 hk).1
 funext p
 unfold fx atN
 rw [m4 hk h, ma hk]
 by_cases e : p = r.pl
 ·subst e
  rw [if_pos rfl, if_pos (by simp), if_pos rfl, hc, zv hk h, rx hk' h]
 ·have e' : ¬ r.pl = p := fun h => e h.symm
  by_cases hp : p ∈ c7 rs k
  ·simp [e, e', hp, rh hk hp]
  ·simp [e, e', hp]
theorem vh (hG0 : ∀ n o, G0 n = some o → n < base) {B B' : GObj} {n : Nat} {o : GObj} (h : rdG P kt rt G0 M base rs k n = some o) : j5 (bc (bc (rdG P kt rt G0 M base rs k) (eh base rs k) B) (eh base rs k) B') (eh base rs k) n = some o := by
 have := ua1 hG0 h
 rw [jt (by omega), dg (by omega), dg (by omega)]
 exact h
theorem pj (hM : M < base) (hk : rs[k]? = some r) (hin : r.pl ∈ c7 rs k) {A : GObj} {len : Nat} (hl : len = (dl (rs.take k) r.pl ++ [r]).length) {n : Nat} {o : GObj} (h : rdG P kt rt G0 M base rs (k + 1) n = some o) :
  bc (bc (bc (rdG P kt rt G0 M base rs k) M A) (gg base rs k r.pl) (.tip len rt 5)) M (js P kt (2 * k + 1 + 1) (k + 1) (atN base rs (k + 1))) n = some o := by
 by_cases hn : n = M
 ·subst hn
  rw [f5]
  rw [ld hM] at h
  exact h
 ·rw [dg hn]
  unfold rdG at h
  split at h
  ·rename_i hlt
   have := nq base rs k r.pl
   rw [dg (by omega), dg hn, r6 hlt hn]
   exact h
  ·rename_i hlt
   split at h
   ·rename_i hodd
    obtain ⟨p, hp, rfl⟩ := Option.map_eq_some_iff.1 h
    rw [od hk hin] at hp
    by_cases ht : n = gg base rs k r.pl
    ·rw [ht, f5]
     unfold gg at ht
     have e1 : (n - base) / 2 = (c7 rs k).idxOf r.pl := by omega
     rw [e1, List.getElem?_eq_getElem (List.idxOf_lt_length_of_mem hin), List.getElem_idxOf] at hp
     cases hp
     rw [ma hk, if_pos rfl, hl]
    ·rw [dg ht, dg hn]
     unfold rdG
     rw [if_neg hlt, if_pos hodd, hp, Option.map_some, ma hk, if_neg (fun e => ht ?_)]
     subst e
     have hnd : (c7 rs k).idxOf r.pl = (n - base) / 2 := ?_
     ·unfold gg; omega
     ·exact ubs (wz rs k) hp
   ·cases h
theorem pk (hG0 : ∀ n o, G0 n = some o → n < base) (hM : M < base) (hk : rs[k]? = some r) (hin : r.pl ∉ c7 rs k) {A B : GObj} {len : Nat} (hl : len = 1) {n : Nat} {o : GObj} (h : rdG P kt rt G0 M base rs (k + 1) n = some o) :
  bc (bc (bc (bc (rdG P kt rt G0 M base rs k) M A) (eh base rs k + 1) B) (eh base rs k + 1) (.tip len rt 5)) M (js P kt (2 * k + 1 + 1) (k + 1) (atN base rs (k + 1))) n = some o := by
 have hk' : k ≤ rs.length := Nat.le_of_lt (List.getElem?_eq_some_iff.1 hk).1
 have hnle := km base rs k
 by_cases hn : n = M
 ·subst hn
  rw [f5]
  rw [ld hM] at h
  exact h
 ·rw [dg hn]
  unfold rdG at h
  split at h
  ·rename_i hlt
   rw [dg (by omega), dg (by omega), dg hn, r6 hlt hn]
   exact h
  ·rename_i hlt
   split at h
   ·rename_i hodd
    obtain ⟨p, hp, rfl⟩ := Option.map_eq_some_iff.1 h
    rw [m4 hk hin] at hp
    by_cases ht : n = eh base rs k + 1
    ·rw [ht, f5]
     have e1 : (n - base) / 2 = (c7 rs k).length := by unfold eh at ht; omega
     rw [e1, List.getElem?_append_right (Nat.le_refl _), Nat.sub_self] at hp
     cases hp
     rw [ma hk, if_pos rfl, hl, rx hk' hin]
     rfl
    ·have hlt2 := (List.getElem?_eq_some_iff.1 hp).1
     rw [List.length_append, List.length_singleton] at hlt2
     have hlt3 : (n - base) / 2 < (c7 rs k).length := by unfold eh at ht; omega
     rw [List.getElem?_append_left hlt3] at hp
     rw [dg ht, dg ht, dg hn]
     unfold rdG
     rw [if_neg hlt, if_pos hodd, hp, Option.map_some, ma hk, if_neg (fun e => hin ?_)]
     rw [e]
     exact List.mem_of_getElem? hp
   ·cases h
theorem pp (hk : rs[k]? = some r) (h : r.pl ∈ c7 rs k) : eh base rs (k + 1) ≤ eh base rs k + 1 := by
 unfold eh
 rw [od hk h]
 omega
theorem pq (hk : rs[k]? = some r) (h : r.pl ∉ c7 rs k) : eh base rs (k + 1) ≤ eh base rs k + 1 + 1 := by
 unfold eh
 rw [m4 hk h, List.length_append, List.length_singleton]
 omega
theorem yx {base : Nat} (x : PlaceD) (c : C) (h : atN base rs rs.length x = some c) : ∃ c', atF rs x = some c' ∧ ∀ (E : Env) (w : World) (v : Value), R E w c v → R E w c' v := by
 unfold atN at h
 split at h
 ·rename_i hp
  cases h
  refine ⟨lst (dl rs x), by simp [atF, hp], fun E w v hr => ?_⟩
  rw [List.take_of_length_le (Nat.le_refl _)] at hr
  exact Wk.tok.2 E w v hr
 ·cases h
theorem y0 {base : Nat} (x : PlaceD) (c : C) (h : atF rs x = some c) : ∃ c', atN base rs rs.length x = some c' := by
 unfold atF at h
 split at h
 ·rename_i hp
  exact ⟨_, if_pos hp⟩
 ·cases h
theorem yz (rs : List bh) (p : PlaceD) : ∃ tok, (atF rs p).getD (jl (.slice none 0 0)) = .list ((dl rs p).map cells) tok := by
 unfold atF
 by_cases h : p ∈ c7 rs rs.length
 ·rw [if_pos h]; exact ⟨.none, rfl⟩
 ·rw [if_neg h]
  have := rx (Nat.le_refl _) h
  rw [List.take_of_length_le (Nat.le_refl _)] at this
  rw [this]
  exact ⟨.nil, rfl⟩
theorem vf (hG0 : ∀ n o, G0 n = some o → n < base) {X : GObj} {n : Nat} {o : GObj} (h : bc G0 M X n = some o) : bc (rdG P kt rt G0 M base rs k) M X n = some o := by
 by_cases hn : n = M
 ·rw [hn, f5] at h ⊢; exact h
 ·rw [dg hn] at h ⊢
  rw [r6 (hG0 n o h) hn]; exact h
theorem ue5 {m : Nat} (p : PlaceD) (c : C) (h : atF rs p = some c) : c.low m := by
 unfold atF at h
 split at h
 ·cases h; exact ce _ _
 ·cases h
theorem k6 {m wv : Nat} : (ei P kt wv (atF rs)).low m := we fun x c h => ue5 x c h
end
end Go.AB
namespace Go.Proofs.YthboenlglkmnjaaDoor
open Go.Shelf
def uec : Go.Shelf.Ren := ⟨fun | 10 => 38 | 6 => 53 | n => n, fun | 22 => 56 | 23 => 9 | 25 => 89 | 3 => 3 | 4 => 4 | 0 => 0 | n => n, fun | n => n⟩
theorem x9 : Go.Proofs.SlLaysH.n10 Tryd.prog uec := {
 mixed := by kernel_rfl
 f6 := ⟨Tryd.f53.name, by decide, Tryd.func53.trans (congrArg some (by kernel_rfl))⟩
 f10 := ⟨Tryd.f38.name, by decide, Tryd.func38.trans (congrArg some (by kernel_rfl))⟩
 t0 := Tryd.underlying0
 a0 := Tryd.isAgg0
 z0 := Tryd.sizeOf0
 v0 := Tryd.zeroValue0
 t3 := Tryd.underlying3
 a3 := Tryd.isAgg3
 z3 := Tryd.sizeOf3
 v3 := Tryd.zeroValue3
 t4 := Tryd.underlying4
 a4 := Tryd.isAgg4
 z4 := Tryd.sizeOf4
 v4 := Tryd.zeroValue4
 t22 := Tryd.underlying56
 a22 := Tryd.isAgg56
 z22 := Tryd.sizeOf56
 v22 := Tryd.zeroValue56
 a23 := Tryd.isAgg9
 z23 := Tryd.sizeOf9
 t25 := Tryd.underlying89
 a25 := Tryd.isAgg89
 z25 := Tryd.sizeOf89
 v25 := Tryd.zeroValue89 }
end Go.Proofs.YthboenlglkmnjaaDoor
namespace Go.AB
open Go Go.RowKit
open Go.AB.Enc (cells)
open Go.PB (Chap bd PlaceD bh CopyD bw)
theorem nz {rs : List bh} {k m : Nat} {c : Chap} {l : List ByteArray} (h : c.lines[m]? = some l) : (ef rs k c).lines[m]? = some (gz rs (k : Int) (m : Int) l) := by
 unfold ef
 dsimp only
 rw [List.getElem?_mapIdx, h]; rfl
theorem ph {t : bd} {rs : List bh} {k : Nat} {c : Chap} (h : t[k]? = some c) : (c9 t rs)[k]? = some (ef rs k c) := by
 rw [rz, h]; rfl
theorem pi (rs : List bh) (k : Nat) (c : Chap) : (ef rs k c).lines.length = c.lines.length := by simp [ef]
theorem ny (t : bd) (rs : List bh) : (c9 t rs).length = t.length := by simp [c9]
theorem vj {t : bd} {rs : List bh} (hv : rsB t rs = true) {k n : Nat} {c : Chap} {l : List ByteArray} (hc : t[k]? = some c) (hl : c.lines[n]? = some l) : eb rs (k : Int) (n : Int) l (l.length + 1) ≠ [] := by
 rw [n1]
 have : dw (ci l l.length) (dl rs ⟨(k : Int), (n : Int), (l.length : Int)⟩) ≠ [] := ua3 fun r hr => by
  obtain ⟨h1, h2⟩ := List.mem_filter.1 hr
  have hp := of_decide_eq_true h2
  obtain ⟨l', hw, hk⟩ := pg ((rsB_true.1 hv).1 r h1)
  have e1 : r.pl.ch = (k : Int) := by rw [hp]
  have e2 : r.pl.ln = (n : Int) := by rw [hp]
  have e3 : r.pl.wd = (l.length : Int) := by rw [hp]
  rw [e1, e2, o9 hc hl] at hw
  cases hw
  rcases hk with ⟨_, _, h5, _⟩ | ⟨h5, _⟩ | ⟨_, _, h5, _⟩
  ·omega
  ·exact h5
  ·omega
 intro h
 exact this (List.append_eq_nil_iff.1 h).2
end Go.AB
namespace Go.Proofs.YthboenlglkmnjaaDoor
set_option maxRecDepth 10000
open Go.RowKit Go.AB
open Go.AB.Enc (cells)
open Go.PB (Chap bd PlaceD bh CopyD bw)
theorem vc (W : World) (y : ByteArray) : Calls Tryd.prog 39 #[.string y] W fun e w' => e = .returned (.bool (decide (y = ByteArray.empty))) ∧ ∃ q, w' = W.drewN q := by
 have h0 : (y.toList == ByteArray.empty.toList) = decide (y = ByteArray.empty) := rg y ByteArray.empty
 go_enter Tryd.func39, Tryd.ntmps39
 go_wp2
 go_ret
 have h1 : y.toList.isEmpty = decide (y = ByteArray.empty) := by
  rw [← h0, show ByteArray.empty.toList = [] by first | decide +kernel | simp]
  cases y.toList <;> rfl
 exact ⟨by rw [← h1]; rfl, 0, rfl⟩
abbrev kndL : List C := [.v (.int .i64 0), .v .nilFunc, .v .nilFunc, .v (.int .i64 0), .fn (.func 84) [], .fn (.func 85) [], .v (.int .i64 1), .fn (.func 86) [], .fn (.func 87) [], .v (.int .i64 0), .fn (.func 88) [], .fn (.func 89) []]
abbrev gi : GObj := .fact (.pointer (some ⟨0, 0, none⟩)) (.elem kndL)
theorem sk {k : Nat} (h1 : 1 ≤ k) (h3 : k ≤ 3) : ∃ (f g : Nat) (rest : List C), kndL.drop (k * 3) = C.v (.int .i64 (jq k)) :: C.fn (.func f) [] :: C.fn (.func g) [] :: rest ∧ Fun Tryd.prog f ∧ Fun Tryd.prog g ∧ (∀ own put, Pure Tryd.prog f [.v (.string own), .v (.string put)] (.v (.bool (oe k own put)))) ∧ (∀ own put, Pure Tryd.prog g [.v (.string own), .v (.string put)] (lst (g8 k own put))) := by
 obtain rfl | rfl | rfl : k = 1 ∨ k = 2 ∨ k = 3 := by omega
 ·exact ⟨_, _, _, rfl, inferInstance, inferInstance, uc4, uc3⟩
 ·exact ⟨_, _, _, rfl, inferInstance, inferInstance, fun _ p => uc2 _ p, uc1⟩
 ·exact ⟨_, _, _, rfl, inferInstance, inferInstance, uc0, fun _ p => ucz _ p⟩
set_option maxHeartbeats 4000000 in
theorem ym (n : Nat) (t : bd) (c : CopyD) (ht : ck t = true) (hl20 : c.rs.length ≤ 20) (hv : rsB t c.rs = true) : gx n gi Tryd.prog 20 [.elem [lst t], val c] (dn (c9 t c.rs)) := fun G nx hF hnx => by
 refine je (G) (nx) Tryd.func20 rfl (.agg (cv (ce _ _) de)) zN (fun hlt => zH) ?_
 simp only [Tryd.ntmps20, List.length_cons, List.length_nil, Nat.reduceAdd, Nat.reduceSub]
 refine b9 fun hlt => ?_
 dsimp only at hlt
 have hlt0 : ∀ n o, (bc G nx (.box 0 [.list [] .nil])) n = some o → n < nx + 1 + 1 := fun j o h => by
  simp only [bc] at h
  split at h
  ·omega
  ·have := hlt j o h; omega
 obtain ⟨htx1, htx2, htx3⟩ := i3 ht
 obtain ⟨hv1, hv2⟩ := rsB_true.1 hv
 have hM : nx + 1 < nx + 1 + 1 := Nat.lt_succ_self _
 refine aj fun K1 hK1 => ?_
 refine aq ?_
 try dsimp only [St.put]
 refine av rfl (cw rfl rfl (by simp) ?_)
 try dsimp only [St.put]
 refine av rfl (di rfl ?_)
 refine am ?_
 dsimp only [St.put]
 refine hK1 _ ?_
 refine aj fun K2 hK2 => ?_
 refine aq ?_
 try dsimp only [St.put]
 refine av rfl (xv (α := PlaceD) rfl ?_)
 refine ae rfl (ax rfl (by constructor)) ?_
 refine am ?_
 dsimp only [St.put]
 refine hK2 _ ?_
 refine aj fun K3 hK3 => ?_
 refine aj fun K4 hK4 => ?_
 refine aq ?_
 first | refine ae rfl (bg rfl rfl rfl) ?_ | refine ae rfl (bi rfl rfl) ?_
 try dsimp only [St.put]
 first | refine aa rfl (aw rfl rfl) ?_ | refine aa rfl (ah rfl rfl (Enc.len _)) ?_ | refine aa rfl (ah rfl rfl rfl) ?_ | refine aa rfl (a7 rfl rfl zG trivial (by first | rfl | assumption)) ?_ | refine aa rfl (az rfl rfl zG trivial (by rfl)) ?_ | refine aa rfl (a8 rfl rfl zG trivial (by simp)) ?_ | refine aa rfl (ai rfl rfl zG trivial (ay (by assumption) rfl)) ?_ | refine aa rfl (ai rfl rfl zG trivial (by assumption)) ?_ | refine aa rfl (a9 rfl rfl zG trivial rfl (by assumption) rfl (by decide)) ?_ | refine aa rfl (ba rfl rfl zG (by rfl)) ?_
 first | refine ae rfl (bj rfl rfl (List.length_map _)) ?_ | refine ae rfl (bj rfl rfl rfl) ?_ | refine ae rfl (b8 rfl rfl) ?_ | refine ae rfl (cd rfl rfl) ?_ | refine ae rfl (cb rfl rfl) ?_ | refine ae rfl (ca rfl rfl (by omega)) ?_
 refine ae rfl (ar rfl (by constructor)) ?_
 refine am ?_
 dsimp only [St.put]
 refine hK4 _ ?_
 refine bq ?_
 refine cg 25 ?_
 refine zQ ?_
 refine cn (bc (bc G nx (.box 0 [.list [] .nil])) (nx + 1) (js Tryd.prog 29 0 0 (α := PlaceD) fun _ => none)) zX ?_
 dsimp only
 refine qw (X := Nat) (fun k => k ≤ c.rs.length) (fun k => c.rs.length - k) (fun k => [(7, .any), (24, .v (.int .i64 (k : Int)))]) (fun k G' => (rdG Tryd.prog 29 60 (bc G nx (.box 0 [.list [] .nil])) (nx + 1) (nx + 1 + 1) c.rs k)) (fun k => eh (nx + 1 + 1) c.rs k) 0 rfl ?_ ?_ (rfl) ?_ ?_ ?_ ?_ ?_
 ·exact Nat.zero_le _
 ·exact zF
 ·exact fun j o h => ve hM h
 ·rintro k hI
  exact km _ _ _
 ·rintro k hI
  exact zL
 ·rintro k hI
  exact fun j o h => vg (fun j o h hne => (dg hne).trans h) h hM
 ·rintro k hI
  dsimp only at hI ⊢
  refine aj fun K5 hK5 => ?_
  refine aq ?_
  refine ae rfl (cj rfl rfl rfl) ?_
  refine am ?_
  dsimp only [St.put]
  refine hK5 _ ?_
  refine aj fun K6 hK6 => ?_
  refine bl rfl (fun hc => ?_) (fun hc => ?_)
  ·replace hc := of_decide_eq_true hc
   obtain ⟨r, hx⟩ : ∃ x, c.rs[k]? = some x := cm (by omega)
   have hk' : k ≤ c.rs.length := hI
   have hnle := km (nx + 1 + 1) c.rs k
   refine bn ?_
   refine hK6 _ ?_
   refine aj fun K7 hK7 => ?_
   refine bq ?_
   refine aj fun K8 hK8 => ?_
   refine aq ?_
   try dsimp only [St.put]
   first | refine ae rfl (bf rfl rfl rfl rfl (bm (by assumption)) (Enc.len _)) ?_ | refine ae rfl (bf rfl rfl rfl rfl (by assumption) rfl) ?_ | refine ae rfl (cr rfl rfl rfl (by first | exact ct _ | exact rfl) (by omega)) ?_ | refine ae rfl (bf rfl rfl rfl (by omega) (bm (by assumption)) (Enc.len _)) ?_
   try dsimp only [St.put]
   first | refine aa rfl (aw rfl rfl) ?_ | refine aa rfl (ah rfl rfl (Enc.len _)) ?_ | refine aa rfl (ah rfl rfl rfl) ?_ | refine aa rfl (a7 rfl rfl zG trivial (by first | rfl | assumption)) ?_ | refine aa rfl (az rfl rfl zG trivial (by rfl)) ?_ | refine aa rfl (a8 rfl rfl zG trivial (by simp)) ?_ | refine aa rfl (ai rfl rfl zG trivial (ay (by assumption) rfl)) ?_ | refine aa rfl (ai rfl rfl zG trivial (by assumption)) ?_ | refine aa rfl (a9 rfl rfl zG trivial rfl (by assumption) rfl (by decide)) ?_ | refine aa rfl (ba rfl rfl zG (by rfl)) ?_
   try dsimp only [St.put]
   refine av rfl (di rfl ?_)
   try dsimp only [St.put]
   first | refine av rfl (c8 rfl rfl rfl zG rfl rfl (by rfl) ?_) | refine av rfl (dh rfl rfl rfl zG (by constructor) rfl zO ?_)
   refine am ?_
   dsimp only [St.put]
   refine hK8 _ ?_
   refine ep (i := 7) rfl zG zC ?_
   dsimp only
   refine cn (rdG Tryd.prog 29 60 (bc G nx (.box 0 [.list [] .nil])) (nx + 1) (nx + 1 + 1) c.rs k) (fun j o h => vh hlt0 h) ?_
   dsimp only
   by_cases hin : r.pl ∈ c7 c.rs k
   ·refine aq ?_
    refine ae rfl (ar rfl (by constructor)) ?_
    first | refine ae rfl (bg rfl rfl rfl) ?_ | refine ae rfl (bi rfl rfl) ?_
    try dsimp only [St.put]
    refine aa rfl (c := val r.pl) (io (cs := cells r) rfl rfl (show 3 ≤ 5 by decide)) ?_
    try dsimp only [St.put]
    first | refine aa rfl (aw rfl rfl) ?_ | refine aa rfl (ah rfl rfl (Enc.len _)) ?_ | refine aa rfl (ah rfl rfl rfl) ?_ | refine aa rfl (a7 rfl rfl zG trivial (by first | rfl | assumption)) ?_ | refine aa rfl (az rfl rfl zG trivial (by rfl)) ?_ | refine aa rfl (a8 rfl rfl zG trivial (by simp)) ?_ | refine aa rfl (ai rfl rfl zG trivial (ay (by assumption) rfl)) ?_ | refine aa rfl (ai rfl rfl zG trivial (by assumption)) ?_ | refine aa rfl (a9 rfl rfl zG trivial rfl (by assumption) rfl (by decide)) ?_ | refine aa rfl (ba rfl rfl zG (by rfl)) ?_
    try dsimp only [St.put]
    refine av rfl (dx rfl rfl rfl (by decide) (by decide) zR (by decide) ?_)
    try dsimp only [St.put]
    refine av rfl (ql (α := PlaceD) r.pl rfl rfl (ld hM) rfl (by omega) (yw hin) (yu hin rfl) (fun s => ?_))
    refine ae rfl (da rfl rfl rfl) ?_
    try dsimp only [St.put]
    refine av rfl (gr [r] rfl rfl ((dg (by have := nq (nx + 1 + 1) c.rs k r.pl; omega)).trans (vd hin)) rfl rfl rfl (by have h1 := k9 (c.rs.take k) r.pl; have h2 := List.length_take_le k c.rs; simp only [List.length_cons, List.length_nil]; omega) ?_ (by have h1 := k9 (c.rs.take k) r.pl; have h2 := List.length_take_le k c.rs; simp only [List.length_cons, List.length_nil]; omega))
    refine ae rfl (da rfl rfl rfl) ?_
    try dsimp only [St.put]
    refine av rfl (qm (α := PlaceD) (s := s) r.pl rfl rfl rfl ((dg (by have := nq (nx + 1 + 1) c.rs k r.pl; omega)).trans (f5 _ _ _)) rfl (yq hx hin rfl) ?_)
    refine am ?_
    dsimp only [St.put]
    refine hK7 _ ?_
    refine aq ?_
    first | refine ae rfl (bx rfl rfl rfl (by omega)) ?_ | refine ae rfl (cp rfl rfl rfl) ?_
    refine ae rfl (ar rfl (by constructor)) ?_
    refine am ?_
    dsimp only [St.put]
    first
     | exact ⟨k + 1, by omega, by omega, ⟨⟨rfl, rfl⟩, zF, zB, pp hx hin, fun j o h => pj hM hx hin rfl h⟩⟩
     | exact ⟨k + 1, by omega, by omega, ⟨⟨rfl, rfl⟩, zF, zB, pq hx hin, fun j o h => pk hlt0 hM hx hin rfl h⟩⟩
   ·refine aq ?_
    refine ae rfl (ar rfl (by constructor)) ?_
    first | refine ae rfl (bg rfl rfl rfl) ?_ | refine ae rfl (bi rfl rfl) ?_
    try dsimp only [St.put]
    refine aa rfl (c := val r.pl) (io (cs := cells r) rfl rfl (show 3 ≤ 5 by decide)) ?_
    try dsimp only [St.put]
    first | refine aa rfl (aw rfl rfl) ?_ | refine aa rfl (ah rfl rfl (Enc.len _)) ?_ | refine aa rfl (ah rfl rfl rfl) ?_ | refine aa rfl (a7 rfl rfl zG trivial (by first | rfl | assumption)) ?_ | refine aa rfl (az rfl rfl zG trivial (by rfl)) ?_ | refine aa rfl (a8 rfl rfl zG trivial (by simp)) ?_ | refine aa rfl (ai rfl rfl zG trivial (ay (by assumption) rfl)) ?_ | refine aa rfl (ai rfl rfl zG trivial (by assumption)) ?_ | refine aa rfl (a9 rfl rfl zG trivial rfl (by assumption) rfl (by decide)) ?_ | refine aa rfl (ba rfl rfl zG (by rfl)) ?_
    try dsimp only [St.put]
    refine av rfl (dx rfl rfl rfl (by decide) (by decide) zR (by decide) ?_)
    try dsimp only [St.put]
    refine av rfl (ql (α := PlaceD) r.pl rfl rfl (ld hM) rfl (by omega) (yv hin) rfl (fun s => ?_))
    refine ae rfl (da rfl rfl rfl) ?_
    try dsimp only [St.put]
    refine av rfl (x6 31 60 5 rfl (by decide) (gr (xs := ([] : List bh)) [r] rfl rfl (f5 _ _ _) rfl rfl rfl (by simp) ?_ (by simp)))
    refine ae rfl (da rfl rfl rfl) ?_
    try dsimp only [St.put]
    refine av rfl (qm (α := PlaceD) (s := s) r.pl rfl rfl rfl ((dg (by omega)).trans ((dg (by omega)).trans (f5 _ _ _))) rfl (yr hx hin rfl) ?_)
    refine am ?_
    dsimp only [St.put]
    refine hK7 _ ?_
    refine aq ?_
    first | refine ae rfl (bx rfl rfl rfl (by omega)) ?_ | refine ae rfl (cp rfl rfl rfl) ?_
    refine ae rfl (ar rfl (by constructor)) ?_
    refine am ?_
    dsimp only [St.put]
    first
     | exact ⟨k + 1, by omega, by omega, ⟨⟨rfl, rfl⟩, zF, zB, pp hx hin, fun j o h => pj hM hx hin rfl h⟩⟩
     | exact ⟨k + 1, by omega, by omega, ⟨⟨rfl, rfl⟩, zF, zB, pq hx hin, fun j o h => pk hlt0 hM hx hin rfl h⟩⟩
  ·replace hc := of_decide_eq_false hc
   obtain rfl : k = c.rs.length := by omega
   refine co ?_
   refine hK3 _ ?_
   refine aj fun K9 hK9 => ?_
   refine yn (m' := atF c.rs) (ld hM) (fun x c h => yx x c h) (fun x c h => y0 x c h) ?_
   refine cn (bc (bc G nx (.box 0 [.list [] .nil])) (nx + 1) (ei Tryd.prog 29 (2 * c.rs.length) (atF c.rs))) (fun j o h => vf hlt0 h) ?_
   dsimp only
   obtain ⟨NN, hNN⟩ : ∃ NN, eh (nx + 1 + 1) c.rs c.rs.length = NN := ⟨_, rfl⟩
   have hNN1 : nx + 1 + 1 ≤ NN := by rw [← hNN]; exact km _ _ _
   rw [hNN]
   refine aq ?_
   try dsimp only [St.put]
   refine av rfl (di rfl ?_)
   refine am ?_
   dsimp only [St.put]
   refine hK9 _ ?_
   refine kz (NN) 0 _ _ 55 2 zG rfl (by decide) ?_
   dsimp only [List.set_cons_zero, List.set_cons_succ]
   refine aj fun K10 hK10 => ?_
   refine aj fun K11 hK11 => ?_
   refine aq ?_
   refine ae rfl (ar rfl (by constructor)) ?_
   first | refine ae rfl (m1 rfl rfl) ?_ | refine ae rfl (m0 rfl rfl) ?_ | refine ae rfl (mz rfl rfl) ?_
   first | refine ae rfl (bg rfl rfl rfl) ?_ | refine ae rfl (bi rfl rfl) ?_
   first | refine ae rfl (bg rfl rfl rfl) ?_ | refine ae rfl (bi rfl rfl) ?_
   try dsimp only [St.put]
   first | refine aa rfl (aw rfl rfl) ?_ | refine aa rfl (ah rfl rfl (Enc.len _)) ?_ | refine aa rfl (ah rfl rfl rfl) ?_ | refine aa rfl (a7 rfl rfl zG trivial (by first | rfl | assumption)) ?_ | refine aa rfl (az rfl rfl zG trivial (by rfl)) ?_ | refine aa rfl (a8 rfl rfl zG trivial (by simp)) ?_ | refine aa rfl (ai rfl rfl zG trivial (ay (by assumption) rfl)) ?_ | refine aa rfl (ai rfl rfl zG trivial (by assumption)) ?_ | refine aa rfl (a9 rfl rfl zG trivial rfl (by assumption) rfl (by decide)) ?_ | refine aa rfl (ba rfl rfl zG (by rfl)) ?_
   first | refine ae rfl (bj rfl rfl (List.length_map _)) ?_ | refine ae rfl (bj rfl rfl rfl) ?_ | refine ae rfl (b8 rfl rfl) ?_ | refine ae rfl (cd rfl rfl) ?_ | refine ae rfl (cb rfl rfl) ?_ | refine ae rfl (ca rfl rfl (by omega)) ?_
   refine ae rfl (ar rfl (by constructor)) ?_
   refine am ?_
   dsimp only [St.put]
   refine hK11 _ ?_
   refine bq ?_
   refine cg 45 ?_
   refine zQ ?_
   refine cn ((bc (bc (bc (bc G nx (.box 0 [.list [] .nil])) (nx + 1) (ei Tryd.prog 29 (2 * c.rs.length) (atF c.rs))) NN (.box 0 [.list (((c9 t c.rs).take 0).map cells) (.tip (NN + 1))])) (NN + 1) (.tip ((c9 t c.rs).take 0).length 55 2))) zX ?_
   dsimp only
   refine cz (X := Nat) (fun k => k ≤ t.length) (fun k => t.length - k) (fun k => [(9, .any), (10, .any), (11, .any), (12, .any), (13, .any), (14, .any), (15, .any), (16, .any), (18, .any), (19, .any), (44, .v (.int .i64 (k : Int)))]) (fun k G' => (bc (bc (bc (bc G nx (.box 0 [.list [] .nil])) (nx + 1) (ei Tryd.prog 29 (2 * c.rs.length) (atF c.rs))) NN (.box k [.list (((c9 t c.rs).take k).map cells) (.tip (NN + 1))])) (NN + 1) (.tip ((c9 t c.rs).take k).length 55 2))) 0 rfl ?_ ?_ ?_ ?_ ?_ ?_
   ·exact Nat.zero_le _
   ·exact zF
   ·exact zX
   ·rintro k hI
    exact (by (try dsimp only); repeat' (first | exact trivial | refine ⟨?_, ?_⟩ | exact .v | exact .any | refine .elem ?_ | exact ce _ _ | exact fh _ _ | exact e9 _ _ | exact fg _ (by (try dsimp only); omega) | exact .box (by (try dsimp only); omega) | exact fe | exact de | exact k6 | refine fb ?_ ?_ | exact .arr (by (try dsimp only); omega) | exact .own (by (try dsimp only); omega) | exact .map (by (try dsimp only); omega) | exact ey _ | refine cv ?_ ?_ | exact ce _ _))
   ·rintro k hI
    exact (by (repeat' (refine ji ?_ (by (try dsimp only); omega) ?_)); all_goals (first | exact jp zS | (repeat' (first | exact trivial | refine ⟨?_, ?_⟩ | exact .v | exact .any | refine .elem ?_ | exact ce _ _ | exact fh _ _ | exact e9 _ _ | exact fg _ (by (try dsimp only); omega) | exact .box (by (try dsimp only); omega) | exact fe | exact de | exact k6 | refine fb ?_ ?_ | exact .arr (by (try dsimp only); omega) | exact .own (by (try dsimp only); omega) | exact .map (by (try dsimp only); omega) | exact ey _ | refine cv ?_ ?_ | exact ce _ _))))
   ·rintro k hI2
    dsimp only at hI2 ⊢
    refine aj fun K12 hK12 => ?_
    refine aq ?_
    refine ae rfl (cj rfl rfl rfl) ?_
    refine am ?_
    dsimp only [St.put]
    refine hK12 _ ?_
    refine aj fun K13 hK13 => ?_
    refine bl rfl (fun hc => ?_) (fun hc => ?_)
    ·replace hc := of_decide_eq_true hc
     obtain ⟨ch, hch⟩ : ∃ x, t[k]? = some x := cm (by omega)
     have hcl := htx3 ch (dv hch)
     have hrl := pi c.rs k ch
     refine bn ?_
     refine hK13 _ ?_
     refine aj fun K14 hK14 => ?_
     refine bq ?_
     refine aj fun K15 hK15 => ?_
     refine aq ?_
     refine ae rfl (ar rfl (by constructor)) ?_
     try dsimp only [St.put]
     first | refine ae rfl (bf rfl rfl rfl rfl (bm (by assumption)) (Enc.len _)) ?_ | refine ae rfl (bf rfl rfl rfl rfl (by assumption) rfl) ?_ | refine ae rfl (cr rfl rfl rfl (by first | exact ct _ | exact rfl) (by omega)) ?_ | refine ae rfl (bf rfl rfl rfl (by omega) (bm (by assumption)) (Enc.len _)) ?_
     try dsimp only [St.put]
     first | refine aa rfl (aw rfl rfl) ?_ | refine aa rfl (ah rfl rfl (Enc.len _)) ?_ | refine aa rfl (ah rfl rfl rfl) ?_ | refine aa rfl (a7 rfl rfl zG trivial (by first | rfl | assumption)) ?_ | refine aa rfl (az rfl rfl zG trivial (by rfl)) ?_ | refine aa rfl (a8 rfl rfl zG trivial (by simp)) ?_ | refine aa rfl (ai rfl rfl zG trivial (ay (by assumption) rfl)) ?_ | refine aa rfl (ai rfl rfl zG trivial (by assumption)) ?_ | refine aa rfl (a9 rfl rfl zG trivial rfl (by assumption) rfl (by decide)) ?_ | refine aa rfl (ba rfl rfl zG (by rfl)) ?_
     try dsimp only [St.put]
     refine av rfl (di rfl ?_)
     refine ae rfl (ax rfl (by constructor)) ?_
     try dsimp only [St.put]
     first | refine av rfl (c8 rfl rfl rfl zG rfl rfl (by rfl) ?_) | refine av rfl (dh rfl rfl rfl zG (by constructor) rfl zO ?_)
     refine am ?_
     dsimp only [St.put]
     refine hK15 _ ?_
     refine ep (i := 10) rfl zG zC ?_
     dsimp only
     refine aj fun K16 hK16 => ?_
     refine aq ?_
     first | refine ae rfl (bg rfl rfl rfl) ?_ | refine ae rfl (bi rfl rfl) ?_
     try dsimp only [St.put]
     first | refine aa rfl (aw rfl rfl) ?_ | refine aa rfl (ah rfl rfl (Enc.len _)) ?_ | refine aa rfl (ah rfl rfl rfl) ?_ | refine aa rfl (a7 rfl rfl zG trivial (by first | rfl | assumption)) ?_ | refine aa rfl (az rfl rfl zG trivial (by rfl)) ?_ | refine aa rfl (a8 rfl rfl zG trivial (by simp)) ?_ | refine aa rfl (ai rfl rfl zG trivial (ay (by assumption) rfl)) ?_ | refine aa rfl (ai rfl rfl zG trivial (by assumption)) ?_ | refine aa rfl (a9 rfl rfl zG trivial rfl (by assumption) rfl (by decide)) ?_ | refine aa rfl (ba rfl rfl zG (by rfl)) ?_
     refine ae rfl (jo rfl rfl) ?_
     try dsimp only [St.put]
     refine av rfl (di rfl ?_)
     try dsimp only [St.put]
     first | refine av rfl (c8 rfl rfl rfl zG rfl rfl (by rfl) ?_) | refine av rfl (dh rfl rfl rfl zG (by constructor) rfl zO ?_)
     refine am ?_
     dsimp only [St.put]
     refine hK16 _ ?_
     refine kz (NN + 1 + 1 + 1) 1 _ _ 56 1 zG rfl (by decide) ?_
     dsimp only [List.set_cons_zero, List.set_cons_succ]
     refine aj fun K17 hK17 => ?_
     refine aj fun K18 hK18 => ?_
     refine aq ?_
     first | refine ae rfl (bg rfl rfl rfl) ?_ | refine ae rfl (bi rfl rfl) ?_
     try dsimp only [St.put]
     first | refine aa rfl (aw rfl rfl) ?_ | refine aa rfl (ah rfl rfl (Enc.len _)) ?_ | refine aa rfl (ah rfl rfl rfl) ?_ | refine aa rfl (a7 rfl rfl zG trivial (by first | rfl | assumption)) ?_ | refine aa rfl (az rfl rfl zG trivial (by rfl)) ?_ | refine aa rfl (a8 rfl rfl zG trivial (by simp)) ?_ | refine aa rfl (ai rfl rfl zG trivial (ay (by assumption) rfl)) ?_ | refine aa rfl (ai rfl rfl zG trivial (by assumption)) ?_ | refine aa rfl (a9 rfl rfl zG trivial rfl (by assumption) rfl (by decide)) ?_ | refine aa rfl (ba rfl rfl zG (by rfl)) ?_
     first | refine ae rfl (bj rfl rfl (List.length_map _)) ?_ | refine ae rfl (bj rfl rfl rfl) ?_ | refine ae rfl (b8 rfl rfl) ?_ | refine ae rfl (cd rfl rfl) ?_ | refine ae rfl (cb rfl rfl) ?_ | refine ae rfl (ca rfl rfl (by omega)) ?_
     refine ae rfl (ar rfl (by constructor)) ?_
     refine am ?_
     dsimp only [St.put]
     refine hK18 _ ?_
     refine bq ?_
     refine cg 56 ?_
     refine zQ ?_
     refine cn ((bc (bc (bc (bc (bc (bc G nx (.box 0 [.list [] .nil])) (nx + 1) (ei Tryd.prog 29 (2 * c.rs.length) (atF c.rs))) NN (.box k [.list (((c9 t c.rs).take k).map cells) (.tip (NN + 1))])) (NN + 1) (.tip ((c9 t c.rs).take k).length 55 2)) (NN + 1 + 1 + 1) (.box (0 + 1) [.v (.int .i64 ch.id), .list (((ef c.rs k ch).lines.take 0).map cells) (.tip (NN + 1 + 1 + 1 + 1))])) (NN + 1 + 1 + 1 + 1) (.tip ((ef c.rs k ch).lines.take 0).length 56 1))) zX ?_
     dsimp only
     refine cz (X := Nat) (fun m => m ≤ ch.lines.length) (fun m => ch.lines.length - m) (fun m => [(12, .any), (13, .any), (14, .any), (15, .any), (16, .any), (18, .any), (19, .any), (55, .v (.int .i64 (m : Int)))]) (fun m G' => (bc (bc (bc (bc (bc (bc G nx (.box 0 [.list [] .nil])) (nx + 1) (ei Tryd.prog 29 (2 * c.rs.length) (atF c.rs))) NN (.box k [.list (((c9 t c.rs).take k).map cells) (.tip (NN + 1))])) (NN + 1) (.tip ((c9 t c.rs).take k).length 55 2)) (NN + 1 + 1 + 1) (.box (m + 1) [.v (.int .i64 ch.id), .list (((ef c.rs k ch).lines.take m).map cells) (.tip (NN + 1 + 1 + 1 + 1))])) (NN + 1 + 1 + 1 + 1) (.tip ((ef c.rs k ch).lines.take m).length 56 1))) 0 rfl ?_ ?_ ?_ ?_ ?_ ?_
     ·exact Nat.zero_le _
     ·exact zF
     ·exact zX
     ·rintro m hI
      exact (by (try dsimp only); repeat' (first | exact trivial | refine ⟨?_, ?_⟩ | exact .v | exact .any | refine .elem ?_ | exact ce _ _ | exact fh _ _ | exact e9 _ _ | exact fg _ (by (try dsimp only); omega) | exact .box (by (try dsimp only); omega) | exact fe | exact de | exact k6 | refine fb ?_ ?_ | exact .arr (by (try dsimp only); omega) | exact .own (by (try dsimp only); omega) | exact .map (by (try dsimp only); omega) | exact ey _ | refine cv ?_ ?_ | exact ce _ _))
     ·rintro m hI
      exact (by (repeat' (refine ji ?_ (by (try dsimp only); omega) ?_)); all_goals (first | exact jp zS | (repeat' (first | exact trivial | refine ⟨?_, ?_⟩ | exact .v | exact .any | refine .elem ?_ | exact ce _ _ | exact fh _ _ | exact e9 _ _ | exact fg _ (by (try dsimp only); omega) | exact .box (by (try dsimp only); omega) | exact fe | exact de | exact k6 | refine fb ?_ ?_ | exact .arr (by (try dsimp only); omega) | exact .own (by (try dsimp only); omega) | exact .map (by (try dsimp only); omega) | exact ey _ | refine cv ?_ ?_ | exact ce _ _))))
     ·rintro m hI3
      dsimp only at hI3 ⊢
      refine aj fun K19 hK19 => ?_
      refine aq ?_
      refine ae rfl (cj rfl rfl rfl) ?_
      refine am ?_
      dsimp only [St.put]
      refine hK19 _ ?_
      refine aj fun K20 hK20 => ?_
      refine bl rfl (fun hc => ?_) (fun hc => ?_)
      ·replace hc := of_decide_eq_true hc
       obtain ⟨l, hl⟩ : ∃ x, ch.lines[m]? = some x := cm (by omega)
       have hll := hcl.2.2 l (dv hl)
       refine bn ?_
       refine hK20 _ ?_
       refine aj fun K21 hK21 => ?_
       refine bq ?_
       refine aj fun K22 hK22 => ?_
       refine aq ?_
       refine ae rfl (ar rfl (by constructor)) ?_
       try dsimp only [St.put]
       first | refine ae rfl (bf rfl rfl rfl rfl (bm (by assumption)) (Enc.len _)) ?_ | refine ae rfl (bf rfl rfl rfl rfl (by assumption) rfl) ?_ | refine ae rfl (cr rfl rfl rfl (by first | exact ct _ | exact rfl) (by omega)) ?_ | refine ae rfl (bf rfl rfl rfl (by omega) (bm (by assumption)) (Enc.len _)) ?_
       try dsimp only [St.put]
       first | refine aa rfl (aw rfl rfl) ?_ | refine aa rfl (ah rfl rfl (Enc.len _)) ?_ | refine aa rfl (ah rfl rfl rfl) ?_ | refine aa rfl (a7 rfl rfl zG trivial (by first | rfl | assumption)) ?_ | refine aa rfl (az rfl rfl zG trivial (by rfl)) ?_ | refine aa rfl (a8 rfl rfl zG trivial (by simp)) ?_ | refine aa rfl (ai rfl rfl zG trivial (ay (by assumption) rfl)) ?_ | refine aa rfl (ai rfl rfl zG trivial (by assumption)) ?_ | refine aa rfl (a9 rfl rfl zG trivial rfl (by assumption) rfl (by decide)) ?_ | refine aa rfl (ba rfl rfl zG (by rfl)) ?_
       refine ae rfl (ax rfl (by constructor)) ?_
       refine ae rfl (ax rfl (by constructor)) ?_
       refine am ?_
       dsimp only [St.put]
       refine hK22 _ ?_
       refine aj fun K23 hK23 => ?_
       refine aq ?_
       refine ae rfl (ax rfl (by constructor)) ?_
       refine am ?_
       dsimp only [St.put]
       refine hK23 _ ?_
       refine yp 14 9 1 rfl (by decide) ?_
       refine aj fun K24 hK24 => ?_
       refine aj fun K25 hK25 => ?_
       refine aq ?_
       refine ae rfl (ar rfl (by constructor)) ?_
       first | refine ae rfl (bj rfl rfl (List.length_map _)) ?_ | refine ae rfl (bj rfl rfl rfl) ?_ | refine ae rfl (b8 rfl rfl) ?_ | refine ae rfl (cd rfl rfl) ?_ | refine ae rfl (cb rfl rfl) ?_ | refine ae rfl (ca rfl rfl (by omega)) ?_
       first | refine ae rfl (bx rfl rfl rfl (by omega)) ?_ | refine ae rfl (cp rfl rfl rfl) ?_
       refine ae rfl (ar rfl (by constructor)) ?_
       refine am ?_
       dsimp only [St.put]
       refine hK25 _ ?_
       refine bq ?_
       refine cg 64 ?_
       refine zQ ?_
       refine cn ((bc (bc (bc (bc (bc (bc (bc G nx (.box 0 [.list [] .nil])) (nx + 1) (ei Tryd.prog 29 (2 * c.rs.length) (atF c.rs))) NN (.box k [.list (((c9 t c.rs).take k).map cells) (.tip (NN + 1))])) (NN + 1) (.tip ((c9 t c.rs).take k).length 55 2)) (NN + 1 + 1 + 1) (.box (m + 1) [.v (.int .i64 ch.id), .list (((ef c.rs k ch).lines.take m).map cells) (.tip (NN + 1 + 1 + 1 + 1))])) (NN + 1 + 1 + 1 + 1) (.tip ((ef c.rs k ch).lines.take m).length 56 1)) (NN + 1 + 1 + 1 + 1 + 1) (.arr 0 0 9 1 ((eb c.rs (k : Int) (m : Int) l 0)).length (cy ((eb c.rs (k : Int) (m : Int) l 0)))))) zX ?_
       dsimp only
       refine cz (X := Nat × Nat) (fun x => x.1 ≤ l.length + 1) (fun x => l.length + 1 - x.1) (fun x => [(14, .own (NN + 1 + 1 + 1 + 1 + 1) x.2 (eb c.rs (k : Int) (m : Int) l x.1).length), (15, .any), (16, .any), (18, .any), (19, .any), (63, .v (.int .i64 (x.1 : Int)))]) (fun x G' => (bc (bc (bc (bc (bc (bc (bc G nx (.box 0 [.list [] .nil])) (nx + 1) (ei Tryd.prog 29 (2 * c.rs.length) (atF c.rs))) NN (.box k [.list (((c9 t c.rs).take k).map cells) (.tip (NN + 1))])) (NN + 1) (.tip ((c9 t c.rs).take k).length 55 2)) (NN + 1 + 1 + 1) (.box (m + 1) [.v (.int .i64 ch.id), .list (((ef c.rs k ch).lines.take m).map cells) (.tip (NN + 1 + 1 + 1 + 1))])) (NN + 1 + 1 + 1 + 1) (.tip ((ef c.rs k ch).lines.take m).length 56 1)) (NN + 1 + 1 + 1 + 1 + 1) (.arr x.2 0 9 1 ((eb c.rs (k : Int) (m : Int) l x.1)).length (cy ((eb c.rs (k : Int) (m : Int) l x.1)))))) (0, 0) rfl ?_ ?_ ?_ ?_ ?_ ?_
       ·exact Nat.zero_le _
       ·exact zF
       ·exact zX
       ·rintro ⟨w, v⟩ hI
        exact (by (try dsimp only); repeat' (first | exact trivial | refine ⟨?_, ?_⟩ | exact .v | exact .any | refine .elem ?_ | exact ce _ _ | exact fh _ _ | exact e9 _ _ | exact fg _ (by (try dsimp only); omega) | exact .box (by (try dsimp only); omega) | exact fe | exact de | exact k6 | refine fb ?_ ?_ | exact .arr (by (try dsimp only); omega) | exact .own (by (try dsimp only); omega) | exact .map (by (try dsimp only); omega) | exact ey _ | refine cv ?_ ?_ | exact ce _ _))
       ·rintro ⟨w, v⟩ hI
        exact (by (repeat' (refine ji ?_ (by (try dsimp only); omega) ?_)); all_goals (first | exact jp zS | (repeat' (first | exact trivial | refine ⟨?_, ?_⟩ | exact .v | exact .any | refine .elem ?_ | exact ce _ _ | exact fh _ _ | exact e9 _ _ | exact fg _ (by (try dsimp only); omega) | exact .box (by (try dsimp only); omega) | exact fe | exact de | exact k6 | refine fb ?_ ?_ | exact .arr (by (try dsimp only); omega) | exact .own (by (try dsimp only); omega) | exact .map (by (try dsimp only); omega) | exact ey _ | refine cv ?_ ?_ | exact ce _ _))))
       ·rintro ⟨w, v⟩ hI4
        dsimp only at hI4 ⊢
        refine aj fun K26 hK26 => ?_
        refine aq ?_
        refine ae rfl (cj rfl rfl rfl) ?_
        refine am ?_
        dsimp only [St.put]
        refine hK26 _ ?_
        refine aj fun K27 hK27 => ?_
        refine bl rfl (fun hc => ?_) (fun hc => ?_)
        ·replace hc := of_decide_eq_true hc
         obtain ⟨tok, hat⟩ := yz c.rs ⟨(k : Int), (m : Int), (w : Int)⟩
         obtain ⟨RA, hRA⟩ : ∃ RA, dl c.rs ⟨(k : Int), (m : Int), (w : Int)⟩ = RA := ⟨_, rfl⟩
         rw [hRA] at hat
         have hRAl : RA.length ≤ 20 := by rw [← hRA]; exact Nat.le_trans (k9 _ _) hl20
         have hrawl : (eb c.rs (k : Int) (m : Int) l w).length ≤ 11 * 21 := Nat.le_trans (my _ _ _ _ _) (Nat.mul_le_mul (by omega) (by omega))
         refine bn ?_
         refine hK27 _ ?_
         refine aj fun K28 hK28 => ?_
         refine bq ?_
         refine aj fun K29 hK29 => ?_
         refine aq ?_
         refine ae rfl (ar rfl (by constructor)) ?_
         refine ae rfl (ax rfl (by constructor)) ?_
         refine am ?_
         dsimp only [St.put]
         refine hK29 _ ?_
         refine aj fun K30 hK30 => ?_
         refine aq ?_
         refine ae rfl (ar rfl (by constructor)) ?_
         refine ae rfl (ar rfl (by constructor)) ?_
         try dsimp only [St.put]
         refine av rfl (br rfl rfl rfl (si l w (by omega)) ?_)
         try dsimp only [St.put]
         refine av rfl (xz [ci l w] rfl rfl rfl rfl (by decide) (by decide) (by decide) ?_)
         refine ae rfl (ax rfl (by constructor)) ?_
         refine am ?_
         dsimp only [St.put]
         refine hK30 _ ?_
         refine aj fun K31 hK31 => ?_
         refine aj fun K32 hK32 => ?_
         refine aq ?_
         refine ae rfl (ar rfl (by constructor)) ?_
         refine ae rfl (ar rfl (by constructor)) ?_
         refine ae rfl (ar rfl (by constructor)) ?_
         refine ae rfl (ar rfl (by constructor)) ?_
         refine ae rfl (jo rfl rfl) ?_
         try dsimp only [St.put]
         refine aa rfl (ue (α := PlaceD) ⟨(k : Int), (m : Int), (w : Int)⟩ rfl rfl zG trivial rfl hat) ?_
         first | refine ae rfl (bj rfl rfl (List.length_map _)) ?_ | refine ae rfl (bj rfl rfl rfl) ?_ | refine ae rfl (b8 rfl rfl) ?_ | refine ae rfl (cd rfl rfl) ?_ | refine ae rfl (cb rfl rfl) ?_ | refine ae rfl (ca rfl rfl (by omega)) ?_
         refine ae rfl (ar rfl (by constructor)) ?_
         refine am ?_
         dsimp only [St.put]
         refine hK32 _ ?_
         refine bq ?_
         refine cg 78 ?_
         refine zQ ?_
         refine cn (bc (bc (bc (bc (bc (bc (bc (bc G nx (.box 0 [.list [] .nil])) (nx + 1) (ei Tryd.prog 29 (2 * c.rs.length) (atF c.rs))) NN (.box k [.list (((c9 t c.rs).take k).map cells) (.tip (NN + 1))])) (NN + 1) (.tip ((c9 t c.rs).take k).length 55 2)) (NN + 1 + 1 + 1) (.box (m + 1) [.v (.int .i64 ch.id), .list (((ef c.rs k ch).lines.take m).map cells) (.tip (NN + 1 + 1 + 1 + 1))])) (NN + 1 + 1 + 1 + 1) (.tip ((ef c.rs k ch).lines.take m).length 56 1)) (NN + 1 + 1 + 1 + 1 + 1) (.arr v 0 9 1 ((eb c.rs (k : Int) (m : Int) l w)).length (cy ((eb c.rs (k : Int) (m : Int) l w))))) (NN + 1 + 1 + 1 + 1 + 1 + 1) (.arr 0 0 9 1 (dw (ci l w) (RA.take 0)).length (cy (dw (ci l w) (RA.take 0))))) zX ?_
         dsimp only
         refine cz (X := Nat × Nat) (fun y => y.1 ≤ RA.length) (fun y => RA.length - y.1) (fun y => [(16, .own (NN + 1 + 1 + 1 + 1 + 1 + 1) y.2 (dw (ci l w) (RA.take y.1)).length), (18, .any), (19, .any), (77, .v (.int .i64 (y.1 : Int)))]) (fun y G' => bc (bc (bc (bc (bc (bc (bc (bc G nx (.box 0 [.list [] .nil])) (nx + 1) (ei Tryd.prog 29 (2 * c.rs.length) (atF c.rs))) NN (.box k [.list (((c9 t c.rs).take k).map cells) (.tip (NN + 1))])) (NN + 1) (.tip ((c9 t c.rs).take k).length 55 2)) (NN + 1 + 1 + 1) (.box (m + 1) [.v (.int .i64 ch.id), .list (((ef c.rs k ch).lines.take m).map cells) (.tip (NN + 1 + 1 + 1 + 1))])) (NN + 1 + 1 + 1 + 1) (.tip ((ef c.rs k ch).lines.take m).length 56 1)) (NN + 1 + 1 + 1 + 1 + 1) (.arr v 0 9 1 ((eb c.rs (k : Int) (m : Int) l w)).length (cy ((eb c.rs (k : Int) (m : Int) l w))))) (NN + 1 + 1 + 1 + 1 + 1 + 1) (.arr y.2 0 9 1 (dw (ci l w) (RA.take y.1)).length (cy (dw (ci l w) (RA.take y.1))))) (0, 0) rfl ?_ ?_ ?_ ?_ ?_ ?_
         ·exact Nat.zero_le _
         ·exact zF
         ·exact zX
         ·rintro ⟨j, v2⟩ hI
          exact (by (try dsimp only); repeat' (first | exact trivial | refine ⟨?_, ?_⟩ | exact .v | exact .any | refine .elem ?_ | exact ce _ _ | exact fh _ _ | exact e9 _ _ | exact fg _ (by (try dsimp only); omega) | exact .box (by (try dsimp only); omega) | exact fe | exact de | exact k6 | refine fb ?_ ?_ | exact .arr (by (try dsimp only); omega) | exact .own (by (try dsimp only); omega) | exact .map (by (try dsimp only); omega) | exact ey _ | refine cv ?_ ?_ | exact ce _ _))
         ·rintro ⟨j, v2⟩ hI
          exact (by (repeat' (refine ji ?_ (by (try dsimp only); omega) ?_)); all_goals (first | exact jp zS | (repeat' (first | exact trivial | refine ⟨?_, ?_⟩ | exact .v | exact .any | refine .elem ?_ | exact ce _ _ | exact fh _ _ | exact e9 _ _ | exact fg _ (by (try dsimp only); omega) | exact .box (by (try dsimp only); omega) | exact fe | exact de | exact k6 | refine fb ?_ ?_ | exact .arr (by (try dsimp only); omega) | exact .own (by (try dsimp only); omega) | exact .map (by (try dsimp only); omega) | exact ey _ | refine cv ?_ ?_ | exact ce _ _))))
         ·rintro ⟨j, v2⟩ hI5
          dsimp only at hI5 ⊢
          refine aj fun K33 hK33 => ?_
          refine aq ?_
          refine ae rfl (cj rfl rfl rfl) ?_
          refine am ?_
          dsimp only [St.put]
          refine hK33 _ ?_
          refine aj fun K34 hK34 => ?_
          refine bl rfl (fun hc => ?_) (fun hc => ?_)
          ·replace hc := of_decide_eq_true hc
           obtain ⟨r, hr⟩ : ∃ x, RA[j]? = some x := cm (by omega)
           have hputs : ∀ x ∈ RA.take j, x.kind = 2 := by rw [← hRA]; exact ru hv2 _ (by rw [hRA]; exact hr)
           have hrc : r ∈ c.rs := by have := dv hr; rw [← hRA] at this; exact (List.mem_filter.1 this).1
           obtain ⟨kk, hkk, hkk1, hkk3⟩ : ∃ kk : Nat, r.kind = (kk : Int) ∧ 1 ≤ kk ∧ kk ≤ 3 := by
            obtain ⟨_, _, hk⟩ := pg (hv1 r hrc)
            rcases hk with h | h | h
            ·exact ⟨1, h.1, by decide, by decide⟩
            ·exact ⟨2, h.1, by decide, by decide⟩
            ·exact ⟨3, h.1, by decide, by decide⟩
           obtain ⟨_, gm, rest, hknd, _, hFun, _, hpm⟩ := sk hkk1 hkk3
           have hstep : (RA.take j).map (·.word) ++ g8 kk (ci l w) r.word = dw (ci l w) (RA.take (j + 1)) := by rw [← jn hr, vm hputs, wi hkk]
           rw [pn hputs]
           obtain ⟨PW, hPW⟩ : ∃ PW, (RA.take j).map (·.word) = PW := ⟨_, rfl⟩
           rw [hPW] at hstep ⊢
           have hPl : PW.length ≤ 20 := by rw [← hPW, List.length_map]; have := List.length_take_le j RA; omega
           have hPl2 : (PW ++ [ci l w]).length = PW.length + 1 := by simp
           have hlast : (PW ++ [ci l w])[PW.length]? = some (ci l w) := by simp
           have hfl : (cy (PW ++ [ci l w]))[PW.length * 1]? = some (.v (.string (ci l w))) := ay (j := 0) hlast rfl
           have hml : (g8 kk (ci l w) r.word).length ≤ 2 := by
            unfold g8
            repeat' (first | (rw [Bool.cond_decide]; split))
            all_goals simp
           have hsub : (((PW ++ [ci l w]).length : Nat) : Int) - 1 = (PW.length : Int) := by rw [hPl2]; omega
           refine bn ?_
           refine hK34 _ ?_
           refine aj fun K35 hK35 => ?_
           refine bq ?_
           refine aj fun K36 hK36 => ?_
           refine aq ?_
           try dsimp only [St.put]
           first | refine ae rfl (bf rfl rfl rfl rfl (bm (by assumption)) (Enc.len _)) ?_ | refine ae rfl (bf rfl rfl rfl rfl (by assumption) rfl) ?_ | refine ae rfl (cr rfl rfl rfl (by first | exact ct _ | exact rfl) (by omega)) ?_ | refine ae rfl (bf rfl rfl rfl (by omega) (bm (by assumption)) (Enc.len _)) ?_
           try dsimp only [St.put]
           first | refine aa rfl (aw rfl rfl) ?_ | refine aa rfl (ah rfl rfl (Enc.len _)) ?_ | refine aa rfl (ah rfl rfl rfl) ?_ | refine aa rfl (a7 rfl rfl zG trivial (by first | rfl | assumption)) ?_ | refine aa rfl (az rfl rfl zG trivial (by rfl)) ?_ | refine aa rfl (a8 rfl rfl zG trivial (by simp)) ?_ | refine aa rfl (ai rfl rfl zG trivial (ay (by assumption) rfl)) ?_ | refine aa rfl (ai rfl rfl zG trivial (by assumption)) ?_ | refine aa rfl (a9 rfl rfl zG trivial rfl (by assumption) rfl (by decide)) ?_ | refine aa rfl (ba rfl rfl zG (by rfl)) ?_
           try dsimp only [St.put]
           refine av rfl (di rfl ?_)
           try dsimp only [St.put]
           first | refine av rfl (c8 rfl rfl rfl zG rfl rfl (by rfl) ?_) | refine av rfl (dh rfl rfl rfl zG (by constructor) rfl zO ?_)
           refine am ?_
           dsimp only [St.put]
           refine hK36 _ ?_
           refine ep (i := 18) rfl zG zC ?_
           dsimp only
           refine aj fun K37 hK37 => ?_
           refine aq ?_
           refine ae rfl (ar rfl (by constructor)) ?_
           first | refine ae rfl (bj rfl rfl (List.length_map _)) ?_ | refine ae rfl (bj rfl rfl rfl) ?_ | refine ae rfl (b8 rfl rfl) ?_ | refine ae rfl (cd rfl rfl) ?_ | refine ae rfl (cb rfl rfl) ?_ | refine ae rfl (ca rfl rfl (by omega)) ?_
           first | refine ae rfl (ip rfl rfl rfl (by omega)) ?_ | refine ae rfl (jh rfl rfl rfl) ?_
           refine ae rfl (ax rfl (by constructor)) ?_
           refine am ?_
           dsimp only [St.put]
           refine hK37 _ ?_
           refine fw [(0, none), (1, none), (2, none), (3, none), (4, none), (5, none), (6, none), (7, none), (8, none), (9, none), (10, none), (11, none), (12, none), (13, none), (14, none), (15, none), (16, none)] (fun i => [14, 15].contains i) (fun i => [14, 15].contains i) (fun i => [0, 1, 2, 3, 5, 6, 8, 9, 10, 12, 16].contains i) [NN + 1 + 1 + 1 + 1 + 1 + 1] (by kernel_rfl) (by kernel_rfl) ?_
           refine ak rfl rfl rfl rfl (ar rfl (by constructor)) ?_
           refine ak rfl rfl rfl rfl (ar rfl (by constructor)) ?_
           (first | refine ae rfl ((lh (k := PW.length) rfl rfl rfl hsub (by omega))) ?_ | refine ak rfl rfl rfl rfl ((lh (k := PW.length) rfl rfl rfl hsub (by omega))) ?_ | refine c0 rfl rfl rfl rfl ((lh (k := PW.length) rfl rfl rfl hsub (by omega))) ?_ | refine nf rfl rfl rfl ((lh (k := PW.length) rfl rfl rfl hsub (by omega))) ?_)
           first | refine ak rfl rfl rfl rfl (bg rfl rfl rfl) ?_ | refine ak rfl rfl rfl rfl (bi rfl rfl) ?_
           try dsimp only [St.put]
           first | refine af rfl rfl rfl rfl (aw rfl rfl) ?_ | refine af rfl rfl rfl rfl (ah rfl rfl (Enc.len _)) ?_ | refine af rfl rfl rfl rfl (ah rfl rfl rfl) ?_ | refine af rfl rfl rfl rfl (a7 rfl rfl zG (by simp) (by first | rfl | assumption)) ?_ | refine af rfl rfl rfl rfl (az rfl rfl zG (by simp) (by rfl)) ?_ | refine af rfl rfl rfl rfl (a8 rfl rfl zG (by simp) (by simp)) ?_ | refine af rfl rfl rfl rfl (ai rfl rfl zG (by simp) (ay (by assumption) rfl)) ?_ | refine af rfl rfl rfl rfl (ai rfl rfl zG (by simp) (by assumption)) ?_ | refine af rfl rfl rfl rfl (a9 rfl rfl zG (by simp) rfl (by assumption) rfl (by decide)) ?_ | refine af rfl rfl rfl rfl (ba rfl rfl zG (by rfl)) ?_
           try dsimp only [St.put]
           (first | refine ae rfl ((ko (j := n) (k := kk) rfl rfl zG rfl hkk (by omega) hknd)) ?_ | refine ak rfl rfl rfl rfl ((ko (j := n) (k := kk) rfl rfl zG rfl hkk (by omega) hknd)) ?_ | refine c0 rfl rfl rfl rfl ((ko (j := n) (k := kk) rfl rfl zG rfl hkk (by omega) hknd)) ?_ | refine nf rfl rfl rfl ((ko (j := n) (k := kk) rfl rfl zG rfl hkk (by omega) hknd)) ?_)
           first | refine ak rfl rfl rfl rfl (bg rfl rfl rfl) ?_ | refine ak rfl rfl rfl rfl (bi rfl rfl) ?_
           try dsimp only [St.put]
           first | refine af rfl rfl rfl rfl (aw rfl rfl) ?_ | refine af rfl rfl rfl rfl (ah rfl rfl (Enc.len _)) ?_ | refine af rfl rfl rfl rfl (ah rfl rfl rfl) ?_ | refine af rfl rfl rfl rfl (a7 rfl rfl zG (by simp) (by first | rfl | assumption)) ?_ | refine af rfl rfl rfl rfl (az rfl rfl zG (by simp) (by rfl)) ?_ | refine af rfl rfl rfl rfl (a8 rfl rfl zG (by simp) (by simp)) ?_ | refine af rfl rfl rfl rfl (ai rfl rfl zG (by simp) (ay (by assumption) rfl)) ?_ | refine af rfl rfl rfl rfl (ai rfl rfl zG (by simp) (by assumption)) ?_ | refine af rfl rfl rfl rfl (a9 rfl rfl zG (by simp) rfl (by assumption) rfl (by decide)) ?_ | refine af rfl rfl rfl rfl (ba rfl rfl zG (by rfl)) ?_
           refine ak rfl rfl rfl rfl (ar rfl (by constructor)) ?_
           refine ak rfl rfl rfl rfl (ar rfl (by constructor)) ?_
           try dsimp only [St.put]
           (first | refine ae rfl ((kn (k := PW.length) rfl rfl zG rfl hsub (by omega))) ?_ | refine ak rfl rfl rfl rfl ((kn (k := PW.length) rfl rfl zG rfl hsub (by omega))) ?_ | refine c0 rfl rfl rfl rfl ((kn (k := PW.length) rfl rfl zG rfl hsub (by omega))) ?_ | refine nf rfl rfl rfl ((kn (k := PW.length) rfl rfl zG rfl hsub (by omega))) ?_)
           try dsimp only [St.put]
           refine af rfl rfl rfl rfl (ai rfl rfl zG (by simp) hfl) ?_
           first | refine ak rfl rfl rfl rfl (bg rfl rfl rfl) ?_ | refine ak rfl rfl rfl rfl (bi rfl rfl) ?_
           try dsimp only [St.put]
           first | refine af rfl rfl rfl rfl (aw rfl rfl) ?_ | refine af rfl rfl rfl rfl (ah rfl rfl (Enc.len _)) ?_ | refine af rfl rfl rfl rfl (ah rfl rfl rfl) ?_ | refine af rfl rfl rfl rfl (a7 rfl rfl zG (by simp) (by first | rfl | assumption)) ?_ | refine af rfl rfl rfl rfl (az rfl rfl zG (by simp) (by rfl)) ?_ | refine af rfl rfl rfl rfl (a8 rfl rfl zG (by simp) (by simp)) ?_ | refine af rfl rfl rfl rfl (ai rfl rfl zG (by simp) (ay (by assumption) rfl)) ?_ | refine af rfl rfl rfl rfl (ai rfl rfl zG (by simp) (by assumption)) ?_ | refine af rfl rfl rfl rfl (a9 rfl rfl zG (by simp) rfl (by assumption) rfl (by decide)) ?_ | refine af rfl rfl rfl rfl (ba rfl rfl zG (by rfl)) ?_
           refine ie ?_
           try dsimp only [St.put]
           refine ez rfl rfl rfl rfl (br rfl rfl rfl (hpm (ci l w) r.word) ?_)
           try dsimp only [St.put]
           (first | refine av rfl ((lp 86 PW (g8 kk (ci l w) r.word) rfl rfl rfl zG (by rw [kg]; exact List.take_left' (by rw [j2])) rfl rfl rfl (by omega) (by omega) (fun v4 => ?_))) | refine ez rfl rfl rfl rfl ((lp 86 PW (g8 kk (ci l w) r.word) rfl rfl rfl zG (by rw [kg]; exact List.take_left' (by rw [j2])) rfl rfl rfl (by omega) (by omega) (fun v4 => ?_))) | refine ge rfl rfl rfl ((lp 86 PW (g8 kk (ci l w) r.word) rfl rfl rfl zG (by rw [kg]; exact List.take_left' (by rw [j2])) rfl rfl rfl (by omega) (by omega) (fun v4 => ?_))) | refine dr rfl rfl rfl ((lp 86 PW (g8 kk (ci l w) r.word) rfl rfl rfl zG (by rw [kg]; exact List.take_left' (by rw [j2])) rfl rfl rfl (by omega) (by omega) (fun v4 => ?_))))
           refine c0 rfl rfl rfl rfl (ax rfl (by constructor)) ?_
           refine ib ?_
           dsimp only [St.put]
           refine hK35 _ ?_
           refine aq ?_
           first | refine ae rfl (bx rfl rfl rfl (by omega)) ?_ | refine ae rfl (cp rfl rfl rfl) ?_
           refine ae rfl (ar rfl (by constructor)) ?_
           refine am ?_
           dsimp only [St.put]
           rw [hstep]
           exact ⟨(j + 1, v4), by (dsimp only; omega), by (dsimp only; omega), ⟨⟨rfl, rfl⟩, zF, zB, zN, zX⟩⟩
          ·replace hc := of_decide_eq_false hc
           rw [dd (show RA.length ≤ j by omega), ← hRA]
           have hpl := po (ci l w) (dl c.rs ⟨(k : Int), (m : Int), (w : Int)⟩)
           have hRAl2 : (dl c.rs ⟨(k : Int), (m : Int), (w : Int)⟩).length ≤ 20 := by rw [hRA]; exact hRAl
           refine co ?_
           refine hK31 _ ?_
           refine aq ?_
           refine ae rfl (ar rfl (by constructor)) ?_
           refine ae rfl (ar rfl (by constructor)) ?_
           try dsimp only [St.put]
           refine av rfl (su 102 (dw (ci l w) (dl c.rs ⟨(k : Int), (m : Int), (w : Int)⟩)) rfl zG rfl rfl rfl (sx (xs := eb c.rs (k : Int) (m : Int) l w) (dw (ci l w) (dl c.rs ⟨(k : Int), (m : Int), (w : Int)⟩)) rfl rfl ((jt (by omega)).trans zG) rfl rfl rfl rfl (by omega) (by omega) (fun v3 => ?_)))
           refine ae rfl (ax rfl (by constructor)) ?_
           refine am ?_
           dsimp only [St.put]
           refine hK28 _ ?_
           refine aq ?_
           first | refine ae rfl (bx rfl rfl rfl (by omega)) ?_ | refine ae rfl (cp rfl rfl rfl) ?_
           refine ae rfl (ar rfl (by constructor)) ?_
           refine am ?_
           dsimp only [St.put]
           rw [← n1]
           exact ⟨(w + 1, v3), by (dsimp only; omega), by (dsimp only; omega), ⟨⟨rfl, rfl⟩, zF, zB, zN, zX⟩⟩
        ·replace hc := of_decide_eq_false hc
         obtain rfl : w = l.length + 1 := by omega
         have hrawl : (eb c.rs (k : Int) (m : Int) l (l.length + 1)).length ≤ 11 * 21 := Nat.le_trans (my _ _ _ _ _) (Nat.mul_le_mul (by omega) (by omega))
         have hrne := vj hv hch hl
         have hrf := pm hv (k : Int) (m : Int) l (l.length + 1)
         refine co ?_
         refine hK24 _ ?_
         refine fw [(0, none), (1, none), (2, none), (3, none), (4, none), (5, none), (6, none), (7, none)] (fun i => [5, 7].contains i) (fun i => [3, 4, 5, 7].contains i) (fun i => [0, 2, 6].contains i) [NN + 1 + 1 + 1] (by kernel_rfl) (by kernel_rfl) ?_
         first | refine ak rfl rfl rfl rfl (bg rfl rfl rfl) ?_ | refine ak rfl rfl rfl rfl (bi rfl rfl) ?_
         try dsimp only [St.put]
         first | refine af rfl rfl rfl rfl (aw rfl rfl) ?_ | refine af rfl rfl rfl rfl (ah rfl rfl (Enc.len _)) ?_ | refine af rfl rfl rfl rfl (ah rfl rfl rfl) ?_ | refine af rfl rfl rfl rfl (a7 rfl rfl zG (by simp) (by first | rfl | assumption)) ?_ | refine af rfl rfl rfl rfl (az rfl rfl zG (by simp) (by rfl)) ?_ | refine af rfl rfl rfl rfl (a8 rfl rfl zG (by simp) (by simp)) ?_ | refine af rfl rfl rfl rfl (ai rfl rfl zG (by simp) (ay (by assumption) rfl)) ?_ | refine af rfl rfl rfl rfl (ai rfl rfl zG (by simp) (by assumption)) ?_ | refine af rfl rfl rfl rfl (a9 rfl rfl zG (by simp) rfl (by assumption) rfl (by decide)) ?_ | refine af rfl rfl rfl rfl (ba rfl rfl zG (by rfl)) ?_
         refine ak rfl rfl rfl rfl (ar rfl (by constructor)) ?_
         refine ie ?_
         try dsimp only [St.put]
         refine ge rfl rfl rfl (xx x9 (xs := eb c.rs (k : Int) (m : Int) l (l.length + 1)) Value.string (fun _ => rfl) (fun _ => rfl) (fun s => decide (s = ByteArray.empty)) ByteArray.empty (fun w => Zero.run (P := Tryd.prog) (t := 9) (w := w)) rfl rfl rfl rfl zG rfl rfl hrne (by omega) rfl vc hrf ⟨zD, ?_⟩)
         try dsimp only [St.put]
         refine ge rfl rfl rfl (su 108 (gz c.rs (k : Int) (m : Int) l) rfl zG rfl rfl rfl (dx rfl rfl rfl (by decide) (by decide) zR (by decide) ⟨zD, ?_⟩))
         try dsimp only [St.put]
         refine ez rfl rfl rfl rfl (gr ([gz c.rs (k : Int) (m : Int) l]) rfl rfl zG zE rfl rfl zA ?_ zA)
         first | refine c0 rfl rfl rfl rfl (bg rfl rfl rfl) ?_ | refine c0 rfl rfl rfl rfl (bi rfl rfl) ?_
         try dsimp only [St.put]
         first | refine ez rfl rfl rfl rfl (c8 rfl rfl rfl zG rfl rfl (by rfl) ?_) | refine ez rfl rfl rfl rfl (dh rfl rfl rfl zG (by constructor) rfl zO ?_)
         refine ib ?_
         dsimp only [St.put]
         refine hK21 _ ?_
         refine aq ?_
         first | refine ae rfl (bx rfl rfl rfl (by omega)) ?_ | refine ae rfl (cp rfl rfl rfl) ?_
         refine ae rfl (ar rfl (by constructor)) ?_
         refine am ?_
         dsimp only [St.put]
         simp only [jn (nz (rs := c.rs) (k := k) hl)]
         exact ⟨m + 1, by omega, by omega, ⟨⟨rfl, rfl⟩, zF, zB, zN, zX⟩⟩
      ·replace hc := of_decide_eq_false hc
       rw [dd (show (ef c.rs k ch).lines.length ≤ m by omega)]
       refine qv (NN + 1 + 1 + 1) _ [.v (.int .i64 ch.id), lst (ef c.rs k ch).lines] zG zW ?_
       refine co ?_
       refine hK17 _ ?_
       refine aq ?_
       first | refine ae rfl (bg rfl rfl rfl) ?_ | refine ae rfl (bi rfl rfl) ?_
       try dsimp only [St.put]
       first | refine aa rfl (aw rfl rfl) ?_ | refine aa rfl (ah rfl rfl (Enc.len _)) ?_ | refine aa rfl (ah rfl rfl rfl) ?_ | refine aa rfl (a7 rfl rfl zG trivial (by first | rfl | assumption)) ?_ | refine aa rfl (az rfl rfl zG trivial (by rfl)) ?_ | refine aa rfl (a8 rfl rfl zG trivial (by simp)) ?_ | refine aa rfl (ai rfl rfl zG trivial (ay (by assumption) rfl)) ?_ | refine aa rfl (ai rfl rfl zG trivial (by assumption)) ?_ | refine aa rfl (a9 rfl rfl zG trivial rfl (by assumption) rfl (by decide)) ?_ | refine aa rfl (ba rfl rfl zG (by rfl)) ?_
       try dsimp only [St.put]
       first | refine aa rfl (aw rfl rfl) ?_ | refine aa rfl (ah rfl rfl (Enc.len _)) ?_ | refine aa rfl (ah rfl rfl rfl) ?_ | refine aa rfl (a7 rfl rfl zG trivial (by first | rfl | assumption)) ?_ | refine aa rfl (az rfl rfl zG trivial (by rfl)) ?_ | refine aa rfl (a8 rfl rfl zG trivial (by simp)) ?_ | refine aa rfl (ai rfl rfl zG trivial (ay (by assumption) rfl)) ?_ | refine aa rfl (ai rfl rfl zG trivial (by assumption)) ?_ | refine aa rfl (a9 rfl rfl zG trivial rfl (by assumption) rfl (by decide)) ?_ | refine aa rfl (ba rfl rfl zG (by rfl)) ?_
       try dsimp only [St.put]
       refine av rfl (dx rfl rfl rfl (by decide) (by decide) zR (by decide) ?_)
       try dsimp only [St.put]
       refine av rfl (gr ([ef c.rs k ch]) rfl rfl zG zE rfl rfl zA ?_ zA)
       first | refine ae rfl (bg rfl rfl rfl) ?_ | refine ae rfl (bi rfl rfl) ?_
       try dsimp only [St.put]
       first | refine av rfl (c8 rfl rfl rfl zG rfl rfl (by rfl) ?_) | refine av rfl (dh rfl rfl rfl zG (by constructor) rfl zO ?_)
       refine am ?_
       dsimp only [St.put]
       refine hK14 _ ?_
       refine aq ?_
       first | refine ae rfl (bx rfl rfl rfl (by omega)) ?_ | refine ae rfl (cp rfl rfl rfl) ?_
       refine ae rfl (ar rfl (by constructor)) ?_
       refine am ?_
       dsimp only [St.put]
       simp only [jn (ph (rs := c.rs) hch)]
       exact ⟨k + 1, by omega, by omega, ⟨⟨rfl, rfl⟩, zF, zB, zN, zX⟩⟩
    ·replace hc := of_decide_eq_false hc
     refine co ?_
     refine hK10 _ ?_
     refine aj fun K38 hK38 => ?_
     refine aq ?_
     try dsimp only [St.put]
     first | refine aa rfl (aw rfl rfl) ?_ | refine aa rfl (ah rfl rfl (Enc.len _)) ?_ | refine aa rfl (ah rfl rfl rfl) ?_ | refine aa rfl (a7 rfl rfl zG trivial (by first | rfl | assumption)) ?_ | refine aa rfl (az rfl rfl zG trivial (by rfl)) ?_ | refine aa rfl (a8 rfl rfl zG trivial (by simp)) ?_ | refine aa rfl (ai rfl rfl zG trivial (ay (by assumption) rfl)) ?_ | refine aa rfl (ai rfl rfl zG trivial (by assumption)) ?_ | refine aa rfl (a9 rfl rfl zG trivial rfl (by assumption) rfl (by decide)) ?_ | refine aa rfl (ba rfl rfl zG (by rfl)) ?_
     try dsimp only [St.put]
     first | refine av rfl (c8 rfl rfl rfl zG rfl rfl (by rfl) ?_) | refine av rfl (dh rfl rfl rfl zG (by constructor) rfl zO ?_)
     refine am ?_
     dsimp only [St.put]
     refine hK38 _ ?_
     refine bk ?_
     refine j3 rfl (kj rfl zG (by rfl) zC rfl) zN zS ?_
     rw [dd (show (c9 t c.rs).length ≤ k by rw [ny]; omega)]
     exact zW
end Go.Proofs.YthboenlglkmnjaaDoor
namespace Go.AB
open Go Go.RowKit
open Go.AB.Enc (cells)
/-- an own slice's name, its version, its writes, and what it holds -/
abbrev Ent := Nat × Nat × Nat × List ByteArray
def i9 (s : TypeId) (e : Ent) : GObj := .arr e.2.1 e.2.2.1 s 1 e.2.2.2.length (cy e.2.2.2)
def entC (e : Ent) : C := .own e.1 e.2.1 e.2.2.2.length
def d9 (s : TypeId) (G : Nat → Option GObj) (Q : List Ent) : Nat → Option GObj := Q.foldl (fun H e => bc H e.1 (i9 s e)) G
/-- the names rise -/
def RiseE (Q : List Ent) : Prop := Q.Pairwise fun a b => a.1 < b.1
section
variable {s : TypeId} {G H : Nat → Option GObj} {Q : List Ent} {e : Ent} {m M N : Nat}
theorem ni : d9 s G (e :: Q) = d9 s (bc G e.1 (i9 s e)) Q := rfl
theorem ia : ∀ {Q : List Ent} {G : Nat → Option GObj}, (∀ e ∈ Q, e.1 ≠ m) → d9 s G Q m = G m
 | [], _, _ => rfl
 | a :: Q, G, h => by
  rw [ni, ia fun e he => h e (List.mem_cons_of_mem _ he), dg (Ne.symm (h a (List.mem_cons_self ..)))]
theorem mr : ∀ {Q : List Ent} {G : Nat → Option GObj}, RiseE Q → e ∈ Q → d9 s G Q e.1 = some (i9 s e)
 | [], _, _, h => by cases h
 | a :: Q, G, hr, h => by
  obtain ⟨h1, h2⟩ := List.pairwise_cons.1 hr
  rcases List.mem_cons.1 h with rfl | h
  ·rw [ni, ia fun b hb => Nat.ne_of_gt (h1 b hb), f5]
  ·rw [ni]
   exact mr h2 h
theorem mq : ∀ {Q : List Ent} {G : Nat → Option GObj}, (∀ e ∈ Q, H e.1 = some (i9 s e)) → (∀ m o, G m = some o → H m = some o) → ∀ m o, d9 s G Q m = some o → H m = some o
 | [], _, _, h => h
 | a :: Q, G, h, h0 => by
  rw [ni]
  exact mq (fun e he => h e (List.mem_cons_of_mem _ he)) (mw (h a (List.mem_cons_self ..)) h0)
theorem l3 : ∀ {Q : List Ent} {G : Nat → Option GObj}, (∀ e ∈ Q, e.1 < M) → (∀ m o, G m = some o → H m = some o ∨ (m < M ∧ o.low M)) → ∀ m o, d9 s G Q m = some o → H m = some o ∨ (m < M ∧ o.low M)
 | [], _, _, h => h
 | a :: Q, G, h, h0 => by
  rw [ni]
  exact l3 (fun e he => h e (List.mem_cons_of_mem _ he)) (ji h0 (h a (List.mem_cons_self ..)) (ey _))
theorem y8 : ∀ {Q : List Ent} {G : Nat → Option GObj}, (∀ e ∈ Q, e.1 < M) → (∀ m o, G m = some o → m < M) → ∀ {m : Nat} {o : GObj}, d9 s G Q m = some o → m < M
 | [], _, _, h, _, _, hm => h _ _ hm
 | a :: Q, G, h, h0, m, o, hm => by
  rw [ni] at hm
  refine y8 (fun e he => h e (List.mem_cons_of_mem _ he)) (fun j o' hj => ?_) hm
  by_cases q : j = a.1
  ·rw [q]; exact h a (List.mem_cons_self ..)
  ·rw [dg q] at hj
   exact h0 j o' hj
theorem RiseE.snoc (h : RiseE Q) (h1 : ∀ e ∈ Q, e.1 < m) (he : e.1 = m) : RiseE (Q ++ [e]) := by
 refine List.pairwise_append.2 ⟨h, List.pairwise_singleton _ _, fun a ha b hb => ?_⟩
 rw [List.mem_singleton] at hb
 subst hb
 rw [he]; exact h1 a ha
theorem RiseE.app {Q' : List Ent} (h : RiseE Q) (h' : RiseE Q') (h1 : ∀ e ∈ Q, e.1 < m) (h2 : ∀ e ∈ Q', m ≤ e.1) : RiseE (Q ++ Q') :=
 List.pairwise_append.2 ⟨h, h', fun a ha b hb => Nat.lt_of_lt_of_le (h1 a ha) (h2 b hb)⟩
end
/-- lines that are own slices; a chapter of such lines; chapters -/
def d7 (Q : List Ent) : List (List C) := Q.map fun e => [entC e]
def mn (id : Int) (Q : List Ent) : List C := [.v (.int .i64 id), .list (d7 Q) .none]
def dp (ids : List Int) (QQ : List (List Ent)) : List (List C) := List.zipWith mn ids QQ
section
variable {Q : List Ent} {QQ : List (List Ent)} {ids : List Int} {id : Int} {e : Ent} {k m : Nat}
theorem na (Q : List Ent) : (d7 Q).length = Q.length := List.length_map _
theorem sr (Q : List Ent) : ∀ r ∈ d7 Q, r.length = 1 := fun r hr => by
 obtain ⟨e, _, rfl⟩ := List.mem_map.1 hr; rfl
theorem udt : d7 Q ++ [[entC e]] = d7 (Q ++ [e]) := by unfold d7; rw [List.map_append]; rfl
theorem udu (h : Q[k]? = some e) : (d7 Q)[k]? = some [entC e] := by unfold d7; rw [List.getElem?_map, h]; rfl
theorem xq (h : ∀ e ∈ Q, e.1 < m) : ∀ r ∈ d7 Q, ∀ c ∈ r, C.low m c := fun r hr c hc => by
 obtain ⟨e, he, rfl⟩ := List.mem_map.1 hr
 rw [List.mem_singleton] at hc
 subst hc
 exact .own (h e he)
theorem ueu (ids : List Int) : dp ids [] = [] := List.zipWith_nil_right
theorem lw (h : QQ.length ≤ ids.length) : (dp ids QQ).length = QQ.length := by
 unfold dp
 rw [List.length_zipWith]; omega
theorem yj (ids : List Int) (QQ : List (List Ent)) : ∀ r ∈ dp ids QQ, r.length = 2 := fun r hr => by
 unfold dp at hr
 obtain ⟨i, hi, rfl⟩ := List.mem_iff_getElem.1 hr
 rw [List.getElem_zipWith]; rfl
theorem s9 (h1 : ids[k]? = some id) (h2 : QQ[k]? = some Q) : (dp ids QQ)[k]? = some (mn id Q) := by
 unfold dp
 rw [List.getElem?_zipWith, h1, h2]
theorem uet (h : ids[QQ.length]? = some id) : dp ids QQ ++ [mn id Q] = dp ids (QQ ++ [Q]) := by
 have hl := (List.getElem?_eq_some_iff.1 h).1
 apply List.ext_getElem?
 intro j
 by_cases hj : j < QQ.length
 ·rw [List.getElem?_append_left (by rw [lw (Nat.le_of_lt hl)]; exact hj)]
  unfold dp
  rw [List.getElem?_zipWith, List.getElem?_zipWith, List.getElem?_append_left hj]
 ·rw [List.getElem?_append_right (by rw [lw (Nat.le_of_lt hl)]; omega), lw (Nat.le_of_lt hl)]
  by_cases e : j = QQ.length
  ·subst e
   rw [Nat.sub_self, s9 (QQ := QQ ++ [Q]) (Q := Q) h (by rw [List.getElem?_append_right (Nat.le_refl _), Nat.sub_self]; rfl)]; rfl
  ·rw [List.getElem?_eq_none (by simp only [List.length_singleton]; omega), List.getElem?_eq_none (by
    unfold dp
    rw [List.length_zipWith, List.length_append, List.length_singleton]; omega)]
theorem ku (h : ∀ e ∈ QQ.flatten, e.1 < m) : ∀ r ∈ dp ids QQ, ∀ c ∈ r, C.low m c := fun r hr c hc => by
 unfold dp at hr
 obtain ⟨i, hi, rfl⟩ := List.mem_iff_getElem.1 hr
 rw [List.getElem_zipWith] at hc
 rw [List.length_zipWith] at hi
 simp only [mn, List.mem_cons, List.not_mem_nil, or_false] at hc
 rcases hc with rfl | rfl
 ·exact .v
 ·exact .list (xq fun e he => h e (List.mem_flatten.2 ⟨_, List.getElem_mem (by omega), he⟩)) (by simp)
end
theorem k8 {rows : List (List C)} {n m : Nat} (h : ∀ r ∈ rows, ∀ c ∈ r, C.low m c) (hn : n < m) : C.low m (.list rows (.tip n)) := .list h fun k hk => by simp only [Tok.tip.injEq] at hk; omega
theorem ul {rows : List (List C)} {m : Nat} (h : ∀ r ∈ rows, ∀ c ∈ r, C.low m c) : C.low m (.list rows .none) := .list h (by simp)
theorem rq {n : Nat} {c : List C} (h : c.length = n) : ∀ r ∈ [c], r.length = n := fun r hr => by rw [List.mem_singleton] at hr; subst hr; exact h
/-! ### Values that are read as if all that lies were laid -/
def RdS (G : Nat → Option GObj) (c d : C) : Prop := ∀ (E : Env) (w : World) (nx : Nat), SimG E w G nx → ∀ v, R E w c v → R (fk w) w d v
theorem Rdg.rd {G : Nat → Option GObj} {c d : C} (h : Rdg G c d) : RdS G c d := fun _ _ _ hg _ hr => h.to hg hr
theorem RdS.list {G : Nat → Option GObj} {rows rows' : List (List C)} {tok : Tok} {s : Nat} (hl : rows.length = rows'.length) (hs : 1 ≤ s) (h1 : ∀ r ∈ rows, r.length = s) (h2 : ∀ r ∈ rows', r.length = s) (ho : ∀ r ∈ rows', ∀ c ∈ r, c.one = true) (h : ∀ (j : Nat) (c d : C), rows.flatten[j]? = some c → rows'.flatten[j]? = some d → RdS G c d) : RdS G (.list rows tok) (.list rows' .none) := by
 intro E w nx hg v hr
 obtain ⟨a, cap, s', us, rfl, q1, q2, q3, q4, q5, q6, q7, _⟩ := hr.list_inv
 have hf : rows.flatten.length = rows'.flatten.length := by rw [i0 h1, i0 h2, hl]
 have := R.mk_list (E := fk w) (w := w) (rows := rows') (a := a) (cap := cap) (sz := s) (us := us) (tok := .none) (by omega) q2 hs h2 ho ⟨by rw [q6.1, hf], fun j d u hd hu => by
  have hj := (List.getElem?_eq_some_iff.1 hd).1
  obtain ⟨c, hc⟩ : ∃ c, rows.flatten[j]? = some c := ⟨_, List.getElem?_eq_getElem (by omega)⟩
  exact h j c d hc hd E w nx hg u (q6.2 j c u hc hu)⟩ (by
   rcases q7 with e | ⟨b, off, e, _, h8⟩
   ·exact .inl (List.eq_nil_of_length_eq_zero (by rw [← hl, e]; rfl))
   ·by_cases h0 : rows.length = 0
    ·exact .inl (List.eq_nil_of_length_eq_zero (by omega))
    ·refine .inr ⟨b, off, e, ?_, h8⟩
     have hul : us.length = rows.length * s := by rw [q6.1, i0 h1]
     have hus : 1 ≤ us.length := by rw [hul]; exact Nat.mul_pos (by omega) hs
     have hlt : us.length - 1 < us.length := by omega
     have := qs (h8 (us.length - 1) us[us.length - 1] (List.getElem?_eq_getElem hlt))
     show off + us.length ≤ ki w b
     omega) (by simp) (by simp) (by simp)
 rw [← hl] at this
 exact this
def RdsS (G : Nat → Option GObj) : List C → List C → Prop
 | [], [] => True
 | c :: cs, d :: ds => RdS G c d ∧ RdsS G cs ds
 | _, _ => False
theorem RdsS.to {E : Env} {w : World} {G : Nat → Option GObj} {nx : Nat} (hg : SimG E w G nx) : ∀ {cs ds : List C} {vs : List Value}, RdsS G cs ds → Rs E w cs vs → Rs (fk w) w ds vs
 | [], [], vs, _, hr => ⟨hr.1, fun j c v hc => by cases hc⟩
 | c :: cs, d :: ds, [], _, hr => absurd hr.1 (by simp)
 | c :: cs, d :: ds, v :: vs, h, hr => Rs.cons (h.1 _ _ _ hg _ (hr.2 0 c v rfl rfl)) (RdsS.to hg (cs := cs) h.2 ⟨by simpa using hr.1, fun j c v h1 h2 => hr.2 (j + 1) c v (by simpa using h1) (by simpa using h2)⟩)
 | [], d :: ds, _, h, _ => h.elim
 | c :: cs, [], _, h, _ => h.elim
theorem RdS.agg {G : Nat → Option GObj} {cs ds : List C} (h : RdsS G cs ds) (ho : ∀ d ∈ ds, d.one = true) : RdS G (.agg cs) (.agg ds) := by
 intro E w nx hg v hr
 obtain ⟨vs, rfl, hrs, h1⟩ := hr.agg_inv
 exact Rs.agg (h.to hg hrs) ho
theorem ua9 {P : Program} {f : FuncId} {bs bs' : List C} {r : C} {G : Nat → Option GObj} {nx : Nat} (hp : Pure P f bs' r) (hrd : RdsS G bs bs') (hfl : Flat r) : PC P f bs G nx fun r' G' nx' => r' = r ∧ G' = G ∧ nx' = nx := by
 intro E w vs hr hg
 refine (hp noG 0 (fk w) w vs (hrd.to hg hr) (y7 w)).mono ?_
 rintro e w' ⟨r', v, E', G', nx', rfl, e2, e3, _, rfl, _, _⟩
 have hbel : Below w.heap.size w w' := e2.below
 have hlt : ∀ {b : Nat} {o : Obj}, w.heap[b]? = some o → w'.heap[b]? = some o := fun {b o} h => (hbel.block b (Array.getElem?_eq_some_iff.1 h).1).trans h
 have hev : Ev E w E w' := by
  refine ⟨hbel.mono hg.base, rfl, fun _ => Nat.le_refl _, fun b i hi => ?_, Nat.le_refl _, fun n _ ver wv val h => ⟨ver, wv, val, h, Nat.le_refl _, fun _ => ⟨rfl, fun _ b hb => hbel.block b (hg.tb n _ _ _ b h hb).2⟩⟩, fun n ver wv wv' val h h' _ => by rw [h] at h'; simp at h'; omega, ⟨rfl, fun b hb => absurd hb (Nat.lt_irrefl _), fun b o h _ => hlt h, fun b o h => ⟨o, hlt h, rfl⟩, fun n t _ _ h k _ => ⟨t, h, k⟩, fun n t t' b _ h h' hv _ => by rw [h] at h'; cases h'; omega⟩⟩
  have : b < w.heap.size := Nat.lt_of_not_le fun hle => by have := hg.fresh b hle; omega
  exact World.cell?_of_block (w := w) (hbel.block b this)
 refine ⟨r', v, E, G, nx, rfl, hev, hfl _ _ _ _ _ e3, ⟨hg.nx, fun n o ho => ?_, hg.lt, fun n ver wv val b h1 h2 => ?_, hg.ap, fun b hb => hg.fresh b (Nat.le_trans hbel.size hb), Nat.le_trans hg.base hbel.size⟩, rfl, rfl, rfl⟩
 ·exact (hg.obj n o ho).keep hev rfl fun ver wv val b h1 h2 => ⟨hbel.block b (hg.tb n ver wv val b h1 h2).2, rfl⟩
 ·have := hg.tb n ver wv val b h1 h2
  exact ⟨this.1, Nat.lt_of_lt_of_le this.2 hbel.size⟩
/-- Own slices, within others too, are read by what only reads. -/
theorem ud3 {P : Program} {o : Oper} {st : St} {K : St → Prop} {f : FuncId} [Fun P f] {fv : Operand} {args : List Operand} {ats : Array TypeId} {caps bs bs' : List C} {r : C} (ho : o.op = .call { callee := .value fv, args := args.toArray, argTypes := ats }) (hf : evC st fv = .fn (.func f) caps) (has : args.map (evC st) ++ caps = bs)
  (hp : Pure P f bs' r) (hrd : RdsS st.G bs bs') (hfl : Flat r) (h : K (st.put o.dst r)) : EStep P o st K :=
 sv ho hf has (ua9 hp hrd hfl) h
/-! ### A book that is read; that is written -/
theorem xj {rows : List (List C)} {s : Nat} (hs : 1 ≤ s) (h : ∀ r ∈ rows, r.length = s) {j : Nat} {c : C} (hc : rows.flatten[j]? = some c) : ∃ r, rows[j / s]? = some r ∧ r[j % s]? = some c := by
 have hj := (List.getElem?_eq_some_iff.1 hc).1
 rw [i0 h] at hj
 have hi : j / s < rows.length := Nat.div_lt_of_lt_mul (by rw [Nat.mul_comm]; exact hj)
 have hr := List.getElem?_eq_getElem hi
 have hl := h _ (List.getElem_mem hi)
 have hm : j % s < rows[j / s].length := by rw [hl]; exact Nat.mod_lt _ hs
 have h1 := oq h hr (List.getElem?_eq_getElem hm)
 rw [Nat.div_add_mod' j s, hc] at h1
 exact ⟨_, hr, by rw [List.getElem?_eq_getElem hm, ← Option.some.inj h1]⟩
theorem RdS.rows {G : Nat → Option GObj} {rows rows' : List (List C)} {tok : Tok} {s : Nat} (hl : rows.length = rows'.length) (hs : 1 ≤ s) (h1 : ∀ r ∈ rows, r.length = s) (h2 : ∀ r ∈ rows', r.length = s) (ho : ∀ r ∈ rows', ∀ c ∈ r, c.one = true) (h : ∀ (i : Nat) (r r' : List C), rows[i]? = some r → rows'[i]? = some r' → ∀ (o : Nat) (c d : C), r[o]? = some c → r'[o]? = some d → RdS G c d) : RdS G (.list rows tok) (.list rows' .none) :=
 RdS.list hl hs h1 h2 ho fun j c d hc hd => by
  obtain ⟨r, a1, a2⟩ := xj hs h1 hc
  obtain ⟨r', b1, b2⟩ := xj hs h2 hd
  exact h _ r r' a1 b1 _ c d a2 b2
theorem wc {α : Type} [Enc α] (l : List α) : ∀ r ∈ l.map (cells (α := α)), ∀ c ∈ r, c.one = true := fun r hr c hc => by
 obtain ⟨x, _, rfl⟩ := List.mem_map.1 hr
 exact Enc.one x c hc
theorem ucc {G : Nat → Option GObj} {s : TypeId} {Q : List Ent} {L : List (List ByteArray)} {tok : Tok} (hE : ∀ e ∈ Q, G e.1 = some (i9 s e)) (hc : Q.map (·.2.2.2) = L) : RdS G (.list (d7 Q) tok) (lst L) := by
 subst hc
 refine RdS.rows (s := 1) (by rw [na, List.length_map, List.length_map]) (by decide) (sr Q) (i5 _) (wc _) fun i r r' hr hr' o c d hcc hd => ?_
 rw [List.getElem?_map, List.getElem?_map] at hr'
 unfold d7 at hr
 rw [List.getElem?_map] at hr
 cases he : Q[i]? with
 | none => rw [he] at hr; cases hr
 | some e =>
  rw [he] at hr hr'
  simp only [Option.map_some, Option.some.injEq] at hr hr'
  subst hr; subst hr'
  match o, hcc, hd with
  | 0, hcc, hd => cases hcc; cases hd; exact (Rdg.own e.2.2.2 (hE e (List.mem_of_getElem? he)) rfl rfl rfl).rd
  | o + 1, hcc, _ => cases hcc
theorem ues {G : Nat → Option GObj} {s : TypeId} {QQ : List (List Ent)} {T : List Go.PB.Chap} {ids : List Int} {tok : Tok} (hE : ∀ e ∈ QQ.flatten, G e.1 = some (i9 s e)) (hc : QQ.map (fun Q => Q.map (·.2.2.2)) = T.map (·.lines)) (hi : ids = T.map (·.id)) : RdS G (.agg [.list (dp ids QQ) tok]) (.agg [lst T]) := by
 subst hi
 have hl : QQ.length = T.length := by have := congrArg List.length hc; simpa using this
 refine RdS.agg ⟨RdS.rows (s := 2) (by rw [lw (by rw [List.length_map]; omega), List.length_map, hl]) (by decide) (yj _ _) (i5 _) (wc _) fun i r r' hr hr' o c d hcc hd => ?_, trivial⟩ (fun d hd => by rw [List.mem_singleton] at hd; subst hd; rfl)
 rw [List.getElem?_map] at hr'
 cases hx : T[i]? with
 | none => rw [hx] at hr'; cases hr'
 | some x =>
  have hil := (List.getElem?_eq_some_iff.1 hx).1
  obtain ⟨Q, hQ⟩ : ∃ Q, QQ[i]? = some Q := ⟨_, List.getElem?_eq_getElem (by omega)⟩
  have hq : Q.map (·.2.2.2) = x.lines := by
   have := congrArg (·[i]?) hc
   simp only [List.getElem?_map, hQ, hx, Option.map_some, Option.some.injEq] at this
   exact this
  rw [s9 (by rw [List.getElem?_map, hx]; rfl) hQ] at hr
  rw [hx] at hr'
  simp only [Option.map_some, Option.some.injEq] at hr hr'
  subst hr; subst hr'
  match o, hcc, hd with
  | 0, hcc, hd => cases hcc; cases hd; exact (Rdg.low .v).rd
  | 1, hcc, hd => cases hcc; cases hd; exact ucc (fun e he => hE e (List.mem_flatten.2 ⟨Q, List.mem_of_getElem? hQ, he⟩)) hq
  | o + 2, hcc, _ => cases hcc
/-- what stays of an entry that is written -/
def f4 (e : Ent) : Nat × Nat × Nat := (e.1, e.2.1, e.2.2.2.length)
theorem RiseE.key {F Q : List Ent} (h : F.map f4 = Q.map f4) (hr : RiseE Q) : RiseE F := by
 have e : F.map (·.1) = Q.map (·.1) := by
  have := congrArg (List.map fun k : Nat × Nat × Nat => k.1) h
  simpa [List.map_map, f4, Function.comp_def] using this
 have h1 : (Q.map (·.1)).Pairwise (· < ·) := List.pairwise_map.2 hr
 rw [← e] at h1
 exact List.pairwise_map.1 h1
theorem w5 {F Q : List Ent} (h : F.map f4 = Q.map f4) {e : Ent} (he : e ∈ Q) : ∃ (p : Nat) (f : Ent), F[p]? = some f ∧ f.1 = e.1 ∧ f.2.1 = e.2.1 ∧ f.2.2.2.length = e.2.2.2.length := by
 obtain ⟨p, hp⟩ := List.getElem?_of_mem he
 have h1 := congrArg (·[p]?) h
 simp only [List.getElem?_map, hp, Option.map_some] at h1
 cases hf : F[p]? with
 | none => rw [hf] at h1; cases h1
 | some f =>
  rw [hf] at h1
  simp only [Option.map_some, Option.some.injEq, f4, Prod.mk.injEq] at h1
  exact ⟨p, f, hf, h1.1, h1.2.1, h1.2.2⟩
theorem uc6 {F Q : List Ent} (h : F.map f4 = Q.map f4) {p : Nat} {f g : Ent} (hf : F[p]? = some f) (hg : f4 g = f4 f) : (F.set p g).map f4 = Q.map f4 := by
 rw [List.map_set, hg, ← h]
 obtain ⟨hp, rfl⟩ := List.getElem?_eq_some_iff.1 hf
 apply List.ext_getElem?
 intro j
 rw [List.getElem?_set]
 by_cases e : p = j
 ·subst e
  rw [if_pos rfl, if_pos (by rw [List.length_map]; exact hp), List.getElem?_map, List.getElem?_eq_getElem hp]; rfl
 ·rw [if_neg e]
/-- one entry is written -/
theorem ufm {s : TypeId} {G H : Nat → Option GObj} {F : List Ent} {p : Nat} {f g : Ent} (hr : RiseE F) (hf : F[p]? = some f) (hg : g.1 = f.1) (h1 : H f.1 = some (i9 s g)) (h2 : ∀ j, j ≠ f.1 → H j = d9 s G F j) (h3 : ∀ j o, G j = some o → ∀ e ∈ F, e.1 ≠ j) : ∀ m o, d9 s G (F.set p g) m = some o → H m = some o := by
 have hd : ∀ e ∈ F.set p g, e = g ∨ (e ∈ F ∧ e.1 ≠ f.1) := fun e he => by
  obtain ⟨j, hj⟩ := List.getElem?_of_mem he
  rw [List.getElem?_set] at hj
  by_cases q : p = j
  ·subst q
   rw [if_pos rfl] at hj
   split at hj
   ·exact .inl (Option.some.inj hj).symm
   ·cases hj
  ·rw [if_neg q] at hj
   refine .inr ⟨List.mem_of_getElem? hj, fun e1 => ?_⟩
   obtain ⟨hpl, rfl⟩ := List.getElem?_eq_some_iff.1 hf
   obtain ⟨hjl, rfl⟩ := List.getElem?_eq_some_iff.1 hj
   rcases Nat.lt_or_gt_of_ne q with h | h
   ·have := List.pairwise_iff_getElem.1 hr p j hpl hjl h
    omega
   ·have := List.pairwise_iff_getElem.1 hr j p hjl hpl h
    omega
 refine mq (fun e he => ?_) fun m o hm => ?_
 ·rcases hd e he with rfl | ⟨h4, h5⟩
  ·rw [hg]; exact h1
  ·rw [h2 _ h5]
   exact mr hr h4
 ·have h4 := h3 m o hm
  rw [h2 m (Ne.symm (h4 f (List.mem_of_getElem? hf))), ia h4]
  exact hm
end Go.AB
namespace Go.AB
open Go Go.RowKit
section
theorem vp {Y : Type} {P : Program} {f : FuncId} {fn : Func} {c : Code} {args : List C} {G : Nat → Option GObj} {nx : Nat} (r : Y → C) (g : Y → Nat → Option GObj) (m : Y → Nat) (S : Y → Prop) (hf : P.funcs[f]? = some fn) (hb : fn.body = some c) (hl : ∀ y, S y → (r y).low (m y)) (hm : ∀ y, S y → nx ≤ m y) (hg : (∀ n o, G n = some o → n < nx) → ∀ y, S y → ∀ n o, g y n = some o → G n = some o ∨ (n < m y ∧ o.low (m y)))
  (h : AW none P c (fun e st => ∃ y, S y ∧ l5 P fn (r y) (g y) (m y) e st) { n := args.length + (fn.ntmps - args.length), l := args, r := [], G := G, nx := nx }) : PC P f args G nx fun r' G' nx' => ∃ y, S y ∧ r' = r y ∧ G' = g y ∧ nx' = m y := by
 intro E w vs hr hg0
 have key := r7 (K := fun r' G' nx' => ∃ y, S y ∧ r' = r y ∧ m y ≤ nx' ∧ ∀ n o, g y n = some o → G' n = some o) hf hb (AW.mono h fun e st hq => by
  obtain ⟨y, hs, hq⟩ := hq
  cases e with
  | normal => exact ⟨r y, hq.1, y, hs, rfl, hq.2.1, hq.2.2⟩
  | ret => exact ⟨r y, hq.1, y, hs, rfl, hq.2.1, hq.2.2⟩
  | _ => exact hq)
 refine (key E w vs hr hg0).mono ?_
 rintro e w' ⟨r', v, E', G', nx', e1, e2, e3, e4, y, hS, rfl, e5, e6⟩
 have hnx := hg0.nx
 have hm0 := hm y hS
 refine ⟨r y, v, E'.drop (m y), g y, m y, e1, e2.drop (by omega), e3.drop (hl y hS), ?_, y, hS, rfl, rfl, rfl⟩
 refine (e4.weak e6).drop fun n o ho => ?_
 rcases hg (fun n o ho => (hg0.lowG ho).1) y hS n o ho with h1 | h1
 ·have := hg0.lowG h1
  exact ⟨by omega, GObj.low_mono this.2 hm0⟩
 ·exact h1
theorem xy {Y : Type} {P : Program} {o : Oper} {st : St} {K : St → Prop} {f : FuncId} [Fun P f] {fv : Operand} {args : List Operand} {ats : Array TypeId} {caps as0 : List C} {r : Y → C} {g : Y → Nat → Option GObj} {m : Y → Nat} {S : Y → Prop} (ho : o.op = .call { callee := .value fv, args := args.toArray, argTypes := ats }) (hf : evC st fv = .fn (.func f) caps) (has : args.map (evC st) ++ caps = as0)
  (hp : PC P f as0 st.G st.nx fun r' G' nx' => ∃ y, S y ∧ r' = r y ∧ G' = g y ∧ nx' = m y) (h : ∀ y, S y → K (St.put { st with G := g y, nx := m y } o.dst (r y))) : EStep P o st K :=
 sw ho hf has (hp.mono fun r' G' nx' ⟨y, hs, e1, e2, e3⟩ => by subst e1; subst e2; subst e3; exact h y hs)
end
end Go.AB
