/-
  What the walks through the program rest on: values, states, steps, calls (HaCopy, HdKeys, HeMap).
-/
import Derived.Test.YtjjklfgpffgnfabGreatDoorEaPlain
import Derived.Test.YtjjklfgpffgnfabGreatDoorGrpH
import Derived.Test.YtjjklfgpffgnfabGreatDoorCkKeys
namespace Go.AB
open Go Go.RowKit
open Go.AB.Enc (cells)
open Go.PB (bh af PlaceD ar bp cj)
/-- the readings of a place, in their order -/
def ey (rs : List ar) (p : PlaceD) : List ar := rs.filter fun r => decide (r.pl = p)
/-- what a reading makes of the words ahead, and of the word that stands there -/
def qb (a : List ByteArray × ByteArray) (r : ar) : List ByteArray × ByteArray := bif decide (r.kind = 2) then (a.1 ++ [r.word], a.2) else (a.1, r.word)
def su (a : List ByteArray × ByteArray) : List ByteArray := bif decide (a.2 = ByteArray.empty) then a.1 else a.1 ++ [a.2]
def eo (l : List ByteArray) (w : Nat) : ByteArray := (l[w]?).getD ByteArray.empty
/-- the words of a copy in a place -/
def za (rs : List ar) (ch ln : Int) (l : List ByteArray) (w : Nat) : List ByteArray := su ((ey rs ⟨ch, ln, w⟩).foldl qb ([], eo l w))
def qq (rs : List ar) (ch ln : Int) (l : List ByteArray) (m : Nat) : List ByteArray := (List.range m).flatMap (za rs ch ln l)
/-- a line of a copy -/
def n4 (rs : List ar) (ch ln : Int) (l : List ByteArray) : List ByteArray := qq rs ch ln l (l.length + 1)
theorem ulc (rs : List ar) (ch ln : Int) (l : List ByteArray) (m : Nat) : qq rs ch ln l (m + 1) = qq rs ch ln l m ++ za rs ch ln l m := by
 unfold qq
 rw [List.range_succ, List.flatMap_append]
 simp
def g8 (rs : List ar) (k : Nat) (c : bh) : bh := ⟨c.id, c.lines.mapIdx fun n l => n4 rs (k : Int) (n : Int) l⟩
/-- the text of a copy -/
def c7 (t : af) (rs : List ar) : af := t.mapIdx (g8 rs)
/-! ### Valid copies -/
def j5 (t : af) (r : ar) : Bool := match ei t (r.pl.ch, r.pl.ln) with
 | none => false
 | some l => bif decide (r.kind = 1) then inB r.pl.wd 0 ((l.length : Int) - 1) && decide (r.word = ByteArray.empty)
  else bif decide (r.kind = 2) then inB r.pl.wd 0 (l.length : Int) && ib r.word
  else bif decide (r.kind = 3) then inB r.pl.wd 0 ((l.length : Int) - 1) && (ib r.word && !decide (r.word = eo l r.pl.wd.toNat)) else false
/-- which of two places comes first -/
def jx (a b : PlaceD) : Int := bif decide (a.ch = b.ch) then (bif decide (a.ln = b.ln) then (bif decide (a.wd < b.wd) then -1 else bif decide (b.wd < a.wd) then 1 else 0) else bif decide (a.ln < b.ln) then -1 else 1) else bif decide (a.ch < b.ch) then -1 else 1
def ou (a b : ar) : Bool := !decide (0 < jx a.pl b.pl) && !(decide (a.pl = b.pl) && !decide (a.kind = 2))
/-- each reading goes well with the one ahead of it -/
def im : List ar → Bool
 | [] => true
 | [_] => true
 | a :: b :: l => ou a b && im (b :: l)
def se (t : af) (rs : List ar) : Bool := (c7 t rs).all fun c => c.lines.all fun l => inB l.length 1 10
def rsB (t : af) (rs : List ar) : Bool := rs.all (j5 t) && im rs
def jj (t : af) (c : bp) : Bool := inB c.id 0 9999 && decide (c.rs.length ≤ 20) && rsB t c.rs && se t c.rs
theorem cmpP_zero {a b : PlaceD} : jx a b = 0 ↔ a = b := by
 obtain ⟨a1, a2, a3⟩ := a
 obtain ⟨b1, b2, b3⟩ := b
 simp only [jx, PlaceD.mk.injEq, Bool.cond_decide]
 repeat' split
 all_goals (constructor <;> intro h <;> omega)
theorem cmpP_le {a b : PlaceD} : ¬ 0 < jx a b ↔ (a.ch < b.ch ∨ (a.ch = b.ch ∧ (a.ln < b.ln ∨ (a.ln = b.ln ∧ a.wd ≤ b.wd)))) := by
 simp only [jx, Bool.cond_decide]
 repeat' split
 all_goals (constructor <;> intro h <;> omega)
theorem stepB_true {a b : ar} : ou a b = true ↔ (¬ 0 < jx a.pl b.pl ∧ (a.pl = b.pl → a.kind = 2)) := by
 simp only [ou, Bool.and_eq_true, Bool.not_eq_true', decide_eq_false_iff_not, Bool.and_eq_false_iff, Bool.not_eq_false', decide_eq_true_eq]
 constructor
 ·rintro ⟨h1, h2⟩
  exact ⟨h1, fun e => h2.resolve_left (fun h => h e)⟩
 ·rintro ⟨h1, h2⟩
  refine ⟨h1, ?_⟩
  by_cases e : a.pl = b.pl
  ·exact .inr (h2 e)
  ·exact .inl e
/-- .. and so does any with any ahead of it -/
def s8 (rs : List ar) : Prop := rs.Pairwise fun a b => ¬ 0 < jx a.pl b.pl ∧ (a.pl = b.pl → a.kind = 2)
theorem orderB_true : ∀ {rs : List ar}, im rs = true ↔ s8 rs
 | [] => by simp [im, s8]
 | [a] => by simp [im, s8]
 | a :: b :: l => by
  rw [im, Bool.and_eq_true, stepB_true, orderB_true]
  constructor
  ·rintro ⟨h1, h2⟩
   refine List.pairwise_cons.2 ⟨fun c hc => ?_, h2⟩
   rcases List.mem_cons.1 hc with rfl | hc
   ·exact h1
   ·have h3 := (List.pairwise_cons.1 h2).1 c hc
    have e1 := cmpP_le.1 h1.1
    have e2 := cmpP_le.1 h3.1
    refine ⟨cmpP_le.2 (by omega), fun e => h1.2 ?_⟩
    rw [← e] at e2
    obtain ⟨⟨a1, a2, a3⟩, _, _⟩ := a
    obtain ⟨⟨b1, b2, b3⟩, _, _⟩ := b
    simp only [PlaceD.mk.injEq] at e1 e2 ⊢
    omega
  ·intro h
   obtain ⟨h1, h2⟩ := List.pairwise_cons.1 h
   exact ⟨h1 b (List.mem_cons_self ..), h2⟩
theorem ubh {rs : List ar} {k : Nat} {r : ar} (hk : rs[k]? = some r) : im (rs.take (k + 1)) = (im (rs.take k) && bif decide (k = 0) then true else match rs[k - 1]? with | some a => ou a r | none => true) := by
 induction rs generalizing k with
 | nil => simp at hk
 | cons a l ih =>
  cases k with
  | zero => simp [im]
  | succ k =>
   rw [List.getElem?_cons_succ] at hk
   cases l with
   | nil => simp at hk
   | cons b l =>
    cases k with
    | zero =>
     simp only [List.getElem?_cons_zero, Option.some.injEq] at hk
     subst hk
     simp [im]
    | succ k =>
     have := ih hk
     simp only [List.take_succ_cons, im] at this ⊢
     rw [this]
     simp [Bool.and_assoc]
theorem ujs {rs : List ar} {k : Nat} (h : im (rs.take k) = false) : im rs = false := by
 cases h2 : im rs with
 | false => rfl
 | true => rw [orderB_true.2 (List.Pairwise.sublist (List.take_sublist _ _) (orderB_true.1 h2))] at h; cases h
/-! ### The words of a place, as they come about -/
/-- words in a place: what is put in, and the word that stands there, or what comes for it -/
def fk (own : ByteArray) : List ar → List ByteArray
 | [] => [own]
 | r :: l => bif decide (r.kind = 2) then r.word :: fk own l else bif decide (r.kind = 1) then [] else [r.word]
def uj (own : ByteArray) (r : ar) : List ByteArray := bif decide (r.kind = 1) then [] else bif decide (r.kind = 2) then [r.word, own] else [r.word]
theorem xd {own : ByteArray} : ∀ {l : List ar}, (∀ r ∈ l, r.kind = 2) → fk own l = l.map (·.word) ++ [own]
 | [], _ => rfl
 | r :: l, h => by
  rw [fk, decide_eq_true (h r (List.mem_cons_self ..)), cond_true, xd fun x hx => h x (List.mem_cons_of_mem _ hx)]
  rfl
theorem ujf {own : ByteArray} {l : List ar} (h : ∀ r ∈ l, r.kind = 2) (r : ar) : fk own (l ++ [r]) = l.map (·.word) ++ uj own r := by
 induction l with
 | nil =>
  simp only [List.nil_append, List.map_nil, fk, uj]
  by_cases h2 : r.kind = 2
  ·simp [h2, fk]
  ·by_cases h1 : r.kind = 1 <;> simp [h1, h2]
 | cons x l ih =>
  simp only [List.cons_append, List.map_cons, fk, decide_eq_true (h x (List.mem_cons_self ..)), cond_true]
  rw [ih fun y hy => h y (List.mem_cons_of_mem _ hy)]
theorem uax {rs : List ar} (h : s8 rs) (p : PlaceD) {k : Nat} {r : ar} (hk : (ey rs p)[k]? = some r) : ∀ x ∈ (ey rs p).take k, x.kind = 2 := fun x hx => by
 have h1 : (ey rs p).Pairwise fun a b => ¬ 0 < jx a.pl b.pl ∧ (a.pl = b.pl → a.kind = 2) := List.Pairwise.sublist List.filter_sublist h
 obtain ⟨j, hj⟩ := List.getElem?_of_mem hx
 rw [List.getElem?_take] at hj
 split at hj
 ·rename_i hjk
  obtain ⟨q1, q2⟩ := List.getElem?_eq_some_iff.1 hj
  obtain ⟨q3, q4⟩ := List.getElem?_eq_some_iff.1 hk
  have := List.pairwise_iff_getElem.1 h1 j k q1 q3 hjk
  rw [q2, q4] at this
  have e1 := (List.mem_filter.1 (List.mem_of_getElem? hj)).2
  have e2 := (List.mem_filter.1 (List.mem_of_getElem? hk)).2
  exact this.2 ((of_decide_eq_true e1).trans (of_decide_eq_true e2).symm)
 ·cases hj
theorem tv {t : af} {r : ar} (h : j5 t r = true) : ∃ l, ei t (r.pl.ch, r.pl.ln) = some l ∧ ((r.kind = 1 ∧ 0 ≤ r.pl.wd ∧ r.pl.wd < l.length ∧ r.word = ByteArray.empty) ∨ (r.kind = 2 ∧ 0 ≤ r.pl.wd ∧ r.pl.wd ≤ l.length ∧ ib r.word = true) ∨ (r.kind = 3 ∧ 0 ≤ r.pl.wd ∧ r.pl.wd < l.length ∧ ib r.word = true ∧ r.word ≠ eo l r.pl.wd.toNat)) := by
 unfold j5 at h
 cases hw : ei t (r.pl.ch, r.pl.ln) with
 | none => rw [hw] at h; cases h
 | some l =>
  rw [hw] at h
  refine ⟨l, rfl, ?_⟩
  dsimp only at h
  by_cases h1 : r.kind = 1
  ·rw [decide_eq_true h1, cond_true, Bool.and_eq_true, inB_true, decide_eq_true_eq] at h
   exact .inl ⟨h1, h.1.1, by omega, h.2⟩
  ·by_cases h2 : r.kind = 2
   ·rw [decide_eq_false h1, decide_eq_true h2, cond_false, cond_true, Bool.and_eq_true, inB_true] at h
    exact .inr (.inl ⟨h2, h.1.1, h.1.2, h.2⟩)
   ·by_cases h3 : r.kind = 3
    ·rw [decide_eq_false h1, decide_eq_false h2, decide_eq_true h3, cond_false, cond_false, cond_true, Bool.and_eq_true, Bool.and_eq_true, inB_true] at h
     exact .inr (.inr ⟨h3, h.1.1, by omega, h.2.1, by simpa using h.2.2⟩)
    ·rw [decide_eq_false h1, decide_eq_false h2, decide_eq_false h3] at h; cases h
theorem z8 {s : ByteArray} (h : ib s = true) : s ≠ ByteArray.empty := fun e => by
 subst e
 simp [ib, inB] at h
theorem rsB_true {t : af} {rs : List ar} : rsB t rs = true ↔ (∀ r ∈ rs, j5 t r = true) ∧ s8 rs := by
 unfold rsB
 rw [Bool.and_eq_true, List.all_eq_true, orderB_true]
/-- what comes about, less what is no word, is what the copy has -/
theorem ua8 {t : af} {own : ByteArray} : ∀ {l : List ar}, (∀ r ∈ l, j5 t r = true) → (∀ (k : Nat) (r : ar), l[k]? = some r → ∀ x ∈ l.take k, x.kind = 2) → ∀ acc : List ByteArray,
  su (l.foldl qb (acc, own)) = acc ++ (fk own l).filter fun s => !decide (s = ByteArray.empty)
 | [], _, _, acc => by
  simp only [List.foldl_nil, su, fk]
  by_cases h : own = ByteArray.empty <;> simp [h]
 | r :: l, h, hp, acc => by
  obtain ⟨_, _, hk⟩ := tv (h r (List.mem_cons_self ..))
  have hl : r.kind ≠ 2 → l = [] := fun hne => by
   cases l with
   | nil => rfl
   | cons y l => exact absurd (hp 1 y rfl r (by simp)) hne
  rw [List.foldl_cons]
  rcases hk with ⟨k1, _, _, k4⟩ | ⟨k1, _, _, k4⟩ | ⟨k1, _, _, k4, _⟩
  ·have hn := hl (by omega)
   subst hn
   simp [qb, fk, su, k1, k4]
  ·have e1 : qb (acc, own) r = (acc ++ [r.word], own) := by simp [qb, k1]
   rw [e1, ua8 (t := t) (fun x hx => h x (List.mem_cons_of_mem _ hx)) (fun k x hx y hy => hp (k + 1) x hx y (by rw [List.take_succ_cons]; exact List.mem_cons_of_mem _ hy))]
   simp [fk, k1, z8 k4]
  ·have hn := hl (by omega)
   subst hn
   simp [qb, fk, su, k1, z8 k4]
theorem ue5 {t : af} {rs : List ar} (h : rsB t rs = true) (ch ln : Int) (l : List ByteArray) (w : Nat) : za rs ch ln l w = (fk (eo l w) (ey rs ⟨ch, ln, w⟩)).filter fun s => !decide (s = ByteArray.empty) := by
 obtain ⟨h1, h2⟩ := rsB_true.1 h
 exact (ua8 (t := t) (own := eo l w) (l := ey rs ⟨ch, ln, w⟩) (fun r hr => h1 r (List.mem_filter.1 hr).1) (fun k r hk => uax h2 _ hk) []).trans (List.nil_append _)
/-- all that comes about in a line, ahead of the striking -/
def i9 (rs : List ar) (ch ln : Int) (l : List ByteArray) (m : Nat) : List ByteArray := (List.range m).flatMap fun w => fk (eo l w) (ey rs ⟨ch, ln, (w : Int)⟩)
theorem tz (rs : List ar) (ch ln : Int) (l : List ByteArray) (m : Nat) : i9 rs ch ln l (m + 1) = i9 rs ch ln l m ++ fk (eo l m) (ey rs ⟨ch, ln, (m : Int)⟩) := by
 unfold i9
 rw [List.range_succ, List.flatMap_append]
 simp
theorem xc {t : af} {rs : List ar} (h : rsB t rs = true) (ch ln : Int) (l : List ByteArray) : ∀ m, (i9 rs ch ln l m).filter (fun s => !decide (s = ByteArray.empty)) = qq rs ch ln l m
 | 0 => rfl
 | m + 1 => by rw [tz, ulc, List.filter_append, xc h ch ln l m, ue5 h]
theorem xe (own : ByteArray) : ∀ l : List ar, (fk own l).length ≤ l.length + 1
 | [] => by simp [fk]
 | r :: l => by
  have := xe own l
  rw [fk]
  by_cases h2 : r.kind = 2
  ·simp [h2]; omega
  ·by_cases h1 : r.kind = 1 <;> simp [h1, h2]
theorem tu (rs : List ar) (p : PlaceD) : (ey rs p).length ≤ rs.length := List.length_filter_le _ _
theorem t6 (rs : List ar) (ch ln : Int) (l : List ByteArray) : ∀ m, (i9 rs ch ln l m).length ≤ m * (rs.length + 1)
 | 0 => by simp [i9]
 | m + 1 => by
  rw [tz, List.length_append, Nat.add_mul]
  have := t6 rs ch ln l m
  have := xe (eo l m) (ey rs ⟨ch, ln, (m : Int)⟩)
  have := tu rs ⟨ch, ln, (m : Int)⟩
  omega
/-- the last place of a line has something: a word that is none -/
theorem ujg {own : ByteArray} {l : List ar} (h : ∀ r ∈ l, r.kind = 2) : fk own l ≠ [] := by
 rw [xd h]; simp
theorem qe {t : af} {rs : List ar} {k : Nat} : (c7 t rs)[k]? = (t[k]?).map (g8 rs k) := by
 unfold c7
 rw [List.getElem?_mapIdx]
end Go.AB
namespace Go.AB
open Go Go.RowKit
open Go.PB (bh af PlaceD ar bp cj)
def udj (P : Program) (k u : TypeId) : Bool := match P.underlying k with
 | some (.struct fs) => (match fs.toList with
  | [a, b, c] => a.type == u && b.type == u && c.type == u && a.offset == 0 && b.offset == 1 && c.offset == 2 && fs.all (·.name != "_")
  | _ => false)
 | _ => false
theorem key3 {P : Program} {k u : TypeId} (h : udj P k u = true) (hu : P.underlying u = some (.int .i64)) (h3 : P.cellsOf k = 3) (h1 : P.cellsOf u = 1) (hk : P.keyType k = true) (hm : ∃ m, P.types.size = m + 3) {x y z : Int} (hx : (Lit.int .i64 x).wf = true) (hy : (Lit.int .i64 y).wf = true) (hz : (Lit.int .i64 z).wf = true) : ∃ l, keyOf P k (.agg #[.int .i64 x, .int .i64 y, .int .i64 z]) = some l := by
 obtain ⟨m, hm⟩ := hm
 unfold udj at h
 split at h
 ·rename_i fs hfs
  split at h
  ·rename_i a b c habc
   simp only [Bool.and_eq_true, beq_iff_eq] at h
   obtain ⟨⟨⟨⟨⟨⟨e1, e2⟩, e3⟩, e4⟩, e5⟩, e6⟩, e7⟩ := h
   have hf : (Value.agg #[.int .i64 x, .int .i64 y, .int .i64 z]).formed P k = true := by simp [Value.formed, hfs, h3]
   refine ⟨.string (keyBytes [.int .i64 x, .int .i64 y, .int .i64 z]), ?_⟩
   unfold keyOf
   rw [hfs]
   simp only [hk, hf, Bool.and_self, if_true]
   have hl : P.keyLits (P.types.size + 1) k (Value.agg #[.int .i64 x, .int .i64 y, .int .i64 z]).cells.toList = some [.int .i64 x, .int .i64 y, .int .i64 z] := by
    rw [hm]
    unfold Program.keyLits
    simp only [hfs, h3, h1, e1, e2, e3, e4, e5, e6, e7, habc, Value.cells]
    unfold Program.keyLits
    simp [hu, h1, e1, e2, e3, e4, e5, e6, hx, hy, hz]
   rw [hl]
   rfl
  ·cases h
 ·cases h
end Go.AB
namespace Go.Proofs.YtjjklfgpffgnfabGreatDoor
set_option maxRecDepth 10000
open Go Go.RowKit Go.AB
open Go.PB (bh af PlaceD ar bp cj)
theorem ujl : Go.Maps.Keyed Tryz.prog 49 := Go.Maps.Keyed.of_law (deep_law_laid ph (m := 2) (by omega) (of_decide_eq_true (by kernel_rfl)) (by kernel_rfl) (by kernel_rfl))
instance : KeyT Tryz.prog 49 PlaceD where
 keyed := ujl
 has {E w x v} h := by
  obtain ⟨vs, rfl, h1, _⟩ := R.agg_inv h
  match vs, h1 with
  | [a, b, c], h1 => exact key3 (u := 3) (by kernel_rfl) th (by kernel_rfl) (by kernel_rfl) (by kernel_rfl) ucf (qp (qv (h1.2 0 _ _ rfl rfl))) (qp (qv (h1.2 1 _ _ rfl rfl))) (qp (qv (h1.2 2 _ _ rfl rfl)))
  | [], h => exact absurd h.1 (by simp)
  | [_], h => exact absurd h.1 (by simp)
  | [_, _], h => exact absurd h.1 (by simp)
  | _ :: _ :: _ :: _ :: _, h => exact absurd h.1 (by simp)
end Go.Proofs.YtjjklfgpffgnfabGreatDoor
namespace Go.AB
open Go Go.RowKit
open Go.AB.Enc (cells)
open Go.PB (bh af PlaceD ar bp cj)
/-- the places of the first readings, as they come up -/
def dm (rs : List ar) : Nat → List PlaceD
 | 0 => []
 | k + 1 => match rs[k]? with
  | some r => if r.pl ∈ dm rs k then dm rs k else dm rs k ++ [r.pl]
  | none => dm rs k
theorem sj {rs : List ar} {k : Nat} {r : ar} (hk : rs[k]? = some r) (h : r.pl ∈ dm rs k) : dm rs (k + 1) = dm rs k := by
 simp [dm, hk, h]
theorem qu {rs : List ar} {k : Nat} {r : ar} (hk : rs[k]? = some r) (h : r.pl ∉ dm rs k) : dm rs (k + 1) = dm rs k ++ [r.pl] := by
 simp [dm, hk, h]
theorem oy {rs : List ar} {k : Nat} {r : ar} (hk : rs[k]? = some r) (p : PlaceD) : ey (rs.take (k + 1)) p = if r.pl = p then ey (rs.take k) p ++ [r] else ey (rs.take k) p := by
 rw [← ti hk, ey, List.filter_append, List.filter_cons]
 split <;> rename_i h <;> simp at h <;> simp [ey, h]
theorem uc0 {rs : List ar} : ∀ {k : Nat}, k ≤ rs.length → ∀ p, p ∈ dm rs k ↔ ey (rs.take k) p ≠ []
 | 0, _, p => by simp [dm, ey]
 | k + 1, h, p => by
  obtain ⟨r, hk⟩ : ∃ r, rs[k]? = some r := dw (l := rs) (k := k) (by omega)
  have ih := uc0 (rs := rs) (k := k) (by omega) p
  rw [oy hk]
  by_cases hin : r.pl ∈ dm rs k
  ·rw [sj hk hin, ih]
   split
   ·rename_i e
    rw [e] at hin
    have := ih.1 hin
    simp [this]
   ·rfl
  ·rw [qu hk hin, List.mem_append, List.mem_singleton, ih]
   split
   ·rename_i e; simp [e]
   ·rename_i e
    constructor
    ·rintro (h | rfl)
     ·exact h
     ·exact absurd rfl e
    ·exact .inl
theorem ul4 (rs : List ar) : ∀ k, (dm rs k).length ≤ k
 | 0 => by simp [dm]
 | k + 1 => by
  have := ul4 rs k
  simp only [dm]
  split
  ·split
   ·omega
   ·simp; omega
  ·omega
theorem ucz (rs : List ar) : ∀ k, (dm rs k).Nodup
 | 0 => by simp [dm]
 | k + 1 => by
  have ih := ucz rs k
  simp only [dm]
  split
  ·split
   ·exact ih
   ·rename_i h; exact xl ih h
  ·exact ih
theorem uj5 {α : Type} [DecidableEq α] {l : List α} (h : l.Nodup) {j : Nat} {x : α} (hj : l[j]? = some x) : l.idxOf x = j := by
 obtain ⟨h1, h2⟩ := List.getElem?_eq_some_iff.1 hj
 have h3 : x ∈ l := List.mem_of_getElem? hj
 have h4 := List.idxOf_lt_length_of_mem h3
 have h5 : l[l.idxOf x] = x := List.getElem_idxOf h4
 have h6 := List.pairwise_iff_getElem.1 h
 rcases Nat.lt_trichotomy (l.idxOf x) j with h7 | h7 | h7
 ·exact absurd (h5.trans h2.symm) (h6 _ _ h4 h1 h7)
 ·exact h7
 ·exact absurd (h2.trans h5.symm) (h6 _ _ h1 h4 h7)
def jc (base : Nat) (rs : List ar) (k : Nat) (p : PlaceD) : Nat := base + 2 * (dm rs k).idxOf p + 1
def gj (base : Nat) (rs : List ar) (k : Nat) : Nat := base + 2 * (dm rs k).length
/-- what the map holds -/
def atN (base : Nat) (rs : List ar) (k : Nat) : PlaceD → Option C := fun p => if p ∈ dm rs k then some (.list ((ey (rs.take k) p).map cells) (.tip (jc base rs k p))) else none
/-- .. in the end -/
def atF (rs : List ar) : PlaceD → Option C := fun p => if p ∈ dm rs rs.length then some (lst (ey rs p)) else none
noncomputable def rdG (P : Program) (kt rt : TypeId) (G0 : Nat → Option GObj) (M base : Nat) (rs : List ar) (k : Nat) : Nat → Option GObj := fun n =>
 if n < base then (if n = M then some (mh P kt (2 * k) k (atN base rs k)) else G0 n)
 else if (n - base) % 2 = 1 then ((dm rs k)[(n - base) / 2]?).map fun p => .tip (ey (rs.take k) p).length rt 5 else none
theorem qi (base : Nat) (rs : List ar) (k : Nat) : base ≤ gj base rs k := by unfold gj; omega
theorem ugr {base : Nat} {rs : List ar} {k : Nat} {p : PlaceD} (h : p ∈ dm rs k) : jc base rs k p < gj base rs k := by
 have := List.idxOf_lt_length_of_mem h
 unfold jc gj; omega
theorem wc (base : Nat) (rs : List ar) (k : Nat) (p : PlaceD) : base < jc base rs k p := by unfold jc; omega
section
variable {P : Program} {kt rt : TypeId} {G0 : Nat → Option GObj} {M base : Nat} {rs : List ar} {k : Nat} {r : ar}
theorem ry (hM : M < base) : rdG P kt rt G0 M base rs k M = some (mh P kt (2 * k) k (atN base rs k)) := by
 unfold rdG
 rw [if_pos hM, if_pos rfl]
theorem xb {n : Nat} (hM : n < base) (hne : n ≠ M) : rdG P kt rt G0 M base rs k n = G0 n := by
 unfold rdG
 rw [if_pos hM, if_neg hne]
theorem ui7 {p : PlaceD} (h : p ∈ dm rs k) : rdG P kt rt G0 M base rs k (jc base rs k p) = some (.tip (ey (rs.take k) p).length rt 5) := by
 unfold rdG jc
 rw [if_neg (by omega), if_pos (by omega)]
 have : (base + 2 * (dm rs k).idxOf p + 1 - base) / 2 = (dm rs k).idxOf p := by omega
 rw [this, List.getElem?_eq_getElem (List.idxOf_lt_length_of_mem h), List.getElem_idxOf]
 rfl
theorem uja (hG0 : ∀ n o, G0 n = some o → n < base) {n : Nat} {o : GObj} (h : rdG P kt rt G0 M base rs k n = some o) : n < gj base rs k := by
 have := qi base rs k
 unfold rdG at h
 split at h
 ·omega
 ·split at h
  ·obtain ⟨p, hp, _⟩ := Option.map_eq_some_iff.1 h
   have := (List.getElem?_eq_some_iff.1 hp).1
   unfold gj
   omega
  ·cases h
theorem uqf {m : Nat} (hm : gj base rs k ≤ m) (p : PlaceD) (c : C) (h : atN base rs k p = some c) : c.low m := by
 unfold atN at h
 split at h
 ·rename_i hp
  cases h
  refine .list (fun row hrow c hc => ?_) (fun n hn => ?_)
  ·obtain ⟨x, _, rfl⟩ := List.mem_map.1 hrow
   exact Enc.low m x c hc
  ·cases hn
   have := ugr (base := base) hp
   omega
 ·cases h
theorem uca {α : Type} [KeyV α] {m : α → Option C} {k : Nat} (h : ∀ x c, m x = some c → c.low k) : ∀ v c, i4 m v = some c → c.low k := fun v c hv => by
 by_cases hex : ∃ y : α, v = KeyV.kv y
 ·obtain ⟨y, rfl⟩ := hex
  rw [f8] at hv
  exact h y c hv
 ·rw [n9 _ hex] at hv; cases hv
theorem ujb {H : Nat → Option GObj} (hG0 : ∀ n o, G0 n = some o → n ≠ M → H n = some o) {n : Nat} {o : GObj} (h : rdG P kt rt G0 M base rs k n = some o) (hM : M < base) : H n = some o ∨ (n < gj base rs k ∧ o.low (gj base rs k)) := by
 have h1 := qi base rs k
 unfold rdG at h
 split at h
 ·split at h
  ·rename_i hn
   cases h
   exact .inr ⟨by omega, uca fun x c hc => uqf (Nat.le_refl _) x c hc⟩
  ·rename_i hn
   exact .inl (hG0 n o h hn)
 ·split at h
  ·obtain ⟨p, hp, rfl⟩ := Option.map_eq_some_iff.1 h
   have := (List.getElem?_eq_some_iff.1 hp).1
   refine .inr ⟨by unfold gj; omega, trivial⟩
  ·cases h
theorem uqd (base : Nat) (rs : List ar) : atN base rs 0 = fun _ => none := by
 funext p
 simp [atN, dm]
theorem ui8 (hM : M < base) {n : Nat} {o : GObj} (h : rdG P kt rt G0 M base rs 0 n = some o) : ah G0 M (mh P kt 0 0 (α := PlaceD) fun _ => none) n = some o := by
 unfold rdG at h
 split at h
 ·split at h
  ·rename_i hn
   rw [hn, jd, ← uqd base rs]; exact h
  ·rename_i hn
   rw [dz hn]; exact h
 ·split at h
  ·simp [dm] at h
  ·cases h
theorem uqh {z : Value} (h : r.pl ∈ dm rs k) : (atN base rs k r.pl).getD (ia z) = .list ((ey (rs.take k) r.pl).map cells) (.tip (jc base rs k r.pl)) := by
 simp [atN, h]
theorem uqg (h : r.pl ∉ dm rs k) : (atN base rs k r.pl).getD (ia (.slice none 0 0)) = .list [] .nil := by
 simp [atN, h]; rfl
theorem uqe {c : C} (h : r.pl ∈ dm rs k) (hc : c = .list ((ey (rs.take k) r.pl).map cells) (.tip (jc base rs k r.pl))) : iq (atN base rs k) r.pl c = atN base rs k := by
 funext p
 unfold iq
 split
 ·rename_i e; rw [e, hc]; simp [atN, h]
 ·rfl
theorem wa {p : PlaceD} (hk : rs[k]? = some r) (h : p ∈ dm rs k) : jc base rs (k + 1) p = jc base rs k p := by
 unfold jc
 by_cases hin : r.pl ∈ dm rs k
 ·rw [sj hk hin]
 ·rw [qu hk hin, List.idxOf_append, if_pos h]
theorem ugq (hk : rs[k]? = some r) (h : r.pl ∉ dm rs k) : jc base rs (k + 1) r.pl = gj base rs k + 1 := by
 unfold jc gj
 rw [qu hk h, List.idxOf_append, if_neg h]
 simp
theorem uqb (hk : rs[k]? = some r) (h : r.pl ∈ dm rs k) {c : C} (hc : c = .list ((ey (rs.take k) r.pl ++ [r]).map cells) (.tip (jc base rs k r.pl))) : iq (atN base rs k) r.pl c = atN base rs (k + 1) := by
 funext p
 unfold iq atN
 rw [sj hk h, oy hk]
 split
 ·rename_i e
  subst e
  rw [if_pos h, if_pos rfl, hc, wa hk h]
 ·rename_i e
  split
  ·rename_i hp
   rw [if_neg (fun e2 => e e2.symm), wa hk hp]
  ·rfl
theorem w9 (hk : k ≤ rs.length) {p : PlaceD} (h : p ∉ dm rs k) : ey (rs.take k) p = [] := by
 rw [uc0 hk] at h
 simpa using h
theorem uqc (hk : rs[k]? = some r) (h : r.pl ∉ dm rs k) {c d : C} (hc : c = .list ((([] : List ar) ++ [r]).map cells) (.tip (gj base rs k + 1))) : iq (iq (atN base rs k) r.pl d) r.pl c = atN base rs (k + 1) := by
 have hk' : k ≤ rs.length := Nat.le_of_lt (List.getElem?_eq_some_iff.1 hk).1
 funext p
 unfold iq atN
 rw [qu hk h, oy hk]
 by_cases e : p = r.pl
 ·subst e
  rw [if_pos rfl, if_pos (by simp), if_pos rfl, hc, ugq hk h, w9 hk' h]
 ·have e' : ¬ r.pl = p := fun h => e h.symm
  by_cases hp : p ∈ dm rs k
  ·simp [e, e', hp, wa hk hp]
  ·simp [e, e', hp]
theorem ujc (hG0 : ∀ n o, G0 n = some o → n < base) {B B' : GObj} {n : Nat} {o : GObj} (h : rdG P kt rt G0 M base rs k n = some o) : fl (ah (ah (rdG P kt rt G0 M base rs k) (gj base rs k) B) (gj base rs k) B') (gj base rs k) n = some o := by
 have := uja hG0 h
 rw [kn (by omega), dz (by omega), dz (by omega)]
 exact h
theorem ua2 (hM : M < base) (hk : rs[k]? = some r) (hin : r.pl ∈ dm rs k) {A : GObj} {len : Nat} (hl : len = (ey (rs.take k) r.pl ++ [r]).length) {n : Nat} {o : GObj} (h : rdG P kt rt G0 M base rs (k + 1) n = some o) :
  ah (ah (ah (rdG P kt rt G0 M base rs k) M A) (jc base rs k r.pl) (.tip len rt 5)) M (mh P kt (2 * k + 1 + 1) (k + 1) (atN base rs (k + 1))) n = some o := by
 by_cases hn : n = M
 ·subst hn
  rw [jd]
  rw [ry hM] at h
  exact h
 ·rw [dz hn]
  unfold rdG at h
  split at h
  ·rename_i hlt
   have := wc base rs k r.pl
   rw [dz (by omega), dz hn, xb hlt hn]
   exact h
  ·rename_i hlt
   split at h
   ·rename_i hodd
    obtain ⟨p, hp, rfl⟩ := Option.map_eq_some_iff.1 h
    rw [sj hk hin] at hp
    by_cases ht : n = jc base rs k r.pl
    ·rw [ht, jd]
     unfold jc at ht
     have e1 : (n - base) / 2 = (dm rs k).idxOf r.pl := by omega
     rw [e1, List.getElem?_eq_getElem (List.idxOf_lt_length_of_mem hin), List.getElem_idxOf] at hp
     cases hp
     rw [oy hk, if_pos rfl, hl]
    ·rw [dz ht, dz hn]
     unfold rdG
     rw [if_neg hlt, if_pos hodd, hp, Option.map_some, oy hk, if_neg (fun e => ht ?_)]
     subst e
     have hnd : (dm rs k).idxOf r.pl = (n - base) / 2 := ?_
     ·unfold jc; omega
     ·exact uj5 (ucz rs k) hp
   ·cases h
theorem ua3 (hG0 : ∀ n o, G0 n = some o → n < base) (hM : M < base) (hk : rs[k]? = some r) (hin : r.pl ∉ dm rs k) {A B : GObj} {len : Nat} (hl : len = 1) {n : Nat} {o : GObj} (h : rdG P kt rt G0 M base rs (k + 1) n = some o) :
  ah (ah (ah (ah (rdG P kt rt G0 M base rs k) M A) (gj base rs k + 1) B) (gj base rs k + 1) (.tip len rt 5)) M (mh P kt (2 * k + 1 + 1) (k + 1) (atN base rs (k + 1))) n = some o := by
 have hk' : k ≤ rs.length := Nat.le_of_lt (List.getElem?_eq_some_iff.1 hk).1
 have hnle := qi base rs k
 by_cases hn : n = M
 ·subst hn
  rw [jd]
  rw [ry hM] at h
  exact h
 ·rw [dz hn]
  unfold rdG at h
  split at h
  ·rename_i hlt
   rw [dz (by omega), dz (by omega), dz hn, xb hlt hn]
   exact h
  ·rename_i hlt
   split at h
   ·rename_i hodd
    obtain ⟨p, hp, rfl⟩ := Option.map_eq_some_iff.1 h
    rw [qu hk hin] at hp
    by_cases ht : n = gj base rs k + 1
    ·rw [ht, jd]
     have e1 : (n - base) / 2 = (dm rs k).length := by unfold gj at ht; omega
     rw [e1, List.getElem?_append_right (Nat.le_refl _), Nat.sub_self] at hp
     cases hp
     rw [oy hk, if_pos rfl, hl, w9 hk' hin]
     rfl
    ·have hlt2 := (List.getElem?_eq_some_iff.1 hp).1
     rw [List.length_append, List.length_singleton] at hlt2
     have hlt3 : (n - base) / 2 < (dm rs k).length := by unfold gj at ht; omega
     rw [List.getElem?_append_left hlt3] at hp
     rw [dz ht, dz ht, dz hn]
     unfold rdG
     rw [if_neg hlt, if_pos hodd, hp, Option.map_some, oy hk, if_neg (fun e => hin ?_)]
     rw [e]
     exact List.mem_of_getElem? hp
   ·cases h
theorem ubx (hk : rs[k]? = some r) (h : r.pl ∈ dm rs k) : gj base rs (k + 1) ≤ gj base rs k + 1 := by
 unfold gj
 rw [sj hk h]
 omega
theorem uby (hk : rs[k]? = some r) (h : r.pl ∉ dm rs k) : gj base rs (k + 1) ≤ gj base rs k + 1 + 1 := by
 unfold gj
 rw [qu hk h, List.length_append, List.length_singleton]
 omega
theorem uqi {base : Nat} (x : PlaceD) (c : C) (h : atN base rs rs.length x = some c) : ∃ c', atF rs x = some c' ∧ ∀ (E : Env) (w : World) (v : Value), R E w c v → R E w c' v := by
 unfold atN at h
 split at h
 ·rename_i hp
  cases h
  refine ⟨lst (ey rs x), by simp [atF, hp], fun E w v hr => ?_⟩
  rw [List.take_of_length_le (Nat.le_refl _)] at hr
  exact Wk.tok.2 E w v hr
 ·cases h
theorem uql {base : Nat} (x : PlaceD) (c : C) (h : atF rs x = some c) : ∃ c', atN base rs rs.length x = some c' := by
 unfold atF at h
 split at h
 ·rename_i hp
  exact ⟨_, if_pos hp⟩
 ·cases h
theorem uqk (rs : List ar) (p : PlaceD) : ∃ tok, (atF rs p).getD (ia (.slice none 0 0)) = .list ((ey rs p).map cells) tok := by
 unfold atF
 by_cases h : p ∈ dm rs rs.length
 ·rw [if_pos h]; exact ⟨.none, rfl⟩
 ·rw [if_neg h]
  have := w9 (Nat.le_refl _) h
  rw [List.take_of_length_le (Nat.le_refl _)] at this
  rw [this]
  exact ⟨.nil, rfl⟩
theorem ui9 (hG0 : ∀ n o, G0 n = some o → n < base) {X : GObj} {n : Nat} {o : GObj} (h : ah G0 M X n = some o) : ah (rdG P kt rt G0 M base rs k) M X n = some o := by
 by_cases hn : n = M
 ·rw [hn, jd] at h ⊢; exact h
 ·rw [dz hn] at h ⊢
  rw [xb (hG0 n o h) hn]; exact h
theorem uqj {m : Nat} (p : PlaceD) (c : C) (h : atF rs p = some c) : c.low m := by
 unfold atF at h
 split at h
 ·cases h; exact bd _ _
 ·cases h
theorem oo {m wv : Nat} : (bl P kt wv (atF rs)).low m := uca fun x c h => uqj x c h
end
end Go.AB
