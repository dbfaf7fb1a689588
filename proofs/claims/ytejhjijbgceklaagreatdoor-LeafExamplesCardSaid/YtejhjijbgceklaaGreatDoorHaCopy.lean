/-
 Copies in plain words: the readings of a place, the lines of a copy, valid copies.
-/
import Derived.Test.YtejhjijbgceklaaGreatDoorEaPlain
namespace Go.AB
open Go Go.RowKit
open Go.AB.Enc (cells)
open Go.PB (Chap TextD PlaceD ReadingD CopyD WayD)
/-- the readings of a place, in their order -/
def readsAt (rs : List ReadingD) (p : PlaceD) : List ReadingD := rs.filter fun r => decide (r.pl = p)
/-- what a reading makes of the words ahead, and of the word that stands there -/
def stepR (a : List ByteArray × ByteArray) (r : ReadingD) : List ByteArray × ByteArray := bif decide (r.kind = 2) then (a.1 ++ [r.word], a.2) else (a.1, r.word)
def endR (a : List ByteArray × ByteArray) : List ByteArray := bif decide (a.2 = ByteArray.empty) then a.1 else a.1 ++ [a.2]
def ownW (l : List ByteArray) (w : Nat) : ByteArray := (l[w]?).getD ByteArray.empty
/-- the words of a copy in a place -/
def cellR (rs : List ReadingD) (ch ln : Int) (l : List ByteArray) (w : Nat) : List ByteArray := endR ((readsAt rs ⟨ch, ln, w⟩).foldl stepR ([], ownW l w))
def lineR (rs : List ReadingD) (ch ln : Int) (l : List ByteArray) (m : Nat) : List ByteArray := (List.range m).flatMap (cellR rs ch ln l)
/-- a line of a copy -/
def readL (rs : List ReadingD) (ch ln : Int) (l : List ByteArray) : List ByteArray := lineR rs ch ln l (l.length + 1)
theorem lineR_succ (rs : List ReadingD) (ch ln : Int) (l : List ByteArray) (m : Nat) : lineR rs ch ln l (m + 1) = lineR rs ch ln l m ++ cellR rs ch ln l m := by
 unfold lineR
 rw [List.range_succ, List.flatMap_append]
 simp
def readC (rs : List ReadingD) (k : Nat) (c : Chap) : Chap := ⟨c.id, c.lines.mapIdx fun n l => readL rs (k : Int) (n : Int) l⟩
/-- the text of a copy -/
def readT (t : TextD) (rs : List ReadingD) : TextD := t.mapIdx (readC rs)
/-! ### Valid copies -/
def readingB (t : TextD) (r : ReadingD) : Bool := match wordsOf t (r.pl.ch, r.pl.ln) with
 | none => false
 | some l => bif decide (r.kind = 1) then inB r.pl.wd 0 ((l.length : Int) - 1) && decide (r.word = ByteArray.empty)
  else bif decide (r.kind = 2) then inB r.pl.wd 0 (l.length : Int) && wordB r.word
  else bif decide (r.kind = 3) then inB r.pl.wd 0 ((l.length : Int) - 1) && (wordB r.word && !decide (r.word = ownW l r.pl.wd.toNat)) else false
/-- which of two places comes first -/
def cmpP (a b : PlaceD) : Int := bif decide (a.ch = b.ch) then (bif decide (a.ln = b.ln) then (bif decide (a.wd < b.wd) then -1 else bif decide (b.wd < a.wd) then 1 else 0) else bif decide (a.ln < b.ln) then -1 else 1) else bif decide (a.ch < b.ch) then -1 else 1
def stepB (a b : ReadingD) : Bool := !decide (0 < cmpP a.pl b.pl) && !(decide (a.pl = b.pl) && !decide (a.kind = 2))
/-- each reading goes well with the one ahead of it -/
def orderB : List ReadingD → Bool
 | [] => true
 | [_] => true
 | a :: b :: l => stepB a b && orderB (b :: l)
def linesB (t : TextD) (rs : List ReadingD) : Bool := (readT t rs).all fun c => c.lines.all fun l => inB l.length 1 10
def rsB (t : TextD) (rs : List ReadingD) : Bool := rs.all (readingB t) && orderB rs
def copyB (t : TextD) (c : CopyD) : Bool := inB c.id 0 9999 && decide (c.rs.length ≤ 20) && rsB t c.rs && linesB t c.rs
theorem cmpP_zero {a b : PlaceD} : cmpP a b = 0 ↔ a = b := by
 obtain ⟨a1, a2, a3⟩ := a
 obtain ⟨b1, b2, b3⟩ := b
 simp only [cmpP, PlaceD.mk.injEq, Bool.cond_decide]
 repeat' split
 all_goals (constructor <;> intro h <;> omega)
theorem cmpP_le {a b : PlaceD} : ¬ 0 < cmpP a b ↔ (a.ch < b.ch ∨ (a.ch = b.ch ∧ (a.ln < b.ln ∨ (a.ln = b.ln ∧ a.wd ≤ b.wd)))) := by
 simp only [cmpP, Bool.cond_decide]
 repeat' split
 all_goals (constructor <;> intro h <;> omega)
theorem stepB_true {a b : ReadingD} : stepB a b = true ↔ (¬ 0 < cmpP a.pl b.pl ∧ (a.pl = b.pl → a.kind = 2)) := by
 simp only [stepB, Bool.and_eq_true, Bool.not_eq_true', decide_eq_false_iff_not, Bool.and_eq_false_iff, Bool.not_eq_false', decide_eq_true_eq]
 constructor
 ·rintro ⟨h1, h2⟩
  exact ⟨h1, fun e => h2.resolve_left (fun h => h e)⟩
 ·rintro ⟨h1, h2⟩
  refine ⟨h1, ?_⟩
  by_cases e : a.pl = b.pl
  ·exact .inr (h2 e)
  ·exact .inl e
/-- .. and so does any with any ahead of it -/
def OrdP (rs : List ReadingD) : Prop := rs.Pairwise fun a b => ¬ 0 < cmpP a.pl b.pl ∧ (a.pl = b.pl → a.kind = 2)
theorem orderB_true : ∀ {rs : List ReadingD}, orderB rs = true ↔ OrdP rs
 | [] => by simp [orderB, OrdP]
 | [a] => by simp [orderB, OrdP]
 | a :: b :: l => by
  rw [orderB, Bool.and_eq_true, stepB_true, orderB_true]
  constructor
  ·rintro ⟨h1, h2⟩
   refine List.pairwise_cons.2 ⟨fun c hc => ?_, h2⟩
   rcases List.mem_cons.1 hc with rfl | hc
   ·exact h1
   ·have h3 := (List.pairwise_cons.1 h2).1 c hc
    have e1 := cmpP_le.1 h1.1
    have e2 := cmpP_le.1 h3.1
    refine ⟨cmpP_le.2 (by omega), fun e => h1.2 ?_⟩
    rw [← e] at e2
    obtain ⟨⟨a1, a2, a3⟩, _, _⟩ := a
    obtain ⟨⟨b1, b2, b3⟩, _, _⟩ := b
    simp only [PlaceD.mk.injEq] at e1 e2 ⊢
    omega
  ·intro h
   obtain ⟨h1, h2⟩ := List.pairwise_cons.1 h
   exact ⟨h1 b (List.mem_cons_self ..), h2⟩
theorem orderB_take {rs : List ReadingD} {k : Nat} {r : ReadingD} (hk : rs[k]? = some r) : orderB (rs.take (k + 1)) = (orderB (rs.take k) && bif decide (k = 0) then true else match rs[k - 1]? with | some a => stepB a r | none => true) := by
 induction rs generalizing k with
 | nil => simp at hk
 | cons a l ih =>
  cases k with
  | zero => simp [orderB]
  | succ k =>
   rw [List.getElem?_cons_succ] at hk
   cases l with
   | nil => simp at hk
   | cons b l =>
    cases k with
    | zero =>
     simp only [List.getElem?_cons_zero, Option.some.injEq] at hk
     subst hk
     simp [orderB]
    | succ k =>
     have := ih hk
     simp only [List.take_succ_cons, orderB] at this ⊢
     rw [this]
     simp [Bool.and_assoc]
theorem orderB_prefix {rs : List ReadingD} {k : Nat} (h : orderB (rs.take k) = false) : orderB rs = false := by
 cases h2 : orderB rs with
 | false => rfl
 | true => rw [orderB_true.2 (List.Pairwise.sublist (List.take_sublist _ _) (orderB_true.1 h2))] at h; cases h
/-! ### The words of a place, as they come about -/
/-- words in a place: what is put in, and the word that stands there, or what comes for it -/
def progR (own : ByteArray) : List ReadingD → List ByteArray
 | [] => [own]
 | r :: l => bif decide (r.kind = 2) then r.word :: progR own l else bif decide (r.kind = 1) then [] else [r.word]
def makesR (own : ByteArray) (r : ReadingD) : List ByteArray := bif decide (r.kind = 1) then [] else bif decide (r.kind = 2) then [r.word, own] else [r.word]
theorem progR_puts {own : ByteArray} : ∀ {l : List ReadingD}, (∀ r ∈ l, r.kind = 2) → progR own l = l.map (·.word) ++ [own]
 | [], _ => rfl
 | r :: l, h => by
  rw [progR, decide_eq_true (h r (List.mem_cons_self ..)), cond_true, progR_puts fun x hx => h x (List.mem_cons_of_mem _ hx)]
  rfl
theorem progR_snoc {own : ByteArray} {l : List ReadingD} (h : ∀ r ∈ l, r.kind = 2) (r : ReadingD) : progR own (l ++ [r]) = l.map (·.word) ++ makesR own r := by
 induction l with
 | nil =>
  simp only [List.nil_append, List.map_nil, progR, makesR]
  by_cases h2 : r.kind = 2
  ·simp [h2, progR]
  ·by_cases h1 : r.kind = 1 <;> simp [h1, h2]
 | cons x l ih =>
  simp only [List.cons_append, List.map_cons, progR, decide_eq_true (h x (List.mem_cons_self ..)), cond_true]
  rw [ih fun y hy => h y (List.mem_cons_of_mem _ hy)]
theorem readsAt_puts {rs : List ReadingD} (h : OrdP rs) (p : PlaceD) {k : Nat} {r : ReadingD} (hk : (readsAt rs p)[k]? = some r) : ∀ x ∈ (readsAt rs p).take k, x.kind = 2 := fun x hx => by
 have h1 : (readsAt rs p).Pairwise fun a b => ¬ 0 < cmpP a.pl b.pl ∧ (a.pl = b.pl → a.kind = 2) := List.Pairwise.sublist List.filter_sublist h
 obtain ⟨j, hj⟩ := List.getElem?_of_mem hx
 rw [List.getElem?_take] at hj
 split at hj
 ·rename_i hjk
  obtain ⟨q1, q2⟩ := List.getElem?_eq_some_iff.1 hj
  obtain ⟨q3, q4⟩ := List.getElem?_eq_some_iff.1 hk
  have := List.pairwise_iff_getElem.1 h1 j k q1 q3 hjk
  rw [q2, q4] at this
  have e1 := (List.mem_filter.1 (List.mem_of_getElem? hj)).2
  have e2 := (List.mem_filter.1 (List.mem_of_getElem? hk)).2
  exact this.2 ((of_decide_eq_true e1).trans (of_decide_eq_true e2).symm)
 ·cases hj
theorem readingB_kind {t : TextD} {r : ReadingD} (h : readingB t r = true) : ∃ l, wordsOf t (r.pl.ch, r.pl.ln) = some l ∧ ((r.kind = 1 ∧ 0 ≤ r.pl.wd ∧ r.pl.wd < l.length ∧ r.word = ByteArray.empty) ∨ (r.kind = 2 ∧ 0 ≤ r.pl.wd ∧ r.pl.wd ≤ l.length ∧ wordB r.word = true) ∨ (r.kind = 3 ∧ 0 ≤ r.pl.wd ∧ r.pl.wd < l.length ∧ wordB r.word = true ∧ r.word ≠ ownW l r.pl.wd.toNat)) := by
 unfold readingB at h
 cases hw : wordsOf t (r.pl.ch, r.pl.ln) with
 | none => rw [hw] at h; cases h
 | some l =>
  rw [hw] at h
  refine ⟨l, rfl, ?_⟩
  dsimp only at h
  by_cases h1 : r.kind = 1
  ·rw [decide_eq_true h1, cond_true, Bool.and_eq_true, inB_true, decide_eq_true_eq] at h
   exact .inl ⟨h1, h.1.1, by omega, h.2⟩
  ·by_cases h2 : r.kind = 2
   ·rw [decide_eq_false h1, decide_eq_true h2, cond_false, cond_true, Bool.and_eq_true, inB_true] at h
    exact .inr (.inl ⟨h2, h.1.1, h.1.2, h.2⟩)
   ·by_cases h3 : r.kind = 3
    ·rw [decide_eq_false h1, decide_eq_false h2, decide_eq_true h3, cond_false, cond_false, cond_true, Bool.and_eq_true, Bool.and_eq_true, inB_true] at h
     exact .inr (.inr ⟨h3, h.1.1, by omega, h.2.1, by simpa using h.2.2⟩)
    ·rw [decide_eq_false h1, decide_eq_false h2, decide_eq_false h3] at h; cases h
theorem wordB_ne {s : ByteArray} (h : wordB s = true) : s ≠ ByteArray.empty := fun e => by
 subst e
 simp [wordB, inB] at h
theorem rsB_true {t : TextD} {rs : List ReadingD} : rsB t rs = true ↔ (∀ r ∈ rs, readingB t r = true) ∧ OrdP rs := by
 unfold rsB
 rw [Bool.and_eq_true, List.all_eq_true, orderB_true]
/-- what comes about, less what is no word, is what the copy has -/
theorem progR_filter {t : TextD} {own : ByteArray} : ∀ {l : List ReadingD}, (∀ r ∈ l, readingB t r = true) → (∀ (k : Nat) (r : ReadingD), l[k]? = some r → ∀ x ∈ l.take k, x.kind = 2) → ∀ acc : List ByteArray,
  endR (l.foldl stepR (acc, own)) = acc ++ (progR own l).filter fun s => !decide (s = ByteArray.empty)
 | [], _, _, acc => by
  simp only [List.foldl_nil, endR, progR]
  by_cases h : own = ByteArray.empty <;> simp [h]
 | r :: l, h, hp, acc => by
  obtain ⟨_, _, hk⟩ := readingB_kind (h r (List.mem_cons_self ..))
  have hl : r.kind ≠ 2 → l = [] := fun hne => by
   cases l with
   | nil => rfl
   | cons y l => exact absurd (hp 1 y rfl r (by simp)) hne
  rw [List.foldl_cons]
  rcases hk with ⟨k1, _, _, k4⟩ | ⟨k1, _, _, k4⟩ | ⟨k1, _, _, k4, _⟩
  ·have hn := hl (by omega)
   subst hn
   simp [stepR, progR, endR, k1, k4]
  ·have e1 : stepR (acc, own) r = (acc ++ [r.word], own) := by simp [stepR, k1]
   rw [e1, progR_filter (t := t) (fun x hx => h x (List.mem_cons_of_mem _ hx)) (fun k x hx y hy => hp (k + 1) x hx y (by rw [List.take_succ_cons]; exact List.mem_cons_of_mem _ hy))]
   simp [progR, k1, wordB_ne k4]
  ·have hn := hl (by omega)
   subst hn
   simp [stepR, progR, endR, k1, wordB_ne k4]
theorem cellR_prog {t : TextD} {rs : List ReadingD} (h : rsB t rs = true) (ch ln : Int) (l : List ByteArray) (w : Nat) : cellR rs ch ln l w = (progR (ownW l w) (readsAt rs ⟨ch, ln, w⟩)).filter fun s => !decide (s = ByteArray.empty) := by
 obtain ⟨h1, h2⟩ := rsB_true.1 h
 exact (progR_filter (t := t) (own := ownW l w) (l := readsAt rs ⟨ch, ln, w⟩) (fun r hr => h1 r (List.mem_filter.1 hr).1) (fun k r hk => readsAt_puts h2 _ hk) []).trans (List.nil_append _)
/-- all that comes about in a line, ahead of the striking -/
def rawR (rs : List ReadingD) (ch ln : Int) (l : List ByteArray) (m : Nat) : List ByteArray := (List.range m).flatMap fun w => progR (ownW l w) (readsAt rs ⟨ch, ln, (w : Int)⟩)
theorem rawR_succ (rs : List ReadingD) (ch ln : Int) (l : List ByteArray) (m : Nat) : rawR rs ch ln l (m + 1) = rawR rs ch ln l m ++ progR (ownW l m) (readsAt rs ⟨ch, ln, (m : Int)⟩) := by
 unfold rawR
 rw [List.range_succ, List.flatMap_append]
 simp
theorem rawR_filter {t : TextD} {rs : List ReadingD} (h : rsB t rs = true) (ch ln : Int) (l : List ByteArray) : ∀ m, (rawR rs ch ln l m).filter (fun s => !decide (s = ByteArray.empty)) = lineR rs ch ln l m
 | 0 => rfl
 | m + 1 => by rw [rawR_succ, lineR_succ, List.filter_append, rawR_filter h ch ln l m, cellR_prog h]
theorem progR_len (own : ByteArray) : ∀ l : List ReadingD, (progR own l).length ≤ l.length + 1
 | [] => by simp [progR]
 | r :: l => by
  have := progR_len own l
  rw [progR]
  by_cases h2 : r.kind = 2
  ·simp [h2]; omega
  ·by_cases h1 : r.kind = 1 <;> simp [h1, h2]
theorem readsAt_len (rs : List ReadingD) (p : PlaceD) : (readsAt rs p).length ≤ rs.length := List.length_filter_le _ _
theorem rawR_len (rs : List ReadingD) (ch ln : Int) (l : List ByteArray) : ∀ m, (rawR rs ch ln l m).length ≤ m * (rs.length + 1)
 | 0 => by simp [rawR]
 | m + 1 => by
  rw [rawR_succ, List.length_append, Nat.add_mul]
  have := rawR_len rs ch ln l m
  have := progR_len (ownW l m) (readsAt rs ⟨ch, ln, (m : Int)⟩)
  have := readsAt_len rs ⟨ch, ln, (m : Int)⟩
  omega
/-- the last place of a line has something: a word that is none -/
theorem progR_last {own : ByteArray} {l : List ReadingD} (h : ∀ r ∈ l, r.kind = 2) : progR own l ≠ [] := by
 rw [progR_puts h]; simp
theorem readT_get {t : TextD} {rs : List ReadingD} {k : Nat} : (readT t rs)[k]? = (t[k]?).map (readC rs k) := by
 unfold readT
 rw [List.getElem?_mapIdx]
end Go.AB
