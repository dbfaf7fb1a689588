/-
 The order of words; words, places and the vocabulary of a text, in plain Lean.
-/
import Derived.Test.YtejhjijbgceklaaGsNumber
namespace Go.AB
open Go Go.RowKit
open Go.AB.Enc (cells)
open Go.PB (Chap TextD PlaceD ReadingD CopyD WayD)
/-! ### The order of words -/
theorem bl_irrefl (x : List UInt8) : Op.bytesLess x x = false := by
 induction x with
 | nil => rfl
 | cons a x ih => simp [Op.bytesLess, ih]
theorem bl_trans : ∀ {x y z : List UInt8}, Op.bytesLess x y = true → Op.bytesLess y z = true → Op.bytesLess x z = true
 | x, [], _, h, _ => by cases x <;> simp [Op.bytesLess] at h
 | _, _ :: _, [], _, h => by simp [Op.bytesLess] at h
 | [], _ :: _, _ :: _, _, _ => rfl
 | a :: x, b :: y, c :: z, h1, h2 => by
  simp only [Op.bytesLess, Bool.or_eq_true, Bool.and_eq_true, decide_eq_true_eq, beq_iff_eq] at h1 h2 ⊢
  rcases h1 with h1 | ⟨rfl, h1⟩
  ·rcases h2 with h2 | ⟨rfl, _⟩
   ·exact .inl (UInt8.lt_trans h1 h2)
   ·exact .inl h1
  ·rcases h2 with h2 | ⟨rfl, h2⟩
   ·exact .inl h2
   ·exact .inr ⟨rfl, bl_trans h1 h2⟩
theorem bl_total : ∀ {x y : List UInt8}, Op.bytesLess x y = false → Op.bytesLess y x = false → x = y
 | [], [], _, _ => rfl
 | [], _ :: _, h, _ => by simp [Op.bytesLess] at h
 | _ :: _, [], _, h => by simp [Op.bytesLess] at h
 | a :: x, b :: y, h1, h2 => by
  simp only [Op.bytesLess, Bool.or_eq_false_iff, Bool.and_eq_false_iff, decide_eq_false_iff_not, beq_eq_false_iff_ne] at h1 h2
  have hab : a = b := by
   have q1 := UInt8.not_lt.1 h1.1
   have q2 := UInt8.not_lt.1 h2.1
   exact UInt8.le_antisymm q2 q1
  subst hab
  rw [bl_total (h1.2.resolve_left (by simp)) (h2.2.resolve_left (by simp))]
def ltS (a b : ByteArray) : Prop := sLess a b = true
theorem ltS_irr {a : ByteArray} : ¬ ltS a a := by unfold ltS sLess; rw [bl_irrefl]; simp
theorem ltS_trans {a b c : ByteArray} (h : ltS a b) (k : ltS b c) : ltS a c := bl_trans h k
theorem ltS_total {a b : ByteArray} (h : ¬ ltS a b) (k : ¬ ltS b a) : a = b := toList_inj (bl_total (by simpa [ltS, sLess] using h) (by simpa [ltS, sLess] using k))
/-- rows in order are known by what is in them -/
theorem voc_unique : ∀ {a b : List ByteArray}, a.Pairwise ltS → b.Pairwise ltS → (∀ x, x ∈ a ↔ x ∈ b) → a = b
 | [], [], _, _, _ => rfl
 | [], y :: b, _, _, h => by have := (h y).2 (List.mem_cons_self ..); cases this
 | x :: a, [], _, _, h => by have := (h x).1 (List.mem_cons_self ..); cases this
 | x :: a, y :: b, ha, hb, h => by
  obtain ⟨ha1, ha2⟩ := List.pairwise_cons.1 ha
  obtain ⟨hb1, hb2⟩ := List.pairwise_cons.1 hb
  have hxy : x = y := by
   rcases List.mem_cons.1 ((h x).1 (List.mem_cons_self ..)) with e | h1
   ·exact e
   ·rcases List.mem_cons.1 ((h y).2 (List.mem_cons_self ..)) with e | h2
    ·exact e.symm
    ·exact absurd (ltS_trans (hb1 x h1) (ha1 y h2)) ltS_irr
  subst hxy
  rw [voc_unique ha2 hb2 fun z => ?_]
  constructor
  ·intro hz
   rcases List.mem_cons.1 ((h z).1 (List.mem_cons_of_mem _ hz)) with e | h1
   ·subst e; exact absurd (ha1 z hz) ltS_irr
   ·exact h1
  ·intro hz
   rcases List.mem_cons.1 ((h z).2 (List.mem_cons_of_mem _ hz)) with e | h1
   ·subst e; exact absurd (hb1 z hz) ltS_irr
   ·exact h1
/-- a word more, in its place -/
def vocIns (w : ByteArray) : List ByteArray → List ByteArray
 | [] => [w]
 | x :: l => if sLess x w = true then x :: vocIns w l else if x = w then x :: l else w :: x :: l
theorem vocIns_mem {w y : ByteArray} : ∀ {l : List ByteArray}, y ∈ vocIns w l ↔ y = w ∨ y ∈ l
 | [] => by simp [vocIns]
 | x :: l => by
  rw [vocIns]
  split
  ·rw [List.mem_cons, vocIns_mem, List.mem_cons]
   constructor
   ·rintro (h | h | h)
    ·exact .inr (.inl h)
    ·exact .inl h
    ·exact .inr (.inr h)
   ·rintro (h | h | h)
    ·exact .inr (.inl h)
    ·exact .inl h
    ·exact .inr (.inr h)
  ·split
   ·rename_i h; subst h
    rw [List.mem_cons]
    constructor
    ·exact fun h => .inr h
    ·rintro (h | h)
     ·exact .inl h
     ·exact h
   ·rw [List.mem_cons]
theorem vocIns_sorted {w : ByteArray} : ∀ {l : List ByteArray}, l.Pairwise ltS → (vocIns w l).Pairwise ltS
 | [], _ => by simp [vocIns]
 | x :: l, h => by
  obtain ⟨h1, h2⟩ := List.pairwise_cons.1 h
  rw [vocIns]
  split
  ·rename_i hx
   refine List.pairwise_cons.2 ⟨fun y hy => ?_, vocIns_sorted h2⟩
   rcases vocIns_mem.1 hy with rfl | hy
   ·exact hx
   ·exact h1 y hy
  ·rename_i hx
   split
   ·exact h
   ·rename_i hne
    have hw : ltS w x := by
     by_cases hwx : ltS w x
     ·exact hwx
     ·exact absurd (ltS_total hx hwx) hne
    refine List.pairwise_cons.2 ⟨fun y hy => ?_, h⟩
    rcases List.mem_cons.1 hy with rfl | hy
    ·exact hw
    ·exact ltS_trans hw (h1 y hy)
def vocL (l : List ByteArray) : List ByteArray := l.foldl (fun out w => vocIns w out) []
theorem vocL_snoc (l : List ByteArray) (w : ByteArray) : vocL (l ++ [w]) = vocIns w (vocL l) := by unfold vocL; rw [List.foldl_append]; rfl
theorem voc_fold (l : List ByteArray) : ∀ out : List ByteArray, out.Pairwise ltS → (l.foldl (fun out w => vocIns w out) out).Pairwise ltS ∧ ∀ y, y ∈ l.foldl (fun out w => vocIns w out) out ↔ y ∈ out ∨ y ∈ l := by
 induction l with
 | nil => intro out h; exact ⟨h, fun y => by simp⟩
 | cons w l ih =>
  intro out h
  obtain ⟨h1, h2⟩ := ih _ (vocIns_sorted (w := w) h)
  refine ⟨h1, fun y => ?_⟩
  rw [List.foldl_cons, h2, vocIns_mem, List.mem_cons]
  constructor
  ·rintro ((h | h) | h)
   ·exact .inr (.inl h)
   ·exact .inl h
   ·exact .inr (.inr h)
  ·rintro (h | h | h)
   ·exact .inl (.inr h)
   ·exact .inl (.inl h)
   ·exact .inr h
theorem vocL_sorted (l : List ByteArray) : (vocL l).Pairwise ltS := (voc_fold l [] List.Pairwise.nil).1
theorem vocL_mem {l : List ByteArray} {y : ByteArray} : y ∈ vocL l ↔ y ∈ l := by rw [vocL, (voc_fold l [] List.Pairwise.nil).2]; simp
theorem vocIns_len (w : ByteArray) : ∀ l : List ByteArray, (vocIns w l).length ≤ l.length + 1
 | [] => by simp [vocIns]
 | x :: l => by
  have := vocIns_len w l
  rw [vocIns]
  repeat' split
  all_goals simp
  omega
theorem vocL_len (l : List ByteArray) : (vocL l).length ≤ l.length := by
 have key : ∀ (l : List ByteArray) (out : List ByteArray), (l.foldl (fun out w => vocIns w out) out).length ≤ out.length + l.length := by
  intro l
  induction l with
  | nil => intro out; simp
  | cons w l ih =>
   intro out
   have h1 := ih (vocIns w out)
   have h2 := vocIns_len w out
   rw [List.foldl_cons, List.length_cons]
   omega
 have := key l []
 unfold vocL
 simpa using this
/-! ### What the functions give -/
def wordsT (t : TextD) : List ByteArray := (allP t).map (·.2)
def wordsN (t : TextD) : Int := bif textB t then ((allP t).length : Int) else 0
def placeOfEr (t : TextD) (n : Int) : Int := bif textB t then (bif inB n 0 (((allP t).length : Int) - 1) then 0 else 2) else 10
def plAt (t : TextD) (n : Nat) : PlaceD := (((allP t)[n]?).map (·.1)).getD ⟨0, 0, 0⟩
def placeOfV (t : TextD) (n : Int) : PlaceD := bif decide (placeOfEr t n = 0) then plAt t n.toNat else ⟨0, 0, 0⟩
def placesL (l : List PW) (s : ByteArray) : List PlaceD := (l.filter fun x => decide (x.2 = s)).map (·.1)
def placesEr (t : TextD) (s : ByteArray) : Int := bif textB t then (bif wordB s then 0 else 2) else 10
def placesV (t : TextD) (s : ByteArray) : List PlaceD := bif decide (placesEr t s = 0) then placesL (allP t) s else []
def vocV (t : TextD) : List ByteArray := bif textB t then vocL (wordsT t) else []
def wordP (t : TextD) (p : PlaceD) : ByteArray := ((wordsOf t (p.ch, p.ln)).getD [])[p.wd.toNat]?.getD ByteArray.empty
theorem allP_wordP {t : TextD} {x : PW} (hx : x ∈ allP t) : wordP t x.1 = x.2 := by
 unfold allP at hx
 obtain ⟨l, hl, h1⟩ := List.mem_flatten.1 hx
 obtain ⟨k, hk, rfl⟩ := List.mem_mapIdx.1 hl
 unfold chapP at h1
 obtain ⟨l2, hl2, h2⟩ := List.mem_flatten.1 h1
 obtain ⟨n, hn, rfl⟩ := List.mem_mapIdx.1 hl2
 unfold lineP at h2
 obtain ⟨w, hw, rfl⟩ := List.mem_mapIdx.1 h2
 unfold wordP
 dsimp only
 rw [wordsOf_get (List.getElem?_eq_getElem hk) (List.getElem?_eq_getElem hn)]
 simp [hw]
theorem plAt_some {t : TextD} {k : Nat} {x : PW} (h : (allP t)[k]? = some x) : plAt t k = x.1 := by unfold plAt; rw [h]; rfl
theorem placesL_len (l : List PW) (s : ByteArray) : (placesL l s).length ≤ l.length := by unfold placesL; rw [List.length_map]; exact List.length_filter_le _ _
end Go.AB
