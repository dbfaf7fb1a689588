/-
  What the walks through the program rest on: values, states, steps, calls (KwWords, KbIndex, KcWords, KaPlain, KdStand).
-/
import Derived.Test.YtejhjijbgceklaaGreatDoorGsNumber
import Derived.Test.YtejhjijbgceklaaGreatDoorGrpN
import Derived.Test.YtejhjijbgceklaaGreatDoorGrpP
import Derived.Test.YtejhjijbgceklaaGreatDoorGrpR
import Derived.Test.YtejhjijbgceklaaGreatDoorGrpH
namespace Go.AB
open Go Go.RowKit
open Go.AB.Enc (cells)
open Go.PB (Chap TextD PlaceD ReadingD CopyD WayD)
/-! ### The order of words -/
theorem bl_irrefl (x : List UInt8) : Op.bytesLess x x = false := by
 induction x with
 | nil => rfl
 | cons a x ih => simp [Op.bytesLess, ih]
theorem bl_trans : ∀ {x y z : List UInt8}, Op.bytesLess x y = true → Op.bytesLess y z = true → Op.bytesLess x z = true
 | x, [], _, h, _ => by cases x <;> simp [Op.bytesLess] at h
 | _, _ :: _, [], _, h => by simp [Op.bytesLess] at h
 | [], _ :: _, _ :: _, _, _ => rfl
 | a :: x, b :: y, c :: z, h1, h2 => by
  simp only [Op.bytesLess, Bool.or_eq_true, Bool.and_eq_true, decide_eq_true_eq, beq_iff_eq] at h1 h2 ⊢
  rcases h1 with h1 | ⟨rfl, h1⟩
  ·rcases h2 with h2 | ⟨rfl, _⟩
   ·exact .inl (UInt8.lt_trans h1 h2)
   ·exact .inl h1
  ·rcases h2 with h2 | ⟨rfl, h2⟩
   ·exact .inl h2
   ·exact .inr ⟨rfl, bl_trans h1 h2⟩
theorem bl_total : ∀ {x y : List UInt8}, Op.bytesLess x y = false → Op.bytesLess y x = false → x = y
 | [], [], _, _ => rfl
 | [], _ :: _, h, _ => by simp [Op.bytesLess] at h
 | _ :: _, [], _, h => by simp [Op.bytesLess] at h
 | a :: x, b :: y, h1, h2 => by
  simp only [Op.bytesLess, Bool.or_eq_false_iff, Bool.and_eq_false_iff, decide_eq_false_iff_not, beq_eq_false_iff_ne] at h1 h2
  have hab : a = b := by
   have q1 := UInt8.not_lt.1 h1.1
   have q2 := UInt8.not_lt.1 h2.1
   exact UInt8.le_antisymm q2 q1
  subst hab
  rw [bl_total (h1.2.resolve_left (by simp)) (h2.2.resolve_left (by simp))]
def ltS (a b : ByteArray) : Prop := sLess a b = true
theorem ltS_irr {a : ByteArray} : ¬ ltS a a := by unfold ltS sLess; rw [bl_irrefl]; simp
theorem ltS_trans {a b c : ByteArray} (h : ltS a b) (k : ltS b c) : ltS a c := bl_trans h k
theorem ltS_total {a b : ByteArray} (h : ¬ ltS a b) (k : ¬ ltS b a) : a = b := toList_inj (bl_total (by simpa [ltS, sLess] using h) (by simpa [ltS, sLess] using k))
/-- rows in order are known by what is in them -/
theorem voc_unique : ∀ {a b : List ByteArray}, a.Pairwise ltS → b.Pairwise ltS → (∀ x, x ∈ a ↔ x ∈ b) → a = b
 | [], [], _, _, _ => rfl
 | [], y :: b, _, _, h => by have := (h y).2 (List.mem_cons_self ..); cases this
 | x :: a, [], _, _, h => by have := (h x).1 (List.mem_cons_self ..); cases this
 | x :: a, y :: b, ha, hb, h => by
  obtain ⟨ha1, ha2⟩ := List.pairwise_cons.1 ha
  obtain ⟨hb1, hb2⟩ := List.pairwise_cons.1 hb
  have hxy : x = y := by
   rcases List.mem_cons.1 ((h x).1 (List.mem_cons_self ..)) with e | h1
   ·exact e
   ·rcases List.mem_cons.1 ((h y).2 (List.mem_cons_self ..)) with e | h2
    ·exact e.symm
    ·exact absurd (ltS_trans (hb1 x h1) (ha1 y h2)) ltS_irr
  subst hxy
  rw [voc_unique ha2 hb2 fun z => ?_]
  constructor
  ·intro hz
   rcases List.mem_cons.1 ((h z).1 (List.mem_cons_of_mem _ hz)) with e | h1
   ·subst e; exact absurd (ha1 z hz) ltS_irr
   ·exact h1
  ·intro hz
   rcases List.mem_cons.1 ((h z).2 (List.mem_cons_of_mem _ hz)) with e | h1
   ·subst e; exact absurd (hb1 z hz) ltS_irr
   ·exact h1
/-- a word more, in its place -/
def vocIns (w : ByteArray) : List ByteArray → List ByteArray
 | [] => [w]
 | x :: l => if sLess x w = true then x :: vocIns w l else if x = w then x :: l else w :: x :: l
theorem vocIns_mem {w y : ByteArray} : ∀ {l : List ByteArray}, y ∈ vocIns w l ↔ y = w ∨ y ∈ l
 | [] => by simp [vocIns]
 | x :: l => by
  rw [vocIns]
  split
  ·rw [List.mem_cons, vocIns_mem, List.mem_cons]
   constructor
   ·rintro (h | h | h)
    ·exact .inr (.inl h)
    ·exact .inl h
    ·exact .inr (.inr h)
   ·rintro (h | h | h)
    ·exact .inr (.inl h)
    ·exact .inl h
    ·exact .inr (.inr h)
  ·split
   ·rename_i h; subst h
    rw [List.mem_cons]
    constructor
    ·exact fun h => .inr h
    ·rintro (h | h)
     ·exact .inl h
     ·exact h
   ·rw [List.mem_cons]
theorem vocIns_sorted {w : ByteArray} : ∀ {l : List ByteArray}, l.Pairwise ltS → (vocIns w l).Pairwise ltS
 | [], _ => by simp [vocIns]
 | x :: l, h => by
  obtain ⟨h1, h2⟩ := List.pairwise_cons.1 h
  rw [vocIns]
  split
  ·rename_i hx
   refine List.pairwise_cons.2 ⟨fun y hy => ?_, vocIns_sorted h2⟩
   rcases vocIns_mem.1 hy with rfl | hy
   ·exact hx
   ·exact h1 y hy
  ·rename_i hx
   split
   ·exact h
   ·rename_i hne
    have hw : ltS w x := by
     by_cases hwx : ltS w x
     ·exact hwx
     ·exact absurd (ltS_total hx hwx) hne
    refine List.pairwise_cons.2 ⟨fun y hy => ?_, h⟩
    rcases List.mem_cons.1 hy with rfl | hy
    ·exact hw
    ·exact ltS_trans hw (h1 y hy)
def vocL (l : List ByteArray) : List ByteArray := l.foldl (fun out w => vocIns w out) []
theorem voc_fold (l : List ByteArray) : ∀ out : List ByteArray, out.Pairwise ltS → (l.foldl (fun out w => vocIns w out) out).Pairwise ltS ∧ ∀ y, y ∈ l.foldl (fun out w => vocIns w out) out ↔ y ∈ out ∨ y ∈ l := by
 induction l with
 | nil => intro out h; exact ⟨h, fun y => by simp⟩
 | cons w l ih =>
  intro out h
  obtain ⟨h1, h2⟩ := ih _ (vocIns_sorted (w := w) h)
  refine ⟨h1, fun y => ?_⟩
  rw [List.foldl_cons, h2, vocIns_mem, List.mem_cons]
  constructor
  ·rintro ((h | h) | h)
   ·exact .inr (.inl h)
   ·exact .inl h
   ·exact .inr (.inr h)
  ·rintro (h | h | h)
   ·exact .inl (.inr h)
   ·exact .inl (.inl h)
   ·exact .inr h
theorem vocL_sorted (l : List ByteArray) : (vocL l).Pairwise ltS := (voc_fold l [] List.Pairwise.nil).1
theorem vocL_mem {l : List ByteArray} {y : ByteArray} : y ∈ vocL l ↔ y ∈ l := by rw [vocL, (voc_fold l [] List.Pairwise.nil).2]; simp
/-! ### What the functions give -/
def wordsT (t : TextD) : List ByteArray := (allP t).map (·.2)
def wordsN (t : TextD) : Int := bif textB t then ((allP t).length : Int) else 0
def placeOfEr (t : TextD) (n : Int) : Int := bif textB t then (bif inB n 0 (((allP t).length : Int) - 1) then 0 else 2) else 10
def plAt (t : TextD) (n : Nat) : PlaceD := (((allP t)[n]?).map (·.1)).getD ⟨0, 0, 0⟩
def placeOfV (t : TextD) (n : Int) : PlaceD := bif decide (placeOfEr t n = 0) then plAt t n.toNat else ⟨0, 0, 0⟩
def placesL (l : List PW) (s : ByteArray) : List PlaceD := (l.filter fun x => decide (x.2 = s)).map (·.1)
def placesEr (t : TextD) (s : ByteArray) : Int := bif textB t then (bif wordB s then 0 else 2) else 10
def placesV (t : TextD) (s : ByteArray) : List PlaceD := bif decide (placesEr t s = 0) then placesL (allP t) s else []
def vocV (t : TextD) : List ByteArray := bif textB t then vocL (wordsT t) else []
def wordP (t : TextD) (p : PlaceD) : ByteArray := ((wordsOf t (p.ch, p.ln)).getD [])[p.wd.toNat]?.getD ByteArray.empty
theorem allP_wordP {t : TextD} {x : PW} (hx : x ∈ allP t) : wordP t x.1 = x.2 := by
 unfold allP at hx
 obtain ⟨l, hl, h1⟩ := List.mem_flatten.1 hx
 obtain ⟨k, hk, rfl⟩ := List.mem_mapIdx.1 hl
 unfold chapP at h1
 obtain ⟨l2, hl2, h2⟩ := List.mem_flatten.1 h1
 obtain ⟨n, hn, rfl⟩ := List.mem_mapIdx.1 hl2
 unfold lineP at h2
 obtain ⟨w, hw, rfl⟩ := List.mem_mapIdx.1 h2
 unfold wordP
 dsimp only
 rw [wordsOf_get (List.getElem?_eq_getElem hk) (List.getElem?_eq_getElem hn)]
 simp [hw]
theorem plAt_some {t : TextD} {k : Nat} {x : PW} (h : (allP t)[k]? = some x) : plAt t k = x.1 := by unfold plAt; rw [h]; rfl
theorem placesL_len (l : List PW) (s : ByteArray) : (placesL l s).length ≤ l.length := by unfold placesL; rw [List.length_map]; exact List.length_filter_le _ _
end Go.AB
namespace Go.AB
open Go Go.RowKit
open Go.AB.Enc (cells)
open Go.PB (Chap TextD PlaceD ReadingD CopyD WayD)
instance : LawfulBEq ByteArray where
 rfl := by
  intro a
  show ByteArray.beq a a = true
  unfold ByteArray.beq
  simp
 eq_of_beq := by
  intro a b h
  have h : ByteArray.beq a b = true := h
  unfold ByteArray.beq at h
  cases a; cases b
  simpa using h
/-- the words, as they come up -/
def keysW (zs : List PW) : List ByteArray := zs.foldl (fun ks x => if x.2 ∈ ks then ks else ks ++ [x.2]) []
theorem keysW_snoc (zs : List PW) (x : PW) : keysW (zs ++ [x]) = if x.2 ∈ keysW zs then keysW zs else keysW zs ++ [x.2] := by unfold keysW; rw [List.foldl_append]; rfl
theorem keysW_old {zs : List PW} {x : PW} (h : x.2 ∈ keysW zs) : keysW (zs ++ [x]) = keysW zs := by rw [keysW_snoc, if_pos h]
theorem keysW_new {zs : List PW} {x : PW} (h : x.2 ∉ keysW zs) : keysW (zs ++ [x]) = keysW zs ++ [x.2] := by rw [keysW_snoc, if_neg h]
theorem snoc_ind {α : Type} {p : List α → Prop} (h0 : p []) (h1 : ∀ l x, p l → p (l ++ [x])) (l : List α) : p l := by
 rw [← List.reverse_reverse l]
 induction l.reverse with
 | nil => exact h0
 | cons x l ih => rw [List.reverse_cons]; exact h1 _ _ ih
theorem keysW_mem {zs : List PW} {s : ByteArray} : s ∈ keysW zs ↔ s ∈ zs.map (·.2) := by
 revert s
 refine snoc_ind (p := fun zs => ∀ {s : ByteArray}, s ∈ keysW zs ↔ s ∈ zs.map (·.2)) (by simp [keysW]) (fun zs x ih => ?_) zs
 intro s
 rw [List.map_append, List.mem_append, ← ih]
 by_cases h : x.2 ∈ keysW zs
 ·rw [keysW_old h]
  simp only [List.map_cons, List.map_nil, List.mem_singleton]
  constructor
  ·exact .inl
  ·rintro (h2 | rfl)
   ·exact h2
   ·exact h
 ·rw [keysW_new h, List.mem_append]; simp
theorem keysW_nodup (zs : List PW) : (keysW zs).Nodup := by
 refine snoc_ind (p := fun zs => (keysW zs).Nodup) (by simp [keysW]) (fun zs x ih => ?_) zs
 by_cases h : x.2 ∈ keysW zs
 ·rw [keysW_old h]; exact ih
 ·rw [keysW_new h]; exact nodup_snoc ih h
theorem keysW_len (zs : List PW) : (keysW zs).length ≤ zs.length := by
 refine snoc_ind (p := fun zs => (keysW zs).length ≤ zs.length) (by simp [keysW]) (fun zs x ih => ?_) zs
 by_cases h : x.2 ∈ keysW zs
 ·rw [keysW_old h]; simp; omega
 ·rw [keysW_new h]; simp; omega
theorem placesL_snoc (zs : List PW) (x : PW) (s : ByteArray) : placesL (zs ++ [x]) s = if x.2 = s then placesL zs s ++ [x.1] else placesL zs s := by
 unfold placesL
 rw [List.filter_append, List.map_append]
 by_cases h : x.2 = s <;> simp [h]
theorem placesL_nil {zs : List PW} {s : ByteArray} (h : s ∉ keysW zs) : placesL zs s = [] := by
 unfold placesL
 rw [List.map_eq_nil_iff, List.filter_eq_nil_iff]
 intro x hx
 simp only [decide_eq_true_eq]
 intro e
 exact h (keysW_mem.2 (List.mem_map.2 ⟨x, hx, e⟩))
theorem placesL_ne {zs : List PW} {s : ByteArray} (h : s ∈ keysW zs) : placesL zs s ≠ [] := by
 obtain ⟨x, hx, e⟩ := List.mem_map.1 (keysW_mem.1 h)
 unfold placesL
 intro h0
 rw [List.map_eq_nil_iff, List.filter_eq_nil_iff] at h0
 exact h0 x hx (by simp [e])
theorem nodup_idx {α : Type} [BEq α] [LawfulBEq α] {l : List α} (h : l.Nodup) {j : Nat} {x : α} (hj : l[j]? = some x) : l.idxOf x = j := by
 obtain ⟨h1, h2⟩ := List.getElem?_eq_some_iff.1 hj
 have h3 : x ∈ l := List.mem_of_getElem? hj
 have h4 := List.idxOf_lt_length_of_mem h3
 have h5 : l[l.idxOf x] = x := List.getElem_idxOf h4
 have h6 := List.pairwise_iff_getElem.1 h
 rcases Nat.lt_trichotomy (l.idxOf x) j with h7 | h7 | h7
 ·exact absurd (h5.trans h2.symm) (h6 _ _ h4 h1 h7)
 ·exact h7
 ·exact absurd (h2.trans h5.symm) (h6 _ _ h1 h4 h7)
def tipW (base : Nat) (zs : List PW) (s : ByteArray) : Nat := base + 2 * (keysW zs).idxOf s + 1
def namesW (base : Nat) (zs : List PW) : Nat := base + 2 * (keysW zs).length
/-- what the map holds -/
def ixN (base : Nat) (zs : List PW) : ByteArray → Option C := fun s => if s ∈ keysW zs then some (.list ((placesL zs s).map cells) (.tip (tipW base zs s))) else none
/-- .. in the end -/
def ixF (zs : List PW) : ByteArray → Option C := fun s => if s ∈ keysW zs then some (lst (placesL zs s)) else none
noncomputable def ixG (P : Program) (kt rt : TypeId) (G0 : Nat → Option GObj) (M base : Nat) (zs : List PW) : Nat → Option GObj := fun n =>
 if n < base then (if n = M then some (gmap P kt zs.length (ixN base zs)) else G0 n)
 else if (n - base) % 2 = 1 then ((keysW zs)[(n - base) / 2]?).map fun s => .tip (placesL zs s).length rt 3 else none
theorem namesW_le (base : Nat) (zs : List PW) : base ≤ namesW base zs := by unfold namesW; omega
theorem tipW_lt {base : Nat} {zs : List PW} {s : ByteArray} (h : s ∈ keysW zs) : tipW base zs s < namesW base zs := by
 have := List.idxOf_lt_length_of_mem h
 unfold tipW namesW; omega
theorem tipW_ge (base : Nat) (zs : List PW) (s : ByteArray) : base < tipW base zs s := by unfold tipW; omega
section
variable {P : Program} {kt rt : TypeId} {G0 : Nat → Option GObj} {M base : Nat} {zs : List PW} {x : PW}
theorem ixG_map (hM : M < base) : ixG P kt rt G0 M base zs M = some (gmap P kt zs.length (ixN base zs)) := by
 unfold ixG
 rw [if_pos hM, if_pos rfl]
theorem ixG_base {n : Nat} (hM : n < base) (hne : n ≠ M) : ixG P kt rt G0 M base zs n = G0 n := by
 unfold ixG
 rw [if_pos hM, if_neg hne]
theorem ixG_box {zs : List PW} {P : Program} {kt rt : TypeId} {m b : Nat} {o : GObj} {H : Nat → Option GObj} (hb : m < b ∧ m ≠ M) : ixG P kt rt (setG H m o) M b zs m = some o := by
 unfold ixG
 rw [if_pos hb.1, if_neg hb.2, setG_same]
theorem ixG_tip {s : ByteArray} (h : s ∈ keysW zs) : ixG P kt rt G0 M base zs (tipW base zs s) = some (.tip (placesL zs s).length rt 3) := by
 unfold ixG tipW
 rw [if_neg (by omega), if_pos (by omega)]
 have : (base + 2 * (keysW zs).idxOf s + 1 - base) / 2 = (keysW zs).idxOf s := by omega
 rw [this, List.getElem?_eq_getElem (List.idxOf_lt_length_of_mem h), List.getElem_idxOf]
 rfl
theorem ixG_lt (hG0 : ∀ n o, G0 n = some o → n < base) {n : Nat} {o : GObj} (h : ixG P kt rt G0 M base zs n = some o) : n < namesW base zs := by
 have := namesW_le base zs
 unfold ixG at h
 split at h
 ·omega
 ·split at h
  ·obtain ⟨p, hp, _⟩ := Option.map_eq_some_iff.1 h
   have := (List.getElem?_eq_some_iff.1 hp).1
   unfold namesW
   omega
  ·cases h
theorem ixN_low {m : Nat} (hm : namesW base zs ≤ m) (s : ByteArray) (c : C) (h : ixN base zs s = some c) : c.low m := by
 unfold ixN at h
 split at h
 ·rename_i hp
  cases h
  refine .list (fun row hrow c hc => ?_) (fun n hn => ?_)
  ·obtain ⟨y, _, rfl⟩ := List.mem_map.1 hrow
   exact Enc.low m y c hc
  ·cases hn
   have := tipW_lt (base := base) hp
   omega
 ·cases h
theorem ixG_new (st : St) (hst : st.nx = base) (hG0 : ∀ n o, G0 n = some o → n ≠ M → st.G n = some o) (hM : M < base) : NewOk st (ixG P kt rt G0 M base zs) (namesW base zs) := fun n o h => by
 have h1 := namesW_le base zs
 unfold ixG at h
 split at h
 ·split at h
  ·rename_i hn
   cases h
   exact .inr ⟨by omega, mapV_low fun s c hc => ixN_low (Nat.le_refl _) s c hc, fun h => by omega⟩
  ·rename_i hn
   exact .inl (hG0 n o h hn)
 ·split at h
  ·obtain ⟨p, hp, rfl⟩ := Option.map_eq_some_iff.1 h
   have := (List.getElem?_eq_some_iff.1 hp).1
   exact .inr ⟨by unfold namesW; omega, trivial, fun _ => rfl⟩
  ·cases h
theorem ixN_start (base : Nat) : ixN base [] = fun _ => none := by
 funext s
 simp [ixN, keysW]
theorem ixG_start (hM : M < base) {n : Nat} {o : GObj} (h : ixG P kt rt G0 M base [] n = some o) : setG G0 M (gmap P kt 0 (α := ByteArray) fun _ => none) n = some o := by
 unfold ixG at h
 split at h
 ·split at h
  ·rename_i hn
   rw [hn, setG_same, ← ixN_start base]; exact h
  ·rename_i hn
   rw [setG_other hn]; exact h
 ·split at h
  ·simp [keysW] at h
  ·cases h
theorem ixN_getD {z : Value} (h : x.2 ∈ keysW zs) : (ixN base zs x.2).getD (constC z) = .list ((placesL zs x.2).map cells) (.tip (tipW base zs x.2)) := by
 simp [ixN, h]
theorem ixN_getD_new (h : x.2 ∉ keysW zs) : (ixN base zs x.2).getD (constC (.slice none 0 0)) = .list [] .nil := by
 simp [ixN, h]; rfl
theorem tipW_old {s : ByteArray} (h : s ∈ keysW zs) : tipW base (zs ++ [x]) s = tipW base zs s := by
 unfold tipW
 by_cases hin : x.2 ∈ keysW zs
 ·rw [keysW_old hin]
 ·rw [keysW_new hin, List.idxOf_append, if_pos h]
theorem tipW_new (h : x.2 ∉ keysW zs) : tipW base (zs ++ [x]) x.2 = namesW base zs + 1 := by
 unfold tipW namesW
 rw [keysW_new h, List.idxOf_append, if_neg h]
 simp
theorem ixN_step_old (h : x.2 ∈ keysW zs) {c : C} (hc : c = .list ((placesL zs x.2 ++ [x.1]).map cells) (.tip (tipW base zs x.2))) : mset (ixN base zs) x.2 c = ixN base (zs ++ [x]) := by
 funext s
 unfold mset ixN
 rw [keysW_old h, placesL_snoc]
 split
 ·rename_i e
  subst e
  rw [if_pos h, if_pos rfl, hc, tipW_old h]
 ·rename_i e
  split
  ·rename_i hp
   rw [if_neg (fun e2 => e e2.symm), tipW_old hp]
  ·rfl
theorem ixN_step_new (h : x.2 ∉ keysW zs) {c : C} (hc : c = .list ((([] : List PlaceD) ++ [x.1]).map cells) (.tip (namesW base zs + 1))) : mset (ixN base zs) x.2 c = ixN base (zs ++ [x]) := by
 funext s
 unfold mset ixN
 rw [keysW_new h, placesL_snoc]
 by_cases e : s = x.2
 ·subst e
  rw [if_pos rfl, if_pos (by simp), if_pos rfl, hc, tipW_new h, placesL_nil h]
 ·have e' : ¬ x.2 = s := fun h => e h.symm
  by_cases hp : s ∈ keysW zs
  ·simp [e, e', hp, tipW_old hp]
  ·simp [e, e', hp]
theorem ixG_keep (hG0 : ∀ n o, G0 n = some o → n < base) {B B' : GObj} {n : Nat} {o : GObj} (h : ixG P kt rt G0 M base zs n = some o) : delG (setG (setG (ixG P kt rt G0 M base zs) (namesW base zs) B) (namesW base zs) B') (namesW base zs) n = some o := by
 have := ixG_lt hG0 h
 rw [delG_other (by omega), setG_other (by omega), setG_other (by omega)]
 exact h
theorem ixG_old (hM : M < base) (hin : x.2 ∈ keysW zs) {len : Nat} (hl : len = (placesL zs x.2 ++ [x.1]).length) {n : Nat} {o : GObj} (h : ixG P kt rt G0 M base (zs ++ [x]) n = some o) :
  setG (setG (ixG P kt rt G0 M base zs) (tipW base zs x.2) (.tip len rt 3)) M (gmap P kt (zs.length + 1) (ixN base (zs ++ [x]))) n = some o := by
 by_cases hn : n = M
 ·subst hn
  rw [setG_same]
  rw [ixG_map hM] at h
  simpa using h
 ·rw [setG_other hn]
  unfold ixG at h
  split at h
  ·rename_i hlt
   have := tipW_ge base zs x.2
   rw [setG_other (by omega), ixG_base hlt hn]
   exact h
  ·rename_i hlt
   split at h
   ·rename_i hodd
    obtain ⟨p, hp, rfl⟩ := Option.map_eq_some_iff.1 h
    rw [keysW_old hin] at hp
    by_cases ht : n = tipW base zs x.2
    ·rw [ht, setG_same]
     unfold tipW at ht
     have e1 : (n - base) / 2 = (keysW zs).idxOf x.2 := by omega
     rw [e1, List.getElem?_eq_getElem (List.idxOf_lt_length_of_mem hin), List.getElem_idxOf] at hp
     cases hp
     rw [placesL_snoc, if_pos rfl, hl]
    ·rw [setG_other ht]
     unfold ixG
     rw [if_neg hlt, if_pos hodd, hp, Option.map_some, placesL_snoc, if_neg (fun e => ht ?_)]
     subst e
     have hnd : (keysW zs).idxOf x.2 = (n - base) / 2 := ?_
     ·unfold tipW; omega
     ·exact nodup_idx (keysW_nodup zs) hp
   ·cases h
theorem ixG_fresh (hG0 : ∀ n o, G0 n = some o → n < base) (hM : M < base) (hin : x.2 ∉ keysW zs) {B : GObj} {len : Nat} (hl : len = 1) {n : Nat} {o : GObj} (h : ixG P kt rt G0 M base (zs ++ [x]) n = some o) :
  setG (setG (setG (ixG P kt rt G0 M base zs) (namesW base zs + 1) B) (namesW base zs + 1) (.tip len rt 3)) M (gmap P kt (zs.length + 1) (ixN base (zs ++ [x]))) n = some o := by
 have hnle := namesW_le base zs
 by_cases hn : n = M
 ·subst hn
  rw [setG_same]
  rw [ixG_map hM] at h
  simpa using h
 ·rw [setG_other hn]
  unfold ixG at h
  split at h
  ·rename_i hlt
   rw [setG_other (by omega), setG_other (by omega), ixG_base hlt hn]
   exact h
  ·rename_i hlt
   split at h
   ·rename_i hodd
    obtain ⟨p, hp, rfl⟩ := Option.map_eq_some_iff.1 h
    rw [keysW_new hin] at hp
    by_cases ht : n = namesW base zs + 1
    ·rw [ht, setG_same]
     have e1 : (n - base) / 2 = (keysW zs).length := by unfold namesW at ht; omega
     rw [e1, List.getElem?_append_right (Nat.le_refl _), Nat.sub_self] at hp
     cases hp
     rw [placesL_snoc, if_pos rfl, hl, placesL_nil hin]
     rfl
    ·have hlt2 := (List.getElem?_eq_some_iff.1 hp).1
     rw [List.length_append, List.length_singleton] at hlt2
     have hlt3 : (n - base) / 2 < (keysW zs).length := by unfold namesW at ht; omega
     rw [List.getElem?_append_left hlt3] at hp
     rw [setG_other ht, setG_other ht]
     unfold ixG
     rw [if_neg hlt, if_pos hodd, hp, Option.map_some, placesL_snoc, if_neg (fun e => hin ?_)]
     rw [e]
     exact List.mem_of_getElem? hp
   ·cases h
theorem namesW_old (h : x.2 ∈ keysW zs) : namesW base (zs ++ [x]) = namesW base zs := by
 unfold namesW
 rw [keysW_old h]
theorem namesW_new (h : x.2 ∉ keysW zs) : namesW base (zs ++ [x]) = namesW base zs + 1 + 1 := by
 unfold namesW
 rw [keysW_new h, List.length_append, List.length_singleton]
 omega
theorem ixF_weak (s : ByteArray) (c : C) (h : ixN base zs s = some c) : ∃ c', ixF zs s = some c' ∧ ∀ (E : Env) (w : World) (v : Value), R E w c v → R E w c' v := by
 unfold ixN at h
 split at h
 ·rename_i hp
  cases h
  exact ⟨lst (placesL zs s), by simp [ixF, hp], fun E w v hr => Wk.tok.2 E w v hr⟩
 ·cases h
theorem ixF_back (s : ByteArray) (c : C) (h : ixF zs s = some c) : ∃ c', ixN base zs s = some c' := by
 unfold ixF at h
 split at h
 ·rename_i hp
  exact ⟨_, if_pos hp⟩
 ·cases h
theorem ixF_get (zs : List PW) (s : ByteArray) : ∃ tok, (ixF zs s).getD (constC (.slice none 0 0)) = .list ((placesL zs s).map cells) tok := by
 unfold ixF
 by_cases h : s ∈ keysW zs
 ·rw [if_pos h]; exact ⟨.none, rfl⟩
 ·rw [if_neg h, placesL_nil h]
  exact ⟨.nil, rfl⟩
theorem ixF_low {m : Nat} (s : ByteArray) (c : C) (h : ixF zs s = some c) : c.low m := by
 unfold ixF at h
 split at h
 ·cases h; exact lst_low _ _
 ·cases h
theorem ixF_glow {m wv : Nat} : (gmap P kt wv (ixF zs)).low m := mapV_low fun x c h => ixF_low x c h
end
end Go.AB
namespace Go.Proofs.YtejhjijbgceklaaGreatDoor
set_option maxRecDepth 10000
open Go.RowKit Go.AB
open Go.AB.Enc (cells)
open Go.PB (Chap TextD PlaceD ReadingD CopyD WayD)
theorem uStrK : Tryz.prog.underlying 9 = some .string := by kernel_rfl
instance : KeyT Tryz.prog 9 ByteArray where
 keyed := Go.Maps.string_keyed uStrK
 has {E w x v} h := by
  have h1 : okV (.string x) = true := R.okVv h
  have h2 : x.size ≤ maxLen := okV_str.1 h1
  simp [keyOf, mapKey, uStrK, KeyV.kv, h2]
set_option maxHeartbeats 4000000 in
theorem leafIndex_pc (t : TextD) (ht : textB t = true) (G : Nat → Option GObj) (nx : Nat) : PC Tryz.prog 58 [.elem [lst t]] G nx fun r' G' nx' => r' = .map nx ∧ G' = setG G nx (gmap Tryz.prog 9 (allP t).length (ixF (allP t))) ∧ nx' = nx + 1 := by
 refine pc_named_of_body (setG G nx (gmap Tryz.prog 9 (allP t).length (ixF (allP t)))) (nx + 1) Tryz.func58 rfl (.map (Nat.lt_succ_self _)) zN (fun hlt => (by (repeat' (refine lowG_set ?_ (by (try dsimp only); omega) ?_)); all_goals (first | exact lowG_base zS | (repeat' (first | exact trivial | refine ⟨?_, ?_⟩ | exact .v | exact .any | refine .elem ?_ | exact lst_low _ _ | exact cells_low _ _ | exact val_low _ _ | exact data_low _ (by (try dsimp only); omega) | exact .box (by (try dsimp only); omega) | exact nil_low | exact low_nil | exact ixF_glow | refine set_low ?_ ?_ | exact .arr (by (try dsimp only); omega) | exact .own (by (try dsimp only); omega) | exact .map (by (try dsimp only); omega) | exact flatC_low _ | refine low_cons ?_ ?_ | exact lst_low _ _))))) ?_
 simp only [Tryz.ntmps58, List.length_cons, List.length_nil, Nat.reduceAdd, Nat.reduceSub]
 refine aw_lt fun hlt => ?_
 dsimp only at hlt
 have hlt0 : ∀ n o, (setG (setG G nx (gmap Tryz.prog 9 0 (α := ByteArray) fun _ => none)) (nx + 1) (.box 1 [.map nx])) n = some o → n < nx + 1 + 1 := fun j o h => by
  simp only [setG] at h
  split at h
  ·omega
  ·split at h
   ·omega
   ·have := hlt j o h; omega
 have hM : nx < nx + 1 + 1 := by omega
 have hlen := allP_len ht
 have hlb : nx + 1 < nx + 1 + 1 ∧ nx + 1 ≠ nx := by omega
 refine aw_seq_k fun K1 hK1 => ?_
 refine aw_region ?_
 refine aops_n rfl (n_as rfl (by constructor)) ?_
 refine aops_nil ?_
 dsimp only [St.put]
 refine hK1 _ ?_
 refine aw_seq_k fun K2 hK2 => ?_
 refine aw_region ?_
 try dsimp only [St.put]
 refine aops_e rfl (e_makeMap (α := ByteArray) rfl ?_)
 try dsimp only [St.put]
 refine aops_e rfl (e_allocC rfl ?_)
 try dsimp only [St.put]
 refine aops_e rfl (e_store_all rfl rfl rfl zG rfl rfl (by rfl) ?_)
 refine aops_nil ?_
 dsimp only [St.put]
 refine hK2 _ ?_
 refine aw_seq_k fun K3 hK3 => ?_
 refine aw_seq_k fun K4 hK4 => ?_
 refine aw_region ?_
 refine aops_n rfl (n_mv rfl (by constructor)) ?_
 try dsimp only [St.put]
 refine aops_e rfl (e_call_one rfl rfl rfl (leafAll_pc t _ _) ?_)
 refine aops_nil ?_
 dsimp only [St.put]
 refine hK4 _ ?_
 refine aw_block ?_
 refine aw_wipe 9 ?_
 simp only [firsts, getA, Nat.reduceAdd, List.getD_cons_zero, List.getD_cons_succ, List.getD_nil, natBeq, Nat.reduceBEq, cond_true, cond_false]
 refine aw_forget ((setG (setG G nx (gmap Tryz.prog 9 0 (α := ByteArray) fun _ => none)) (nx + 1) (.box 1 [.map nx]))) zX ?_
 dsimp only
 refine aw_rangeFuncN (clP) [9, 10] (fun zs => (ixG Tryz.prog 9 45 (setG (setG G nx (gmap Tryz.prog 9 0 (α := ByteArray) fun _ => none)) (nx + 1) (.box 1 [.map nx])) nx (nx + 1 + 1) zs)) (fun zs => namesW (nx + 1 + 1) zs) (fun _ _ (_ : Unit) => False) (fun _ => fun _ => none) (fun _ => 0) (fun x => [(10, .v (.string x.2)), (9, .agg [.v (.int .i64 x.1.ch), .v (.int .i64 x.1.ln), .v (.int .i64 x.1.wd)])]) (all_iter t) rfl rfl (fun _ => rfl) (allP_cl ht) ?_ ?_ (rfl) ?_ (fun _ _ _ h => h.elim) ?_ (fun _ _ _ h => h.elim) (fun lr pre x hx hlen hpre => ?_) (fun _ _ _ _ h => h.elim) ?_
 ·intro pre x
  rfl
 ·exact fun j o h => by
   have h1 := ixG_start hM h
   by_cases e : j = nx
   ·subst e
    rw [setG_same] at h1
    exact (setG_other (by omega)).trans ((setG_same _ _ _).trans h1)
   ·rw [setG_other e] at h1; exact h1
 ·exact fun zs => namesW_le _ _
 ·exact fun zs => ixG_new _ rfl (fun n o h hne => h) hM
 ·have hnle := namesW_le (nx + 1 + 1) pre
  have hkl := keysW_len pre
  have hpl := placesL_len pre x.2
  refine aw_seq_k fun K5 hK5 => ?_
  refine aw_region ?_
  try dsimp only [St.put]
  refine aops_e rfl (e_allocC rfl ?_)
  try dsimp only [St.put]
  refine aops_e rfl (e_store_all rfl rfl rfl zG rfl rfl (by rfl) ?_)
  refine aops_nil ?_
  dsimp only [St.put]
  refine hK5 _ ?_
  refine aw_commitD (i := 4) rfl zG (by first | exact List.cons_ne_nil _ _ | (simp; done) | (simp [putAt]; done)) ?_
  dsimp only
  refine aw_forget (ixG Tryz.prog 9 45 (setG (setG G nx (gmap Tryz.prog 9 0 (α := ByteArray) fun _ => none)) (nx + 1) (.box 1 [.map nx])) nx (nx + 1 + 1) pre) (fun j o h => ixG_keep hlt0 h) ?_
  dsimp only
  refine aw_region ?_
  refine aops_n rfl (n_as rfl (by constructor)) ?_
  refine aops_nil ?_
  dsimp only [St.put]
  show AW _ _ _ _ _
  refine aw_block ?_
  by_cases hin : x.2 ∈ keysW pre
  ·refine aw_draw [(0, none), (1, none), (2, none), (3, none), (4, none), (5, none), (6, none), (7, none), (8, none)] (fun i => [8].contains i) (fun i => [6, 7, 8].contains i) (fun i => [1, 3].contains i) [nx, nx + 1] (by kernel_rfl) (by kernel_rfl) ?_
   try dsimp only [St.put]
   refine acan1_s rfl rfl rfl rfl (s_load_box rfl rfl (ixG_box hlb) (by simp) rfl) ?_
   refine acan1_n rfl rfl rfl rfl (n_mv rfl (by constructor)) ?_
   try dsimp only [St.put]
   refine acan1_s rfl rfl rfl rfl (s_load_box rfl rfl (ixG_box hlb) (by simp) rfl) ?_
   refine acan1_n rfl rfl rfl rfl (n_mv rfl (by constructor)) ?_
   try dsimp only [St.put]
   refine acan1_s rfl rfl rfl rfl (s_lookupC (α := ByteArray) x.2 rfl rfl (ixG_map hM) (by simp) rfl (ixN_getD hin)) ?_
   try dsimp only [St.put]
   refine acan1_s rfl rfl rfl rfl (s_load_agg' rfl rfl rfl) ?_
   refine acan1_two ?_
   try dsimp only [St.put]
   refine acan2_e rfl rfl rfl (e_buildSlice rfl rfl rfl (by decide) (by decide) zR (by decide) ⟨sameD_cons (ixG_map hM) (ixG_map hM) rfl (sameD_cons (ixG_box hlb) (ixG_box hlb) rfl sameD_nil), ?_⟩)
   try dsimp only [St.put]
   refine acan2_e rfl rfl rfl (e_append [x.1] rfl rfl (ixG_tip hin) rfl rfl rfl (by simp only [List.length_cons, List.length_nil]; omega) ⟨sameD_cons (ixG_map hM) ((setG_other (by have := tipW_ge (nx + 1 + 1) pre x.2; omega)).trans (ixG_map hM)) rfl (sameD_cons (ixG_box hlb) ((setG_other (by have := tipW_ge (nx + 1 + 1) pre x.2; omega)).trans (ixG_box hlb)) rfl sameD_nil), ?_⟩ (by simp only [List.length_cons, List.length_nil]; omega))
   try dsimp only [St.put]
   refine acan2_late rfl rfl rfl rfl (e_mapUpdate (α := ByteArray) x.2 rfl rfl rfl ((setG_other (by have := tipW_ge (nx + 1 + 1) pre x.2; omega)).trans (ixG_map hM)) rfl (ixN_step_old hin rfl) ?_)
   refine acan2_nil ?_
   dsimp only [St.put]
   first
    | exact ⟨fun j o h => ixG_old hM hin rfl h, by show namesW (nx + 1 + 1) (pre ++ [x]) ≤ namesW (nx + 1 + 1) pre + 1; rw [namesW_old hin]; exact Nat.le_succ _⟩
    | exact ⟨fun j o h => ixG_fresh hlt0 hM hin rfl h, by show namesW (nx + 1 + 1) (pre ++ [x]) ≤ namesW (nx + 1 + 1) pre + 1 + 1; rw [namesW_new hin]; exact Nat.le_refl _⟩
  ·refine aw_draw [(0, none), (1, none), (2, none), (3, none), (4, none), (5, none), (6, none), (7, none), (8, none)] (fun i => [8].contains i) (fun i => [6, 7, 8].contains i) (fun i => [1, 3].contains i) [nx, nx + 1] (by kernel_rfl) (by kernel_rfl) ?_
   try dsimp only [St.put]
   refine acan1_s rfl rfl rfl rfl (s_load_box rfl rfl (ixG_box hlb) (by simp) rfl) ?_
   refine acan1_n rfl rfl rfl rfl (n_mv rfl (by constructor)) ?_
   try dsimp only [St.put]
   refine acan1_s rfl rfl rfl rfl (s_load_box rfl rfl (ixG_box hlb) (by simp) rfl) ?_
   refine acan1_n rfl rfl rfl rfl (n_mv rfl (by constructor)) ?_
   try dsimp only [St.put]
   refine acan1_s rfl rfl rfl rfl (s_lookupC (α := ByteArray) x.2 rfl rfl (ixG_map hM) (by simp) rfl (ixN_getD_new hin)) ?_
   try dsimp only [St.put]
   refine acan1_s rfl rfl rfl rfl (s_load_agg' rfl rfl rfl) ?_
   refine acan1_two ?_
   try dsimp only [St.put]
   refine acan2_e rfl rfl rfl (e_buildSlice rfl rfl rfl (by decide) (by decide) zR (by decide) ⟨sameD_cons (ixG_map hM) (ixG_map hM) rfl (sameD_cons (ixG_box hlb) (ixG_box hlb) rfl sameD_nil), ?_⟩)
   try dsimp only [St.put]
   refine acan2_e rfl rfl rfl (e_adopt 15 45 3 rfl (by decide) (e_append (xs := ([] : List PlaceD)) [x.1] rfl rfl (setG_same _ _ _) rfl rfl rfl (by simp) ⟨sameD_cons (ixG_map hM) ((setG_other (by dsimp only [St.put]; omega)).trans ((setG_other (by dsimp only [St.put]; omega)).trans (ixG_map hM))) rfl (sameD_cons (ixG_box hlb) ((setG_other (by dsimp only [St.put]; omega)).trans ((setG_other (by dsimp only [St.put]; omega)).trans (ixG_box hlb))) rfl sameD_nil), ?_⟩ (by simp)))
   try dsimp only [St.put]
   refine acan2_late rfl rfl rfl rfl (e_mapUpdate (α := ByteArray) x.2 rfl rfl rfl ((setG_other (by omega)).trans ((setG_other (by omega)).trans (ixG_map hM))) rfl (ixN_step_new hin rfl) ?_)
   refine acan2_nil ?_
   dsimp only [St.put]
   first
    | exact ⟨fun j o h => ixG_old hM hin rfl h, by show namesW (nx + 1 + 1) (pre ++ [x]) ≤ namesW (nx + 1 + 1) pre + 1; rw [namesW_old hin]; exact Nat.le_succ _⟩
    | exact ⟨fun j o h => ixG_fresh hlt0 hM hin rfl h, by show namesW (nx + 1 + 1) (pre ++ [x]) ≤ namesW (nx + 1 + 1) pre + 1 + 1; rw [namesW_new hin]; exact Nat.le_refl _⟩
 ·dsimp only
  refine hK3 _ ?_
  refine aw_seq_k fun K6 hK6 => ?_
  refine aw_map_weak (m' := ixF (allP t)) (ixG_map hM) (fun x c h => ixF_weak x c h) (fun x c h => ixF_back x c h) ?_
  refine aw_region ?_
  try dsimp only [St.put]
  refine aops_s rfl (s_load_box rfl rfl ((setG_other (by omega)).trans (ixG_box hlb)) trivial rfl) ?_
  refine aops_n rfl (n_as rfl (by constructor)) ?_
  refine aops_nil ?_
  dsimp only [St.put]
  refine hK6 _ ?_
  refine aw_ret ?_
  refine ends_1 rfl (by constructor) (by have := namesW_le (nx + 1 + 1) (allP t); dsimp only; omega) (fun n o h => by
 by_cases e : n = nx
 ·subst e
  rw [setG_same] at h
  exact (setG_same _ _ _).trans h
 ·rw [setG_other e] at h
  have := hlt n o h
  refine (setG_other e).trans ((ixG_base (by omega) e).trans ((setG_other (by omega)).trans ((setG_other e).trans h)))) ?_
  rfl
end Go.Proofs.YtejhjijbgceklaaGreatDoor
namespace Go.AB
open Go Go.RowKit
open Go.AB.Enc (cells)
open Go.PB (Chap TextD PlaceD ReadingD CopyD WayD)
/-- so many were counted -/
def ctG (G : Nat → Option GObj) (n : Nat) (zs : List PW) : Nat → Option GObj := setG G n (.box (zs.length + 1) [.v (.int .i64 (zs.length : Int))])
/-- what is left of a number behind so many -/
def dnV (n : Int) (k : Nat) : Int := bif decide (-9223372036854775808 ≤ n - (k : Int)) then n - (k : Int) else n - (k : Int) + 18446744073709551616
theorem dnV_start {n : Int} (h : I64 n) : dnV n 0 = n := by
 unfold I64 at h
 unfold dnV
 rw [decide_eq_true (by omega)]; simp
theorem dnV_step {n : Int} (h : I64 n) {k : Nat} (hk : k ≤ 1000) : IntKind.i64.wrap (dnV n k - 1) = dnV n (k + 1) := by
 unfold I64 at h
 rw [IntKind.wrap_i64]
 unfold dnV
 by_cases h1 : -9223372036854775808 ≤ n - (k : Int)
 ·by_cases h2 : -9223372036854775808 ≤ n - ((k + 1 : Nat) : Int)
  ·rw [decide_eq_true h1, decide_eq_true h2]; simp only [cond_true]; omega
  rw [decide_eq_true h1, decide_eq_false h2]; simp only [cond_true, cond_false]; omega
 have h2 : ¬ -9223372036854775808 ≤ n - ((k + 1 : Nat) : Int) := by omega
 rw [decide_eq_false h1, decide_eq_false h2]; simp only [cond_false]; omega
theorem dnV_zero {n : Int} (h : I64 n) {k : Nat} (hk : k ≤ 1000) : dnV n k = 0 ↔ n = (k : Int) := by
 unfold I64 at h
 unfold dnV
 by_cases h1 : -9223372036854775808 ≤ n - (k : Int)
 ·rw [decide_eq_true h1]; simp only [cond_true]; omega
 rw [decide_eq_false h1]; simp only [cond_false]; omega
/-- so many are left; where the number is used up, nothing is -/
def dnG (G : Nat → Option GObj) (n : Nat) (k : Int) (l : Nat) : Nat → Option GObj := bif decide (0 ≤ k ∧ k < (l : Int)) then setG G n (.arr 0 0 0 0 0 []) else setG G n (.box l [.v (.int .i64 (dnV k l))])
theorem dnG_no {G : Nat → Option GObj} {n : Nat} {k : Int} {l : Nat} (h : ¬ (0 ≤ k ∧ k < (l : Int))) : dnG G n k l = setG G n (.box l [.v (.int .i64 (dnV k l))]) := by unfold dnG; rw [decide_eq_false h]; rfl
theorem dnG_yes {G : Nat → Option GObj} {n : Nat} {k : Int} {l : Nat} (h : 0 ≤ k ∧ k < (l : Int)) : dnG G n k l n = some (.arr 0 0 0 0 0 []) := by unfold dnG; rw [decide_eq_true h]; exact setG_same _ _ _
theorem plAt_prefix {t : TextD} {pre : List PW} {x : PW} (h : pre ++ [x] <+: allP t) : plAt t pre.length = x.1 := by
 obtain ⟨r, hr⟩ := h
 refine plAt_some (x := x) ?_
 rw [← hr, List.append_assoc, List.getElem?_append_right (Nat.le_refl _), Nat.sub_self]; rfl
end Go.AB
namespace Go.Proofs.YtejhjijbgceklaaGreatDoor
set_option maxRecDepth 10000
open Go.RowKit Go.AB
open Go.AB.Enc (cells)
open Go.PB (Chap TextD PlaceD ReadingD CopyD WayD)
theorem leafWords_pure (t : TextD) : Pure Tryz.prog 20 [textC t] (.tup [.v (.int .i64 (wordsN t)), .v (.int .i64 (textEr t))]) := by
 refine pure_of_body Tryz.func20 rfl (fun m => .tup (low_cons .v (low_cons .v low_nil))) fun G nx => ?_
 simp only [Tryz.ntmps20, List.length_cons, List.length_nil, Nat.reduceAdd, Nat.reduceSub]
 refine aw_lt fun hlt => ?_
 dsimp only at hlt
 refine aw_seq_k fun K1 hK1 => ?_
 refine aw_region ?_
 try dsimp only [St.put]
 refine aops_e rfl (e_box rfl rfl (by simp) ?_)
 refine aops_n rfl (n_as rfl (by constructor)) ?_
 refine aops_n rfl (n_as rfl (by constructor)) ?_
 refine aops_nil ?_
 dsimp only [St.put]
 refine hK1 _ ?_
 refine aw_seq_k fun K2 hK2 => ?_
 refine aw_region ?_
 try dsimp only [St.put]
 refine aops_s rfl (s_load_agg' rfl rfl rfl) ?_
 try dsimp only [St.put]
 refine aops_e rfl (e_call_pure rfl rfl rfl (leafOpen_pure t) ?_)
 refine aops_n rfl (n_mv rfl (by constructor)) ?_
 refine aops_n rfl (n_extract rfl rfl rfl) ?_
 refine aops_n rfl (n_extract rfl rfl rfl) ?_
 refine aops_n rfl (n_as rfl (by constructor)) ?_
 refine aops_n rfl (n_as rfl (by constructor)) ?_
 refine aops_nil ?_
 dsimp only [St.put]
 refine hK2 _ ?_
 refine aw_seq_k fun K3 hK3 => ?_
 refine aw_seq_k fun K4 hK4 => ?_
 refine aw_region ?_
 refine aops_n rfl (n_mv rfl (by constructor)) ?_
 refine aops_n rfl (n_neq rfl rfl rfl) ?_
 refine aops_nil ?_
 dsimp only [St.put]
 refine hK4 _ ?_
 refine aw_cond rfl (fun hc => ?_) (fun hc => ?_)
 ·have htx : textB t = false := by
   cases h : textB t
   ·rfl
   simp [textEr, h] at hc
  refine aw_seq_k fun K5 hK5 => ?_
  refine aw_region ?_
  refine aops_n rfl (n_mv rfl (by constructor)) ?_
  refine aops_n rfl (n_as rfl (by constructor)) ?_
  refine aops_n rfl (n_as rfl (by constructor)) ?_
  refine aops_nil ?_
  dsimp only [St.put]
  refine hK5 _ ?_
  refine aw_ret ?_
  refine ends_2 rfl (by constructor) (by constructor) zN zS ?_ ?_
  ·exact vi (by simp [wordsN, htx])
  rfl
 have htx : textB t = true := by
  cases h : textB t
  ·simp [textEr, h] at hc
  rfl
 rw [show openC t = .elem [lst t] by simp [openC, htx]]
 have hlen := allP_len htx
 refine aw_skip ?_
 refine hK3 _ ?_
 refine aw_seq_k fun K6 hK6 => ?_
 refine aw_region ?_
 try dsimp only [St.put]
 refine aops_e rfl (e_allocC rfl ?_)
 try dsimp only [St.put]
 refine aops_e rfl (e_store_all rfl rfl rfl zG rfl rfl (by rfl) ?_)
 refine aops_nil ?_
 dsimp only [St.put]
 refine hK6 _ ?_
 refine aw_seq_k fun K7 hK7 => ?_
 refine aw_seq_k fun K8 hK8 => ?_
 refine aw_region ?_
 refine aops_n rfl (n_mv rfl (by constructor)) ?_
 try dsimp only [St.put]
 refine aops_e rfl (e_call_one rfl rfl rfl (leafAll_pc t _ _) ?_)
 refine aops_nil ?_
 dsimp only [St.put]
 refine hK8 _ ?_
 refine aw_block ?_
 refine aw_wipe 17 ?_
 simp only [firsts, getA, Nat.reduceAdd, List.getD_cons_zero, List.getD_cons_succ, List.getD_nil, natBeq, Nat.reduceBEq, cond_true, cond_false]
 refine aw_forget (setG G nx (.box 1 [.v (.int .i64 0)])) zX ?_
 dsimp only
 refine aw_rangeFunc (clP) [17, 18] (fun zs => ctG G nx zs) (fun _ _ (_ : Unit) => False) (fun _ => fun _ => none) (fun x => [(18, .v (.string x.2)), (17, .agg [.v (.int .i64 x.1.ch), .v (.int .i64 x.1.ln), .v (.int .i64 x.1.wd)])]) (all_iter t) rfl rfl (fun _ => rfl) (allP_cl htx) ?_ ?_ ?_ (fun _ _ _ h => h.elim) (fun lr pre x hx hlen hpre => ?_) (fun _ _ _ _ h => h.elim) (?_)
 ·intro pre x
  rfl
 ·exact fun n o h => h
 ·intro zs
  unfold ctG
  exact zH
 ·unfold ctG
  refine aw_skip ?_
  show AW _ _ _ _ _
  refine aw_block ?_
  refine aw_region ?_
  try dsimp only [St.put]
  refine aops_s rfl (s_load_box rfl rfl zG trivial (by first | rfl | assumption)) ?_
  refine aops_n rfl (n_add rfl rfl rfl (by omega)) ?_
  try dsimp only [St.put]
  refine aops_e rfl (e_store_all rfl rfl rfl zG rfl rfl (by rfl) ?_)
  refine aops_nil ?_
  dsimp only [St.put]
  unfold ABlock RPost
  dsimp only
  simp only [List.length_append, List.length_singleton]
  exact zX
 dsimp only
 unfold ctG
 refine hK7 _ ?_
 refine aw_seq_k fun K9 hK9 => ?_
 refine aw_region ?_
 try dsimp only [St.put]
 refine aops_s rfl (s_load_box rfl rfl zG trivial (by first | rfl | assumption)) ?_
 refine aops_n rfl (n_as rfl (by constructor)) ?_
 refine aops_n rfl (n_as rfl (by constructor)) ?_
 refine aops_nil ?_
 dsimp only [St.put]
 refine hK9 _ ?_
 refine aw_ret ?_
 refine ends_2 rfl (by constructor) (by constructor) zN zS ?_ ?_
 ·exact vi (by simp [wordsN, htx])
 exact vi (by simp [textEr, htx])
theorem leafPlaceOf_pure (t : TextD) (n : Int) : Pure Tryz.prog 21 [textC t, .v (.int .i64 n)] (.tup [val (placeOfV t n), .v (.int .i64 (placeOfEr t n))]) := by
 refine pure_of_body Tryz.func21 rfl (fun m => .tup (low_cons (val_low _ _) (low_cons .v low_nil))) fun G nx => ?_
 simp only [Tryz.ntmps21, List.length_cons, List.length_nil, Nat.reduceAdd, Nat.reduceSub]
 refine aw_lt fun hlt => ?_
 dsimp only at hlt
 refine aw_fit 1 (fun hf => ?_)
 replace hf := i64_fit hf
 unfold I64 at hf
 refine aw_seq_k fun K1 hK1 => ?_
 refine aw_region ?_
 try dsimp only [St.put]
 refine aops_e rfl (e_box rfl rfl (by simp) ?_)
 try dsimp only [St.put]
 refine aops_e rfl (e_box_named rfl rfl ?_)
 try dsimp only [St.put]
 refine aops_e rfl (e_allocC rfl ?_)
 try dsimp only [St.put]
 refine aops_e rfl (e_allocC rfl ?_)
 refine aops_nil ?_
 dsimp only [St.put]
 refine hK1 _ ?_
 refine aw_seq_k fun K2 hK2 => ?_
 refine aw_region ?_
 try dsimp only [St.put]
 refine aops_s rfl (s_load_agg' rfl rfl rfl) ?_
 try dsimp only [St.put]
 refine aops_e rfl (e_call_pure rfl rfl rfl (leafOpen_pure t) ?_)
 refine aops_n rfl (n_mv rfl (by constructor)) ?_
 refine aops_n rfl (n_extract rfl rfl rfl) ?_
 refine aops_n rfl (n_extract rfl rfl rfl) ?_
 refine aops_n rfl (n_as rfl (by constructor)) ?_
 refine aops_n rfl (n_as rfl (by constructor)) ?_
 refine aops_nil ?_
 dsimp only [St.put]
 refine hK2 _ ?_
 refine aw_seq_k fun K3 hK3 => ?_
 refine aw_seq_k fun K4 hK4 => ?_
 refine aw_region ?_
 refine aops_n rfl (n_mv rfl (by constructor)) ?_
 refine aops_n rfl (n_neq rfl rfl rfl) ?_
 refine aops_nil ?_
 dsimp only [St.put]
 refine hK4 _ ?_
 refine aw_cond rfl (fun hc => ?_) (fun hc => ?_)
 ·have htx : textB t = false := by
   cases h : textB t
   ·rfl
   simp [textEr, h] at hc
  refine aw_seq_k fun K5 hK5 => ?_
  refine aw_region ?_
  refine aops_n rfl (n_build rfl rfl) ?_
  refine aops_n rfl (n_mv rfl (by constructor)) ?_
  try dsimp only [St.put]
  refine aops_e rfl (e_store_all rfl rfl rfl zG rfl rfl (by rfl) ?_)
  try dsimp only [St.put]
  refine aops_e rfl (e_store_all rfl rfl rfl zG rfl rfl (by rfl) ?_)
  refine aops_nil ?_
  dsimp only [St.put]
  refine hK5 _ ?_
  refine aw_ret ?_
  refine ends_v2 rfl (rv_box rfl zG (by rfl) (by first | exact List.cons_ne_nil _ _ | (simp; done) | (simp [putAt]; done)) rfl) (rv_box rfl zG (by rfl) (by first | exact List.cons_ne_nil _ _ | (simp; done) | (simp [putAt]; done)) rfl) zN zS ?_ ?_
  ·rw [show placeOfV t n = ⟨0, 0, 0⟩ by simp [placeOfV, placeOfEr, htx]]
   exact zW
  exact Wk.of_eq (vi (by simp [placeOfEr, textEr, htx]))
 have htx : textB t = true := by
  cases h : textB t
  ·simp [textEr, h] at hc
  rfl
 rw [show openC t = .elem [lst t] by simp [openC, htx]]
 have hlen := allP_len htx
 refine aw_skip ?_
 refine hK3 _ ?_
 refine aw_seq_k fun K6 hK6 => ?_
 refine aw_seq_k fun K7 hK7 => ?_
 refine aw_region ?_
 refine aops_n rfl (n_mv rfl (by constructor)) ?_
 try dsimp only [St.put]
 refine aops_e rfl (e_call_one rfl rfl rfl (leafAll_pc t _ _) ?_)
 refine aops_nil ?_
 dsimp only [St.put]
 refine hK7 _ ?_
 refine aw_block ?_
 refine aw_wipe 20 ?_
 simp only [firsts, getA, Nat.reduceAdd, List.getD_cons_zero, List.getD_cons_succ, List.getD_nil, natBeq, Nat.reduceBEq, cond_true, cond_false]
 refine aw_forget (setG (setG (setG G (nx + 1) (.box 0 [.v (.int .i64 0), .v (.int .i64 0), .v (.int .i64 0)])) (nx + 1 + 1) (.box 0 [.v (.int .i64 0)])) nx (.box 0 [.v (.int .i64 n)])) zX ?_
 dsimp only
 refine aw_rangeFunc (clP) [20, 21] (fun zs => dnG (setG (setG G (nx + 1) (.box 0 [.v (.int .i64 0), .v (.int .i64 0), .v (.int .i64 0)])) (nx + 1 + 1) (.box 0 [.v (.int .i64 0)])) nx n zs.length) (fun c zs (y : PlaceD × Nat) => c = .ret ∧ ∃ pre x, zs = pre ++ [x] ∧ y = (x.1, pre.length) ∧ n = (pre.length : Int)) (fun y => setG (setG G (nx + 1) (.box 1 (cells y.1))) (nx + 1 + 1) (.box 1 [.v (.int .i64 0)])) (fun x => [(21, .v (.string x.2)), (20, .agg [.v (.int .i64 x.1.ch), .v (.int .i64 x.1.ln), .v (.int .i64 x.1.wd)])]) (all_iter t) rfl rfl (fun _ => rfl) (allP_cl htx) ?_ ?_ ?_ ?_ (fun lr pre x hx hlen hpre => ?_) ?_ (?_)
 ·intro pre x
  rfl
 ·intro j o h
  rw [dnG_no (by simp), List.length_nil, dnV_start hf] at h
  exact h
 ·intro zs
  unfold dnG
  cases decide (0 ≤ n ∧ n < (zs.length : Int)) <;> exact zH
 ·intro c zs y hy
  exact zH
 ·by_cases hany : 0 ≤ n ∧ n < (pre.length : Int)
  ·exact aw_absurd (dnG_yes hany)
  dsimp only
  rw [dnG_no hany]
  refine aw_region ?_
  try dsimp only [St.put]
  refine aops_e rfl (e_allocC rfl ?_)
  try dsimp only [St.put]
  refine aops_e rfl (e_store_all rfl rfl rfl zG rfl rfl (by rfl) ?_)
  refine aops_nil ?_
  dsimp only [St.put]
  show AW _ _ _ _ _
  refine aw_block ?_
  refine aw_seq_k fun K8 hK8 => ?_
  refine aw_seq_k fun K9 hK9 => ?_
  refine aw_region ?_
  try dsimp only [St.put]
  refine aops_s rfl (s_load_box rfl rfl zG trivial (by first | rfl | assumption)) ?_
  refine aops_n rfl (n_eql rfl rfl rfl) ?_
  refine aops_nil ?_
  dsimp only [St.put]
  refine hK9 _ ?_
  refine aw_cond rfl (fun hc => ?_) (fun hc => ?_)
  ·replace hc := of_decide_eq_true hc
   have hn : n = (pre.length : Int) := (dnV_zero hf (by omega)).1 hc
   refine aw_seq_k fun K10 hK10 => ?_
   refine aw_region ?_
   try dsimp only [St.put]
   refine aops_s rfl (s_load_box_all rfl rfl zG trivial (by rfl)) ?_
   try dsimp only [St.put]
   refine aops_e rfl (e_store_all rfl rfl rfl zG rfl rfl (by rfl) ?_)
   try dsimp only [St.put]
   refine aops_e rfl (e_store_all rfl rfl rfl zG rfl rfl (by rfl) ?_)
   refine aops_nil ?_
   dsimp only [St.put]
   refine hK10 _ ?_
   refine aw_ret ?_
   exact ⟨(x.1, pre.length), ⟨rfl, pre, x, rfl, rfl, hn⟩, zX⟩
  replace hc := of_decide_eq_false hc
  have hn : ¬ n = (pre.length : Int) := fun e => hc ((dnV_zero hf (by omega)).2 e)
  refine aw_skip ?_
  refine hK8 _ ?_
  refine aw_region ?_
  try dsimp only [St.put]
  refine aops_s rfl (s_load_box rfl rfl zG trivial (by first | rfl | assumption)) ?_
  refine aops_n rfl (n_subw rfl rfl rfl) ?_
  try dsimp only [St.put]
  refine aops_e rfl (e_store_all rfl rfl rfl zG rfl rfl (by rfl) ?_)
  refine aops_nil ?_
  dsimp only [St.put]
  unfold ABlock RPost
  dsimp only
  rw [dnG_no (show ¬ (0 ≤ n ∧ n < ((pre ++ [x]).length : Int)) by rw [List.length_append, List.length_singleton]; omega)]
  rw [dnV_step hf (by omega)]
  simp only [List.length_append, List.length_singleton]
  exact zX
 ·rintro c pre y hpf ⟨rfl, pre', x, rfl, rfl, hn⟩
  have hpl := plAt_prefix hpf
  have hlt2 : pre'.length < (allP t).length := by have := hpf.length_le; simp at this; omega
  have hE : placeOfEr t n = 0 := by
   have : inB n 0 (((allP t).length : Int) - 1) = true := inB_true.2 (by omega)
   simp [placeOfEr, htx, this]
  have hV : placeOfV t n = x.1 := by rw [placeOfV, hE, hn]; simpa using hpl
  refine aw_ret ?_
  refine ends_v2 rfl (rv_box rfl zG (by rfl) (by first | exact List.cons_ne_nil _ _ | (simp; done) | (simp [putAt]; done)) rfl) (rv_box rfl zG (by rfl) (by first | exact List.cons_ne_nil _ _ | (simp; done) | (simp [putAt]; done)) rfl) zN zS ?_ ?_
  ·rw [hV]; exact zW
  rw [hE]; exact zW
 dsimp only
 by_cases hin : 0 ≤ n ∧ n < ((allP t).length : Int)
 ·exact hK6 _ (aw_absurd (n := nx) (dnG_yes hin))
 rw [dnG_no hin]
 have hE : placeOfEr t n = 2 := by
  have : inB n 0 (((allP t).length : Int) - 1) = false := by rw [inB_false]; omega
  simp [placeOfEr, htx, this]
 have hV : placeOfV t n = ⟨0, 0, 0⟩ := by simp [placeOfV, hE]
 refine hK6 _ ?_
 refine aw_seq_k fun K11 hK11 => ?_
 refine aw_region ?_
 refine aops_n rfl (n_build rfl rfl) ?_
 try dsimp only [St.put]
 refine aops_e rfl (e_store_all rfl rfl rfl zG rfl rfl (by rfl) ?_)
 try dsimp only [St.put]
 refine aops_e rfl (e_store_all rfl rfl rfl zG rfl rfl (by rfl) ?_)
 refine aops_nil ?_
 dsimp only [St.put]
 refine hK11 _ ?_
 refine aw_ret ?_
 refine ends_v2 rfl (rv_box rfl zG (by rfl) (by first | exact List.cons_ne_nil _ _ | (simp; done) | (simp [putAt]; done)) rfl) (rv_box rfl zG (by rfl) (by first | exact List.cons_ne_nil _ _ | (simp; done) | (simp [putAt]; done)) rfl) zN zS ?_ ?_
 ·rw [hV]; exact zW
 rw [hE]; exact zW
theorem leafPlaces_pure (t : TextD) (s : ByteArray) : Pure Tryz.prog 30 [textC t, .v (.string s)] (.tup [lst (placesV t s), .v (.int .i64 (placesEr t s))]) := by
 refine pure_of_body Tryz.func30 rfl (fun m => .tup (low_cons (lst_low _ _) (low_cons .v low_nil))) fun G nx => ?_
 simp only [Tryz.ntmps30, List.length_cons, List.length_nil, Nat.reduceAdd, Nat.reduceSub]
 refine aw_lt fun hlt => ?_
 dsimp only at hlt
 refine aw_seq_k fun K1 hK1 => ?_
 refine aw_region ?_
 try dsimp only [St.put]
 refine aops_e rfl (e_box rfl rfl (by simp) ?_)
 refine aops_n rfl (n_as rfl (by constructor)) ?_
 refine aops_n rfl (n_as rfl (by constructor)) ?_
 refine aops_nil ?_
 dsimp only [St.put]
 refine hK1 _ ?_
 refine aw_seq_k fun K2 hK2 => ?_
 refine aw_region ?_
 try dsimp only [St.put]
 refine aops_s rfl (s_load_agg' rfl rfl rfl) ?_
 try dsimp only [St.put]
 refine aops_e rfl (e_call_pure rfl rfl rfl (leafOpen_pure t) ?_)
 refine aops_n rfl (n_mv rfl (by constructor)) ?_
 refine aops_n rfl (n_extract rfl rfl rfl) ?_
 refine aops_n rfl (n_extract rfl rfl rfl) ?_
 refine aops_n rfl (n_as rfl (by constructor)) ?_
 refine aops_n rfl (n_as rfl (by constructor)) ?_
 refine aops_nil ?_
 dsimp only [St.put]
 refine hK2 _ ?_
 refine aw_seq_k fun K3 hK3 => ?_
 refine aw_seq_k fun K4 hK4 => ?_
 refine aw_region ?_
 refine aops_n rfl (n_mv rfl (by constructor)) ?_
 refine aops_n rfl (n_neq rfl rfl rfl) ?_
 refine aops_nil ?_
 dsimp only [St.put]
 refine hK4 _ ?_
 refine aw_cond rfl (fun hc => ?_) (fun hc => ?_)
 ·have htx : textB t = false := by
   cases h : textB t
   ·rfl
   simp [textEr, h] at hc
  refine aw_seq_k fun K5 hK5 => ?_
  refine aw_region ?_
  refine aops_n rfl (n_mv rfl (by constructor)) ?_
  refine aops_n rfl (n_as rfl (by constructor)) ?_
  refine aops_n rfl (n_as rfl (by constructor)) ?_
  refine aops_nil ?_
  dsimp only [St.put]
  refine hK5 _ ?_
  refine aw_ret ?_
  refine ends_v2 rfl (rv_tmp (by constructor)) (rv_tmp (by constructor)) zN zS ?_ ?_
  ·rw [show placesV t s = [] by simp [placesV, placesEr, htx]]
   exact zW
  exact Wk.of_eq (vi (by simp [placesEr, textEr, htx]))
 have htx : textB t = true := by
  cases h : textB t
  ·simp [textEr, h] at hc
  rfl
 rw [show openC t = .elem [lst t] by simp [openC, htx]]
 refine aw_skip ?_
 refine hK3 _ ?_
 refine aw_seq_k fun K6 hK6 => ?_
 refine aw_seq_k fun K7 hK7 => ?_
 refine aw_region ?_
 refine aops_n rfl (n_mv rfl (by constructor)) ?_
 try dsimp only [St.put]
 refine aops_e rfl (e_call_pure rfl rfl rfl (word_pure s) ?_)
 refine aops_n rfl (n_not rfl rfl) ?_
 refine aops_nil ?_
 dsimp only [St.put]
 refine hK7 _ ?_
 refine aw_cond rfl (fun hc => ?_) (fun hc => ?_)
 ·have hw : wordB s = false := by simpa using hc
  refine aw_seq_k fun K8 hK8 => ?_
  refine aw_region ?_
  refine aops_n rfl (n_as rfl (by constructor)) ?_
  refine aops_n rfl (n_as rfl (by constructor)) ?_
  refine aops_nil ?_
  dsimp only [St.put]
  refine hK8 _ ?_
  refine aw_ret ?_
  refine ends_v2 rfl (rv_tmp (by constructor)) (rv_tmp (by constructor)) zN zS ?_ ?_
  ·rw [show placesV t s = [] by simp [placesV, placesEr, htx, hw]]
   exact zW
  exact Wk.of_eq (vi (by simp [placesEr, htx, hw]))
 have hw : wordB s = true := by simpa using hc
 have hE : placesEr t s = 0 := by simp [placesEr, htx, hw]
 obtain ⟨tok, hat⟩ := ixF_get (allP t) s
 refine aw_skip ?_
 refine hK6 _ ?_
 refine aw_seq_k fun K9 hK9 => ?_
 refine aw_region ?_
 refine aops_n rfl (n_mv rfl (by constructor)) ?_
 try dsimp only [St.put]
 refine aops_e rfl (e_call_named rfl rfl rfl (leafIndex_pc t htx _ _) ?_)
 refine aops_n rfl (n_mv rfl (by constructor)) ?_
 try dsimp only [St.put]
 refine aops_s rfl (s_lookupC (α := ByteArray) s rfl rfl (setG_same _ _ _) trivial rfl hat) ?_
 refine aops_n rfl (n_as rfl (by constructor)) ?_
 refine aops_n rfl (n_as rfl (by constructor)) ?_
 refine aops_nil ?_
 dsimp only [St.put]
 refine hK9 _ ?_
 refine aw_ret ?_
 refine ends_v2 rfl (rv_tmp (by constructor)) (rv_tmp (by constructor)) zN zS ?_ ?_
 ·rw [show placesV t s = placesL (allP t) s by simp [placesV, hE]]
  exact zW
 exact Wk.of_eq (vi hE.symm)
theorem leafOpen_no (t : TextD) (ht : textB t = false) : Pure Tryz.prog 46 [textC t] (.tup [.v (.pointer none), .v (.int .i64 10)]) := by
 have := leafOpen_pure t
 rwa [show openC t = .v (.pointer none) by simp [openC, ht], show textEr t = 10 by simp [textEr, ht]] at this
theorem leafOpen_yes (t : TextD) (ht : textB t = true) : Pure Tryz.prog 46 [textC t] (.tup [.elem [lst t], .v (.int .i64 0)]) := by
 have := leafOpen_pure t
 rwa [show openC t = .elem [lst t] by simp [openC, ht], show textEr t = 0 by simp [textEr, ht]] at this
end Go.Proofs.YtejhjijbgceklaaGreatDoor
namespace Go.AB
open Go Go.RowKit
open Go.AB.Enc (cells)
open Go.PB (Chap TextD PlaceD ReadingD CopyD WayD)
/-- what a copy has in a place -/
def standR (rs : List ReadingD) (p : PlaceD) (s : ByteArray) : ByteArray := match rs.find? fun r => decide (r.pl = p) && !decide (r.kind = 2) with
 | some r => r.word
 | none => s
noncomputable def standsEr (t : TextD) (c : CopyD) (p : PlaceD) : Int := bif decide (copyEr t c = 0) then (bif placeB t p then 0 else 12) else copyEr t c
noncomputable def standsV (t : TextD) (c : CopyD) (p : PlaceD) : ByteArray := bif decide (standsEr t c p = 0) then standR c.rs p (wordP t p) else ByteArray.empty
def doubtB (cs : List CopyD) (x : PW) : Bool := cs.any fun c => !decide (standR c.rs x.1 x.2 = x.2)
def doubtL (l : List PW) (cs : List CopyD) : List PlaceD := (l.filter (doubtB cs)).map (·.1)
noncomputable def doubtEr (t : TextD) (cs : List CopyD) : Int := bif textB t then (bif decide (cs.length ≤ 5) then (bif cs.all (copyB t) then 0 else 11) else 4) else 10
noncomputable def doubtV (t : TextD) (cs : List CopyD) : List PlaceD := bif decide (doubtEr t cs = 0) then doubtL (allP t) cs else []
theorem standR_none {rs : List ReadingD} {p : PlaceD} {s : ByteArray} (h : ∀ r ∈ rs, ¬ (r.pl = p ∧ r.kind ≠ 2)) : standR rs p s = s := by
 unfold standR
 rw [List.find?_eq_none.2 fun r hr => ?_]
 have := h r hr
 simp only [Bool.and_eq_true, decide_eq_true_eq, Bool.not_eq_true', decide_eq_false_iff_not]
 exact this
theorem standR_at {rs : List ReadingD} {p : PlaceD} {s : ByteArray} {k : Nat} {r : ReadingD} (hk : rs[k]? = some r) (h1 : r.pl = p) (h2 : r.kind ≠ 2) (h : ∀ x ∈ rs.take k, ¬ (x.pl = p ∧ x.kind ≠ 2)) : standR rs p s = r.word := by
 unfold standR
 have e : rs.find? (fun r => decide (r.pl = p) && !decide (r.kind = 2)) = some r := List.find?_eq_some_iff_append.2 ⟨by simp [h1, h2], rs.take k, rs.drop (k + 1), ?_, fun y hy => ?_⟩
 ·rw [e]
 ·obtain ⟨q1, q2⟩ := List.getElem?_eq_some_iff.1 hk
  rw [← q2, ← List.drop_eq_getElem_cons q1, List.take_append_drop]
 ·have := h y hy
  by_cases e1 : y.pl = p
  ·have : y.kind = 2 := Classical.byContradiction fun hn => this ⟨e1, hn⟩
   simp [this]
  ·simp [e1]
theorem doubtL_snoc (l : List PW) (x : PW) (cs : List CopyD) : doubtL (l ++ [x]) cs = doubtL l cs ++ (bif doubtB cs x then [x.1] else []) := by
 unfold doubtL
 rw [List.filter_append, List.map_append]
 cases h : doubtB cs x <;> simp [h]
theorem doubtL_len (l : List PW) (cs : List CopyD) : (doubtL l cs).length ≤ l.length := by unfold doubtL; rw [List.length_map]; exact List.length_filter_le _ _
end Go.AB
namespace Go.AB
open Go Go.RowKit
open Go.AB.Enc (cells)
open Go.PB (Chap TextD PlaceD ReadingD CopyD WayD)
def doubtN (l : List PW) (cs : List CopyD) : Nat := (doubtL l cs).length
theorem doubt_yes {l : List PW} {x : PW} {cs : List CopyD} (h : doubtB cs x = true) : doubtL (l ++ [x]) cs = doubtL l cs ++ [x.1] ∧ doubtN (l ++ [x]) cs = doubtN l cs + 1 := by
 have e : doubtL (l ++ [x]) cs = doubtL l cs ++ [x.1] := by rw [doubtL_snoc, h]; rfl
 exact ⟨e, by unfold doubtN; rw [e]; simp⟩
theorem doubt_no {l : List PW} {x : PW} {cs : List CopyD} (h : doubtB cs x = false) : doubtL (l ++ [x]) cs = doubtL l cs ∧ doubtN (l ++ [x]) cs = doubtN l cs := by
 have e : doubtL (l ++ [x]) cs = doubtL l cs := by rw [doubtL_snoc, h]; simp
 exact ⟨e, by unfold doubtN; rw [e]⟩
theorem placeB_word {t : TextD} {p : PlaceD} (hp : placeB t p = true) : ∃ (l : List ByteArray) (k : Nat), wordsOf t (p.ch, p.ln) = some l ∧ p.wd = (k : Int) ∧ l[k]? = some (wordP t p) := by
 obtain ⟨l, hw, h1, h2⟩ := placeB_true.1 hp
 refine ⟨l, p.wd.toNat, hw, by omega, ?_⟩
 unfold wordP
 rw [hw, Option.getD_some, List.getElem?_eq_getElem (by omega)]
 rfl
end Go.AB
namespace Go.Proofs.YtejhjijbgceklaaGreatDoor
set_option maxRecDepth 10000
open Go.RowKit Go.AB
open Go.AB.Enc (cells)
open Go.PB (Chap TextD PlaceD ReadingD CopyD WayD)
theorem leafCheckCopy_pureN (n : Nat) (t : TextD) (c : CopyD) : PureN n kndF Tryz.prog 31 [textC t, val c] (.v (.int .i64 (copyEr t c))) := fun G nx hF hnx => by
 refine pc_named_of_body (G) (nx) Tryz.func31 rfl (.v) zN (fun hlt => zH) ?_
 simp only [Tryz.ntmps31, List.length_cons, List.length_nil, Nat.reduceAdd, Nat.reduceSub]
 refine aw_lt fun hlt => ?_
 dsimp only at hlt
 refine yS fun _ K1 => ?_
 refine yR ?_
 try dsimp only [St.put]
 refine yB rfl rfl rfl ?_
 try dsimp only [St.put]
 refine yB rfl rfl rfl ?_
 refine yA rfl rfl ?_
 refine yN ?_
 dsimp only [St.put]
 refine K1 _ ?_
 refine yS fun _ K2 => ?_
 refine yR ?_
 try dsimp only [St.put]
 refine aops_s rfl (s_load_agg' rfl rfl rfl) ?_
 refine yE rfl rfl rfl ?_
 try dsimp only [St.put]
 refine aops_e rfl (e_call_n rfl rfl rfl (copied_pureN n t c) zG (by dsimp only; omega) ?_)
 refine yM rfl rfl ?_
 refine yX rfl rfl rfl rfl ?_
 refine yX rfl rfl rfl rfl ?_
 refine yA rfl rfl ?_
 refine yA rfl rfl ?_
 refine yN ?_
 dsimp only [St.put]
 refine K2 _ ?_
 refine yS fun _ K3 => ?_
 refine yR ?_
 refine yM rfl rfl ?_
 refine yA rfl rfl ?_
 refine yN ?_
 dsimp only [St.put]
 refine K3 _ ?_
 refine aw_ret ?_
 refine ends_1 rfl (by constructor) zN zS ?_
 rfl
theorem bookStands_pure (t : TextD) (c : CopyD) (p : PlaceD) (ht : textB t = true) (hp : placeB t p = true) : Pure Tryz.prog 45 [.elem [lst t], val c, val p] (.v (.string (standR c.rs p (wordP t p)))) := by
 refine pure_of_body Tryz.func45 rfl (fun m => .v) fun G nx => ?_
 simp only [Tryz.ntmps45, List.length_cons, List.length_nil, Nat.reduceAdd, Nat.reduceSub]
 refine aw_lt fun hlt => ?_
 dsimp only at hlt
 refine aw_fit 1 (fun hf => ?_)
 have hf1 := (fit_lst.1 (fit_agg.1 hf _ (by exact List.mem_cons_of_mem _ (List.mem_cons_self ..)))).1
 obtain ⟨l, kw, hw, hkw, hlw⟩ := placeB_word hp
 have hLn := leafLine_pure t p ht
 rw [hw, Option.getD_some] at hLn
 refine yS fun _ K1 => ?_
 refine yR ?_
 try dsimp only [St.put]
 refine yB rfl rfl rfl ?_
 try dsimp only [St.put]
 refine yB rfl rfl rfl ?_
 refine yA rfl rfl ?_
 refine yN ?_
 dsimp only [St.put]
 refine K1 _ ?_
 refine yS fun _ K2 => ?_
 refine yS fun _ K3 => ?_
 refine yR ?_
 refine yF rfl rfl rfl rfl ?_
 refine yL rfl rfl rfl ?_
 refine aops_n rfl (n_len' rfl rfl (List.length_map _)) ?_
 refine yM rfl rfl ?_
 refine yN ?_
 dsimp only [St.put]
 refine K3 _ ?_
 refine aw_block ?_
 refine aw_wipe 13 ?_
 simp only [firsts, getA, Nat.reduceAdd, List.getD_cons_zero, List.getD_cons_succ, List.getD_nil, natBeq, Nat.reduceBEq, cond_true, cond_false]
 refine aw_forget (G) zX ?_
 dsimp only
 refine aw_loopD (X := Nat) (fun k => k ≤ c.rs.length ∧ ∀ r ∈ c.rs.take k, ¬ (r.pl = p ∧ r.kind ≠ 2)) (fun k => c.rs.length - k) (fun k => [(8, .any), (12, .v (.int .i64 (k : Int)))]) (fun k G' => G') 0 rfl ?_ ?_ (fun _ _ h => h) ?_ ?_ ?_
 ·exact ⟨Nat.zero_le _, by simp⟩
 ·exact zF
 ·rintro k hI
  exact zL
 ·exact fun _ _ _ _ h => .inl h
 rintro k hI
 dsimp only at hI ⊢
 refine yS fun _ K4 => ?_
 refine yR ?_
 refine aops_n rfl (n_lss rfl rfl rfl) ?_
 refine yN ?_
 dsimp only [St.put]
 refine K4 _ ?_
 refine yS fun _ K5 => ?_
 refine aw_cond rfl (fun hc => ?_) (fun hc => ?_)
 ·replace hc := of_decide_eq_true hc
  obtain ⟨r, hr⟩ : ∃ x, c.rs[k]? = some x := some_of_lt (by omega)
  refine aw_skip ?_
  refine K5 _ ?_
  refine yS fun _ K6 => ?_
  refine aw_block ?_
  refine yS fun _ K7 => ?_
  refine yR ?_
  refine aops_n rfl (n_indexAddr rfl rfl rfl rfl (map_get (by assumption)) (Enc.len _)) ?_
  refine yE rfl rfl rfl ?_
  try dsimp only [St.put]
  refine aops_e rfl (e_allocC rfl ?_)
  try dsimp only [St.put]
  refine aops_e rfl (e_store_all rfl rfl rfl zG rfl rfl (by rfl) ?_)
  refine yN ?_
  dsimp only [St.put]
  refine K7 _ ?_
  refine aw_commitD (i := 8) rfl zG (by first | exact List.cons_ne_nil _ _ | (simp; done) | (simp [putAt]; done)) ?_
  dsimp only
  refine yS fun _ K8 => ?_
  refine yR ?_
  refine yF rfl rfl rfl rfl ?_
  try dsimp only [St.put]
  refine aops_s rfl (c := val r.pl) (s_load_agg (cs := cells r) rfl rfl (show 3 ≤ 5 by decide)) ?_
  refine yE rfl rfl rfl ?_
  refine aops_n rfl (n_agg_eql (x := r.pl) (y := p) rfl rfl rfl) ?_
  refine aops_split (fun hs => ?_) (fun hs => ?_)
  ·have h3 := of_decide_eq_true hs
   refine yM rfl rfl ?_
   refine yF rfl rfl rfl rfl ?_
   refine yL rfl rfl rfl ?_
   refine aops_n rfl (n_neq rfl rfl rfl) ?_
   refine aops_n rfl (n_pt rfl rfl (by constructor)) ?_
   refine yN ?_
   dsimp only [St.put]
   refine K8 _ ?_
   refine aw_cond rfl (fun hc => ?_) (fun hc => ?_)
   ·have h7 : ¬ r.kind = 2 := nd_t hc
    refine yS fun _ K9 => ?_
    refine yR ?_
    refine yF rfl rfl rfl rfl ?_
    refine yL rfl rfl rfl ?_
    refine yA rfl rfl ?_
    refine yN ?_
    dsimp only [St.put]
    refine K9 _ ?_
    refine aw_ret ?_
    refine ends_1 rfl (by constructor) zN zS ?_
    exact vs (standR_at hr h3 h7 hI.2).symm
   have hst : ¬ (r.pl = p ∧ r.kind ≠ 2) := by
    first
     | exact fun h => h3 h.1
     | exact fun h => h.2 (nd_f hc)
   refine aw_skip ?_
   refine K6 _ ?_
   refine yR ?_
   refine aops_n rfl (n_add rfl rfl rfl (by omega)) ?_
   refine yM rfl rfl ?_
   refine yN ?_
   dsimp only [St.put]
   exact ⟨k + 1, by omega, ⟨by omega, mem_take_step (p := fun r : ReadingD => ¬ (r.pl = p ∧ r.kind ≠ 2)) hr hst hI.2⟩, ⟨⟨rfl, rfl⟩, zF, zB, zN, zX⟩⟩
  have h3 := of_decide_eq_false hs
  refine yM rfl rfl ?_
  refine yK rfl ?_
  refine yK rfl ?_
  refine yK rfl ?_
  refine aops_n rfl (n_pf rfl rfl (by constructor)) ?_
  refine yN ?_
  dsimp only [St.put]
  refine K8 _ ?_
  refine aw_cond rfl (fun h => by cases h) (fun _ => ?_)
  have hst : ¬ (r.pl = p ∧ r.kind ≠ 2) := by
   first
    | exact fun h => h3 h.1
    | exact fun h => h.2 (nd_f hc)
  refine aw_skip ?_
  refine K6 _ ?_
  refine yR ?_
  refine aops_n rfl (n_add rfl rfl rfl (by omega)) ?_
  refine yM rfl rfl ?_
  refine yN ?_
  dsimp only [St.put]
  exact ⟨k + 1, by omega, ⟨by omega, mem_take_step (p := fun r : ReadingD => ¬ (r.pl = p ∧ r.kind ≠ 2)) hr hst hI.2⟩, ⟨⟨rfl, rfl⟩, zF, zB, zN, zX⟩⟩
 replace hc := of_decide_eq_false hc
 have hnone : standR c.rs p (wordP t p) = wordP t p := standR_none fun r hr => hI.2 r (by rw [take_all (by omega)]; exact hr)
 refine aw_exit ?_
 refine K2 _ ?_
 refine yS fun _ K10 => ?_
 refine aw_draw [(0, none), (1, none), (3, none), (4, none), (2, none), (5, none), (6, none), (7, none)] (fun i => [6].contains i) (fun i => [2, 6].contains i) (fun i => [0, 3, 5, 7].contains i) [] (by kernel_rfl) (by kernel_rfl) ?_
 refine xM rfl rfl rfl rfl rfl ?_
 try dsimp only [St.put]
 refine acan1_s rfl rfl rfl rfl (s_load_agg' rfl rfl (Enc.len _)) ?_
 refine acan1_n rfl rfl rfl rfl (n_fieldAddr' rfl rfl rfl) ?_
 try dsimp only [St.put]
 refine acan1_s rfl rfl rfl rfl (s_load rfl rfl) ?_
 refine acan1_two ?_
 try dsimp only [St.put]
 refine acan2_e rfl rfl rfl (e_call_pure rfl rfl rfl (hLn) ⟨zD, ?_⟩)
 try dsimp only [St.put]
 refine acan2_n rfl rfl rfl rfl (n_indexAddr (k := kw) rfl rfl rfl hkw (map_get hlw) (Enc.len _)) ?_
 try dsimp only [St.put]
 refine acan2_late rfl rfl rfl rfl (SStep.e' (s_load (D := fun _ => True) (c := .v (.string (wordP t p))) (cs := []) rfl rfl) ?_)
 refine acan2_n rfl rfl rfl rfl (n_as rfl (by constructor)) ?_
 refine acan2_nil ?_
 dsimp only [St.put]
 refine K10 _ ?_
 refine aw_ret ?_
 refine ends_1 rfl (by constructor) zN zS ?_
 exact vs hnone.symm
theorem leafStands_pureN (n : Nat) (t : TextD) (c : CopyD) (p : PlaceD) : PureN n kndF Tryz.prog 17 [textC t, val c, val p] (.tup [.v (.string (standsV t c p)), .v (.int .i64 (standsEr t c p))]) := fun G nx hF hnx => by
 refine pc_named_of_body (G) (nx) Tryz.func17 rfl (.tup (low_cons .v (low_cons .v low_nil))) zN (fun hlt => zH) ?_
 simp only [Tryz.ntmps17, List.length_cons, List.length_nil, Nat.reduceAdd, Nat.reduceSub]
 refine aw_lt fun hlt => ?_
 dsimp only at hlt
 refine yS fun _ K1 => ?_
 refine yR ?_
 try dsimp only [St.put]
 refine yB rfl rfl rfl ?_
 try dsimp only [St.put]
 refine yB rfl rfl rfl ?_
 try dsimp only [St.put]
 refine yB rfl rfl rfl ?_
 refine yA rfl rfl ?_
 refine yA rfl rfl ?_
 refine yN ?_
 dsimp only [St.put]
 refine K1 _ ?_
 refine yS fun _ K2 => ?_
 refine yR ?_
 try dsimp only [St.put]
 refine aops_s rfl (s_load_agg' rfl rfl rfl) ?_
 refine yE rfl rfl rfl ?_
 try dsimp only [St.put]
 refine aops_e rfl (e_call_n rfl rfl rfl (copied_pureN n t c) zG (by dsimp only; omega) ?_)
 refine yM rfl rfl ?_
 refine yX rfl rfl rfl rfl ?_
 refine yX rfl rfl rfl rfl ?_
 refine yA rfl rfl ?_
 refine yA rfl rfl ?_
 refine yN ?_
 dsimp only [St.put]
 refine K2 _ ?_
 refine yS fun _ K3 => ?_
 refine yS fun _ K4 => ?_
 refine yR ?_
 refine yM rfl rfl ?_
 refine aops_n rfl (n_neq rfl rfl rfl) ?_
 refine yN ?_
 dsimp only [St.put]
 refine K4 _ ?_
 refine aw_cond rfl (fun hc => ?_) (fun hc => ?_)
 ·have h0 : copyEr t c ≠ 0 := nd_t hc
  have hE : standsEr t c p = copyEr t c := by simp [standsEr, h0]
  have hV : standsV t c p = ByteArray.empty := by simp [standsV, hE, h0]
  refine yS fun _ K5 => ?_
  refine yR ?_
  refine yM rfl rfl ?_
  refine yA rfl rfl ?_
  refine yA rfl rfl ?_
  refine yN ?_
  dsimp only [St.put]
  refine K5 _ ?_
  refine aw_ret ?_
  refine ends_2 rfl (by constructor) (by constructor) zN zS ?_ ?_
  ·exact vs hV.symm
  exact vi hE.symm
 have h0 : copyEr t c = 0 := nd_f hc
 obtain ⟨htx, _⟩ := copyEr_zero.1 h0
 rw [show copiedC t c = .elem [lst t] by simp [copiedC, h0]]
 refine aw_skip ?_
 refine K3 _ ?_
 refine yS fun _ K6 => ?_
 refine yS fun _ K7 => ?_
 refine yR ?_
 refine yM rfl rfl ?_
 refine yE rfl rfl rfl ?_
 try dsimp only [St.put]
 refine aops_e rfl (e_call_pure rfl rfl rfl (leafHas_pure t p htx) ?_)
 refine aops_n rfl (n_not rfl rfl) ?_
 refine yN ?_
 dsimp only [St.put]
 refine K7 _ ?_
 refine aw_cond rfl (fun hc => ?_) (fun hc => ?_)
 ·have h1 : placeB t p = false := by simpa using hc
  have hE : standsEr t c p = 12 := by simp [standsEr, h0, h1]
  have hV : standsV t c p = ByteArray.empty := by simp [standsV, hE]
  refine yS fun _ K8 => ?_
  refine yR ?_
  refine yA rfl rfl ?_
  refine yA rfl rfl ?_
  refine yN ?_
  dsimp only [St.put]
  refine K8 _ ?_
  refine aw_ret ?_
  refine ends_2 rfl (by constructor) (by constructor) zN zS ?_ ?_
  ·exact vs hV.symm
  exact vi hE.symm
 have h1 : placeB t p = true := by simpa using hc
 have hE : standsEr t c p = 0 := by simp [standsEr, h0, h1]
 have hV : standsV t c p = standR c.rs p (wordP t p) := by simp [standsV, hE]
 refine aw_skip ?_
 refine K6 _ ?_
 refine yS fun _ K9 => ?_
 refine yR ?_
 refine yM rfl rfl ?_
 refine yE rfl rfl rfl ?_
 refine yE rfl rfl rfl ?_
 try dsimp only [St.put]
 refine aops_e rfl (e_call_pure rfl rfl rfl (bookStands_pure t c p htx h1) ?_)
 refine yA rfl rfl ?_
 refine yA rfl rfl ?_
 refine yN ?_
 dsimp only [St.put]
 refine K9 _ ?_
 refine aw_ret ?_
 refine ends_2 rfl (by constructor) (by constructor) zN zS ?_ ?_
 ·exact vs hV.symm
 exact vi hE.symm
theorem IndexCopy_pureN (n : Nat) (xs : List CopyD) (p : CopyD → Bool) (k : Nat) (caps : List C) [Fun Tryz.prog k] (hp : ∀ x ∈ xs, PureN n kndF Tryz.prog k (val x :: caps) (.v (.bool (p x)))) : PureN n kndF Tryz.prog 75 [lst xs, .fn (.func k) caps] (.v (.int .i64 (idxOf p xs))) := fun G nx hF hnx => by
 refine pc_named_of_body (G) (nx) Tryz.func75 rfl (.v) zN (fun hlt => zH) ?_
 simp only [Tryz.ntmps75, List.length_cons, List.length_nil, Nat.reduceAdd, Nat.reduceSub]
 refine aw_lt fun hlt => ?_
 dsimp only at hlt
 refine aw_fit 0 (fun hf => ?_)
 replace hf := (fit_lst.1 hf).1
 refine yS fun _ K1 => ?_
 refine yR ?_
 refine yA rfl rfl ?_
 refine yN ?_
 dsimp only [St.put]
 refine K1 _ ?_
 refine yS fun _ K2 => ?_
 refine yS fun _ K3 => ?_
 refine yR ?_
 refine yM rfl rfl ?_
 refine aops_n rfl (n_len' rfl rfl (List.length_map _)) ?_
 refine yM rfl rfl ?_
 refine yN ?_
 dsimp only [St.put]
 refine K3 _ ?_
 refine aw_block ?_
 refine aw_wipe 9 ?_
 simp only [firsts, getA, Nat.reduceAdd, List.getD_cons_zero, List.getD_cons_succ, List.getD_nil, natBeq, Nat.reduceBEq, cond_true, cond_false]
 refine aw_forget (G) zX ?_
 dsimp only
 refine aw_loopD (X := Nat) (fun k => k ≤ xs.length ∧ ∀ y ∈ xs.take k, p y = false) (fun k => xs.length - k) (fun k => [(4, .any), (5, .any), (8, .v (.int .i64 (k : Int)))]) (fun k G' => G') 0 rfl ?_ ?_ (fun _ _ h => h) ?_ ?_ ?_
 ·exact ⟨by simp, by simp⟩
 ·exact zF
 ·rintro k hI
  exact zL
 ·exact fun _ _ _ _ h => .inl h
 rintro k hI
 dsimp only at hI ⊢
 refine yS fun _ K4 => ?_
 refine yR ?_
 refine aops_n rfl (n_lss rfl rfl rfl) ?_
 refine yN ?_
 dsimp only [St.put]
 refine K4 _ ?_
 refine yS fun _ K5 => ?_
 refine aw_cond rfl (fun hc => ?_) (fun hc => ?_)
 ·replace hc := of_decide_eq_true hc
  obtain ⟨x, hx⟩ : ∃ x, xs[k]? = some x := some_of_lt (by omega)
  refine aw_skip ?_
  refine K5 _ ?_
  refine yS fun _ K6 => ?_
  refine aw_block ?_
  refine yS fun _ K7 => ?_
  refine yR ?_
  refine yM rfl rfl ?_
  refine yA rfl rfl ?_
  refine yN ?_
  dsimp only [St.put]
  refine K7 _ ?_
  refine yS fun _ K8 => ?_
  refine yR ?_
  refine yM rfl rfl ?_
  refine yM rfl rfl ?_
  refine yM rfl rfl ?_
  refine aops_n rfl (n_indexAddr rfl rfl rfl rfl (map_get (by assumption)) (Enc.len _)) ?_
  refine yE rfl rfl rfl ?_
  try dsimp only [St.put]
  refine aops_e rfl (e_call_n rfl rfl rfl (hp x (mem_of_get hx)) zG (by dsimp only; omega) ?_)
  refine yN ?_
  dsimp only [St.put]
  refine K8 _ ?_
  refine aw_cond rfl (fun hc => ?_) (fun hc => ?_)
  ·skip
   refine yS fun _ K9 => ?_
   refine yR ?_
   refine yM rfl rfl ?_
   refine yA rfl rfl ?_
   refine yN ?_
   dsimp only [St.put]
   refine K9 _ ?_
   refine aw_ret ?_
   refine ends_1 rfl (by constructor) zN zS ?_
   exact vi (idxOf_some hx hc hI.2).symm
  skip
  refine aw_skip ?_
  refine K6 _ ?_
  refine yR ?_
  refine aops_n rfl (n_add rfl rfl rfl (by omega)) ?_
  refine yM rfl rfl ?_
  refine yN ?_
  dsimp only [St.put]
  exact ⟨k + 1, by omega, ⟨by omega, mem_take_step (p := fun y => p y = false) hx (by simpa using hc) hI.2⟩, ⟨⟨rfl, rfl⟩, zF, zB, zN, zX⟩⟩
 try replace hc := of_decide_eq_false hc
 refine aw_exit ?_
 refine K2 _ ?_
 refine yS fun _ K10 => ?_
 refine yR ?_
 refine yA rfl rfl ?_
 refine yN ?_
 dsimp only [St.put]
 refine K10 _ ?_
 refine aw_ret ?_
 refine ends_1 rfl (by constructor) zN zS ?_
 exact vi (by
  rw [idxOf_none]
  have := hI.2
  rwa [take_all (by omega)] at this)
theorem ContainsCopy_pureN (n : Nat) (xs : List CopyD) (p : CopyD → Bool) (k : Nat) (caps : List C) [Fun Tryz.prog k] (hp : ∀ x ∈ xs, PureN n kndF Tryz.prog k (val x :: caps) (.v (.bool (p x)))) : PureN n kndF Tryz.prog 47 [lst xs, .fn (.func k) caps] (.v (.bool (xs.any p))) := fun G nx hF hnx => by
 refine pc_named_of_body (G) (nx) Tryz.func47 rfl (.v) zN (fun hlt => zH) ?_
 simp only [Tryz.ntmps47, List.length_cons, List.length_nil, Nat.reduceAdd, Nat.reduceSub]
 refine aw_lt fun hlt => ?_
 dsimp only at hlt
 refine yS fun _ K1 => ?_
 refine yR ?_
 refine yA rfl rfl ?_
 refine yN ?_
 dsimp only [St.put]
 refine K1 _ ?_
 refine yS fun _ K2 => ?_
 refine yR ?_
 refine yM rfl rfl ?_
 refine yM rfl rfl ?_
 try dsimp only [St.put]
 refine aops_e rfl (e_call_n rfl rfl rfl (IndexCopy_pureN n xs p k caps hp) zG (by dsimp only; omega) ?_)
 refine aops_n rfl (n_geq rfl rfl rfl) ?_
 refine yA rfl rfl ?_
 refine yN ?_
 dsimp only [St.put]
 refine K2 _ ?_
 refine aw_ret ?_
 refine ends_1 rfl (by constructor) zN zS ?_
 exact vb idxOf_any
theorem IndexCopy_pure (xs : List CopyD) (p : CopyD → Bool) (k : Nat) (caps : List C) [Fun Tryz.prog k] (hp : ∀ x ∈ xs, Pure Tryz.prog k (val x :: caps) (.v (.bool (p x)))) : Pure Tryz.prog 75 [lst xs, .fn (.func k) caps] (.v (.int .i64 (idxOf p xs))) := by
 refine pure_of_body Tryz.func75 rfl (fun m => .v) fun G nx => ?_
 simp only [Tryz.ntmps75, List.length_cons, List.length_nil, Nat.reduceAdd, Nat.reduceSub]
 refine aw_lt fun hlt => ?_
 dsimp only at hlt
 refine aw_fit 0 (fun hf => ?_)
 replace hf := (fit_lst.1 hf).1
 refine yS fun _ K1 => ?_
 refine yR ?_
 refine yA rfl rfl ?_
 refine yN ?_
 dsimp only [St.put]
 refine K1 _ ?_
 refine yS fun _ K2 => ?_
 refine yS fun _ K3 => ?_
 refine yR ?_
 refine yM rfl rfl ?_
 refine aops_n rfl (n_len' rfl rfl (List.length_map _)) ?_
 refine yM rfl rfl ?_
 refine yN ?_
 dsimp only [St.put]
 refine K3 _ ?_
 refine aw_block ?_
 refine aw_wipe 9 ?_
 simp only [firsts, getA, Nat.reduceAdd, List.getD_cons_zero, List.getD_cons_succ, List.getD_nil, natBeq, Nat.reduceBEq, cond_true, cond_false]
 refine aw_forget (G) zX ?_
 dsimp only
 refine aw_loopD (X := Nat) (fun k => k ≤ xs.length ∧ ∀ y ∈ xs.take k, p y = false) (fun k => xs.length - k) (fun k => [(4, .any), (5, .any), (8, .v (.int .i64 (k : Int)))]) (fun k G' => G') 0 rfl ?_ ?_ (fun _ _ h => h) ?_ ?_ ?_
 ·exact ⟨by simp, by simp⟩
 ·exact zF
 ·rintro k hI
  exact zL
 ·exact fun _ _ _ _ h => .inl h
 rintro k hI
 dsimp only at hI ⊢
 refine yS fun _ K4 => ?_
 refine yR ?_
 refine aops_n rfl (n_lss rfl rfl rfl) ?_
 refine yN ?_
 dsimp only [St.put]
 refine K4 _ ?_
 refine yS fun _ K5 => ?_
 refine aw_cond rfl (fun hc => ?_) (fun hc => ?_)
 ·replace hc := of_decide_eq_true hc
  obtain ⟨x, hx⟩ : ∃ x, xs[k]? = some x := some_of_lt (by omega)
  refine aw_skip ?_
  refine K5 _ ?_
  refine yS fun _ K6 => ?_
  refine aw_block ?_
  refine yS fun _ K7 => ?_
  refine yR ?_
  refine yM rfl rfl ?_
  refine yA rfl rfl ?_
  refine yN ?_
  dsimp only [St.put]
  refine K7 _ ?_
  refine yS fun _ K8 => ?_
  refine yR ?_
  refine yM rfl rfl ?_
  refine yM rfl rfl ?_
  refine yM rfl rfl ?_
  refine aops_n rfl (n_indexAddr rfl rfl rfl rfl (map_get (by assumption)) (Enc.len _)) ?_
  refine yE rfl rfl rfl ?_
  try dsimp only [St.put]
  refine aops_e rfl (e_call_pure rfl rfl rfl (hp x (mem_of_get hx)) ?_)
  refine yN ?_
  dsimp only [St.put]
  refine K8 _ ?_
  refine aw_cond rfl (fun hc => ?_) (fun hc => ?_)
  ·skip
   refine yS fun _ K9 => ?_
   refine yR ?_
   refine yM rfl rfl ?_
   refine yA rfl rfl ?_
   refine yN ?_
   dsimp only [St.put]
   refine K9 _ ?_
   refine aw_ret ?_
   refine ends_1 rfl (by constructor) zN zS ?_
   exact vi (idxOf_some hx hc hI.2).symm
  skip
  refine aw_skip ?_
  refine K6 _ ?_
  refine yR ?_
  refine aops_n rfl (n_add rfl rfl rfl (by omega)) ?_
  refine yM rfl rfl ?_
  refine yN ?_
  dsimp only [St.put]
  exact ⟨k + 1, by omega, ⟨by omega, mem_take_step (p := fun y => p y = false) hx (by simpa using hc) hI.2⟩, ⟨⟨rfl, rfl⟩, zF, zB, zN, zX⟩⟩
 try replace hc := of_decide_eq_false hc
 refine aw_exit ?_
 refine K2 _ ?_
 refine yS fun _ K10 => ?_
 refine yR ?_
 refine yA rfl rfl ?_
 refine yN ?_
 dsimp only [St.put]
 refine K10 _ ?_
 refine aw_ret ?_
 refine ends_1 rfl (by constructor) zN zS ?_
 exact vi (by
  rw [idxOf_none]
  have := hI.2
  rwa [take_all (by omega)] at this)
theorem ContainsCopy_pure (xs : List CopyD) (p : CopyD → Bool) (k : Nat) (caps : List C) [Fun Tryz.prog k] (hp : ∀ x ∈ xs, Pure Tryz.prog k (val x :: caps) (.v (.bool (p x)))) : Pure Tryz.prog 47 [lst xs, .fn (.func k) caps] (.v (.bool (xs.any p))) := by
 refine pure_of_body Tryz.func47 rfl (fun m => .v) fun G nx => ?_
 simp only [Tryz.ntmps47, List.length_cons, List.length_nil, Nat.reduceAdd, Nat.reduceSub]
 refine aw_lt fun hlt => ?_
 dsimp only at hlt
 refine yS fun _ K1 => ?_
 refine yR ?_
 refine yA rfl rfl ?_
 refine yN ?_
 dsimp only [St.put]
 refine K1 _ ?_
 refine yS fun _ K2 => ?_
 refine yR ?_
 refine yM rfl rfl ?_
 refine yM rfl rfl ?_
 try dsimp only [St.put]
 refine aops_e rfl (e_call_pure rfl rfl rfl (IndexCopy_pure xs p k caps hp) ?_)
 refine aops_n rfl (n_geq rfl rfl rfl) ?_
 refine yA rfl rfl ?_
 refine yN ?_
 dsimp only [St.put]
 refine K2 _ ?_
 refine aw_ret ?_
 refine ends_1 rfl (by constructor) zN zS ?_
 exact vb idxOf_any
theorem doubt1_pureN (n : Nat) (t : TextD) (c : CopyD) (ht : textB t = true) : PureN n kndF Tryz.prog 48 [val c, .elem [.elem [lst t]]] (.v (.bool (!copyB t c))) := fun G nx hF hnx => by
 refine pc_named_of_body (G) (nx) Tryz.func48 rfl (.v) zN (fun hlt => zH) ?_
 simp only [Tryz.ntmps48, List.length_cons, List.length_nil, Nat.reduceAdd, Nat.reduceSub]
 refine aw_lt fun hlt => ?_
 dsimp only at hlt
 refine yS fun _ K1 => ?_
 refine yR ?_
 try dsimp only [St.put]
 refine yB rfl rfl rfl ?_
 refine yA rfl rfl ?_
 refine yN ?_
 dsimp only [St.put]
 refine K1 _ ?_
 refine yS fun _ K2 => ?_
 refine yR ?_
 refine yL rfl rfl rfl ?_
 refine yE rfl rfl rfl ?_
 try dsimp only [St.put]
 refine aops_e rfl (e_call_n rfl rfl rfl (bookRight_pureN n t c ht) zG (by dsimp only; omega) ?_)
 refine aops_n rfl (n_not rfl rfl) ?_
 refine yA rfl rfl ?_
 refine yN ?_
 dsimp only [St.put]
 refine K2 _ ?_
 refine aw_ret ?_
 refine ends_1 rfl (by constructor) zN zS ?_
 rfl
theorem doubt2_pure (t : TextD) (c : CopyD) (x : PW) (ht : textB t = true) (hx : x ∈ allP t) : Pure Tryz.prog 51 [val c, .elem [.elem [lst t]], .elem (cells x.1), .elem [.v (.string x.2)]] (.v (.bool (!decide (standR c.rs x.1 x.2 = x.2)))) := by
 refine pure_of_body Tryz.func51 rfl (fun m => .v) fun G nx => ?_
 simp only [Tryz.ntmps51, List.length_cons, List.length_nil, Nat.reduceAdd, Nat.reduceSub]
 refine aw_lt fun hlt => ?_
 dsimp only at hlt
 have hp : placeB t x.1 = true := allP_mem.1 (List.mem_map.2 ⟨x, hx, rfl⟩)
 have hS := bookStands_pure t c x.1 ht hp
 rw [allP_wordP hx] at hS
 refine yS fun _ K1 => ?_
 refine yR ?_
 try dsimp only [St.put]
 refine yB rfl rfl rfl ?_
 refine yA rfl rfl ?_
 refine yN ?_
 dsimp only [St.put]
 refine K1 _ ?_
 refine yS fun _ K2 => ?_
 refine aw_draw [(0, none), (1, none), (2, none), (4, none), (3, none), (5, none), (6, none)] (fun i => [].contains i) (fun i => [3].contains i) (fun i => [5, 6].contains i) [] (by kernel_rfl) (by kernel_rfl) ?_
 try dsimp only [St.put]
 refine acan1_s rfl rfl rfl rfl (s_load rfl rfl) ?_
 try dsimp only [St.put]
 refine acan1_s rfl rfl rfl rfl (s_load_agg' rfl rfl (Enc.len _)) ?_
 try dsimp only [St.put]
 refine acan1_s rfl rfl rfl rfl (s_load_agg' rfl rfl (Enc.len _)) ?_
 try dsimp only [St.put]
 refine acan1_s rfl rfl rfl rfl (s_load rfl rfl) ?_
 refine acan1_two ?_
 try dsimp only [St.put]
 refine acan2_e rfl rfl rfl (e_call_pure rfl rfl rfl (hS) ⟨zD, ?_⟩)
 refine acan2_n rfl rfl rfl rfl (n_strne rfl rfl rfl) ?_
 refine acan2_n rfl rfl rfl rfl (n_as rfl (by constructor)) ?_
 refine acan2_nil ?_
 dsimp only [St.put]
 refine K2 _ ?_
 refine aw_ret ?_
 refine ends_1 rfl (by constructor) zN zS ?_
 rfl
theorem leafDoubt_no (n : Nat) (t : TextD) (cs : List CopyD) (htx : textB t = false) : PureN n kndF Tryz.prog 19 [textC t, lst cs] (.tup [lst ([] : List PlaceD), .v (.int .i64 10)]) := fun G nx hF hnx => by
 refine pc_named_of_body (G) (nx) Tryz.func19 rfl (.tup (low_cons (lst_low _ _) (low_cons .v low_nil))) zN (fun hlt => zH) ?_
 simp only [Tryz.ntmps19, List.length_cons, List.length_nil, Nat.reduceAdd, Nat.reduceSub]
 refine aw_lt fun hlt => ?_
 dsimp only at hlt
 refine yS fun _ K1 => ?_
 refine yR ?_
 try dsimp only [St.put]
 refine yB rfl rfl rfl ?_
 try dsimp only [St.put]
 refine yB rfl rfl rfl ?_
 refine yA rfl rfl ?_
 refine yA rfl rfl ?_
 refine yN ?_
 dsimp only [St.put]
 refine K1 _ ?_
 refine yS fun _ K2 => ?_
 refine yR ?_
 try dsimp only [St.put]
 refine aops_s rfl (s_load_agg' rfl rfl rfl) ?_
 try dsimp only [St.put]
 refine aops_e rfl (e_call_pure rfl rfl rfl (leafOpen_no t htx) ?_)
 refine yM rfl rfl ?_
 refine yX rfl rfl rfl rfl ?_
 refine yX rfl rfl rfl rfl ?_
 try dsimp only [St.put]
 refine aops_e rfl (e_allocC rfl ?_)
 try dsimp only [St.put]
 refine aops_e rfl (e_store_all rfl rfl rfl zG rfl rfl (by rfl) ?_)
 refine yA rfl rfl ?_
 refine yN ?_
 dsimp only [St.put]
 refine K2 _ ?_
 refine aw_commitD (i := 6) rfl zG (by first | exact List.cons_ne_nil _ _ | (simp; done) | (simp [putAt]; done)) ?_
 dsimp only
 refine yS fun _ K3 => ?_
 refine yS fun _ K4 => ?_
 refine yR ?_
 refine yM rfl rfl ?_
 refine aops_n rfl (n_bool (c := true) (n_neq rfl rfl rfl) (not_dec_t (by decide))) ?_
 refine yN ?_
 dsimp only [St.put]
 refine K4 _ ?_
 refine aw_cond rfl (fun _ => ?_) (fun h => by cases h)
 refine yS fun _ K5 => ?_
 refine yR ?_
 refine yM rfl rfl ?_
 refine yA rfl rfl ?_
 refine yA rfl rfl ?_
 refine yN ?_
 dsimp only [St.put]
 refine K5 _ ?_
 refine aw_ret ?_
 refine ends_v2 rfl (rv_tmp (by constructor)) (rv_tmp (by constructor)) zN zS ?_ ?_
 ·exact zW
 exact zW
set_option maxHeartbeats 2000000 in
theorem leafDoubt_yes (n : Nat) (t : TextD) (cs : List CopyD) (htx : textB t = true) : PureN n kndF Tryz.prog 19 [textC t, lst cs] (.tup [lst (doubtV t cs), .v (.int .i64 (doubtEr t cs))]) := fun G nx hF hnx => by
 refine pc_named_of_body (G) (nx) Tryz.func19 rfl (.tup (low_cons (lst_low _ _) (low_cons .v low_nil))) zN (fun hlt => zH) ?_
 simp only [Tryz.ntmps19, List.length_cons, List.length_nil, Nat.reduceAdd, Nat.reduceSub]
 refine aw_lt fun hlt => ?_
 dsimp only at hlt
 have hlen := allP_len htx
 refine yS fun _ K1 => ?_
 refine yR ?_
 try dsimp only [St.put]
 refine yB rfl rfl rfl ?_
 try dsimp only [St.put]
 refine yB rfl rfl rfl ?_
 refine yA rfl rfl ?_
 refine yA rfl rfl ?_
 refine yN ?_
 dsimp only [St.put]
 refine K1 _ ?_
 refine yS fun _ K2 => ?_
 refine yR ?_
 try dsimp only [St.put]
 refine aops_s rfl (s_load_agg' rfl rfl rfl) ?_
 try dsimp only [St.put]
 refine aops_e rfl (e_call_pure rfl rfl rfl (leafOpen_yes t htx) ?_)
 refine yM rfl rfl ?_
 refine yX rfl rfl rfl rfl ?_
 refine yX rfl rfl rfl rfl ?_
 try dsimp only [St.put]
 refine aops_e rfl (e_allocC rfl ?_)
 try dsimp only [St.put]
 refine aops_e rfl (e_store_all rfl rfl rfl zG rfl rfl (by rfl) ?_)
 refine yA rfl rfl ?_
 refine yN ?_
 dsimp only [St.put]
 refine K2 _ ?_
 refine aw_commitD (i := 6) rfl zG (by first | exact List.cons_ne_nil _ _ | (simp; done) | (simp [putAt]; done)) ?_
 dsimp only
 refine yS fun _ K3 => ?_
 refine yS fun _ K4 => ?_
 refine yR ?_
 refine yM rfl rfl ?_
 refine aops_n rfl (n_bool (c := false) (n_neq rfl rfl rfl) (not_dec_f rfl)) ?_
 refine yN ?_
 dsimp only [St.put]
 refine K4 _ ?_
 refine aw_cond rfl (fun h => by cases h) (fun _ => ?_)
 refine aw_skip ?_
 refine K3 _ ?_
 refine yS fun _ K5 => ?_
 refine yS fun _ K6 => ?_
 refine yR ?_
 refine yL rfl rfl rfl ?_
 refine aops_n rfl (n_len' rfl rfl (List.length_map _)) ?_
 refine aops_n rfl (n_gtr rfl rfl rfl) ?_
 refine yN ?_
 dsimp only [St.put]
 refine K6 _ ?_
 refine aw_cond rfl (fun hc => ?_) (fun hc => ?_)
 ·replace hc := of_decide_eq_true hc
  have hE : doubtEr t cs = 4 := by simp [doubtEr, htx, show ¬ cs.length ≤ 5 by omega]
  refine yS fun _ K7 => ?_
  refine yR ?_
  refine yA rfl rfl ?_
  refine yA rfl rfl ?_
  refine yN ?_
  dsimp only [St.put]
  refine K7 _ ?_
  refine aw_ret ?_
  refine ends_v2 rfl (rv_tmp (by constructor)) (rv_tmp (by constructor)) zN zS ?_ ?_
  ·rw [show doubtV t cs = [] by simp [doubtV, hE]]
   exact zW
  rw [hE]; exact zW
 replace hc := of_decide_eq_false hc
 have hl5 : cs.length ≤ 5 := by omega
 refine aw_skip ?_
 refine K5 _ ?_
 refine yS fun _ K8 => ?_
 refine yS fun _ K9 => ?_
 refine yR ?_
 refine yL rfl rfl rfl ?_
 refine aops_n rfl (n_makeFunc rfl rfl) ?_
 try dsimp only [St.put]
 refine aops_e rfl (e_call_n rfl rfl rfl (ContainsCopy_pureN n cs (fun c => !copyB t c) _ _ fun c _ => doubt1_pureN n t c htx) zG (by dsimp only; omega) ?_)
 refine yN ?_
 dsimp only [St.put]
 refine K9 _ ?_
 refine aw_cond rfl (fun hc => ?_) (fun hc => ?_)
 ·have hE : doubtEr t cs = 11 := by
   have : cs.all (copyB t) = false := by
    obtain ⟨c, h1, h2⟩ := List.any_eq_true.1 hc
    exact List.all_eq_false.2 ⟨c, h1, by simpa using h2⟩
   simp [doubtEr, htx, hl5, this]
  refine yS fun _ K10 => ?_
  refine yR ?_
  refine yA rfl rfl ?_
  refine yA rfl rfl ?_
  refine yN ?_
  dsimp only [St.put]
  refine K10 _ ?_
  refine aw_ret ?_
  refine ends_v2 rfl (rv_tmp (by constructor)) (rv_tmp (by constructor)) zN zS ?_ ?_
  ·rw [show doubtV t cs = [] by simp [doubtV, hE]]
   exact zW
  rw [hE]; exact zW
 have hE : doubtEr t cs = 0 := by
  have : cs.all (copyB t) = true := List.all_eq_true.2 fun c h1 => by
   have := List.any_eq_false.1 hc c h1
   simpa using this
  simp [doubtEr, htx, hl5, this]
 refine aw_skip ?_
 refine K8 _ ?_
 refine yS fun _ K11 => ?_
 refine yR ?_
 try dsimp only [St.put]
 refine aops_e rfl (e_allocC rfl ?_)
 refine yN ?_
 dsimp only [St.put]
 refine K11 _ ?_
 refine aw_adopt_box (nx + 1) 0 _ _ 45 3 zG rfl (by decide) ?_
 dsimp only [List.set_cons_zero, List.set_cons_succ]
 refine yS fun _ K12 => ?_
 refine yS fun _ K13 => ?_
 refine yR ?_
 refine yL rfl rfl rfl ?_
 try dsimp only [St.put]
 refine aops_e rfl (e_call_one rfl rfl rfl (leafAll_pc t _ _) ?_)
 refine yN ?_
 dsimp only [St.put]
 refine K13 _ ?_
 refine aw_block ?_
 refine aw_wipe 27 ?_
 simp only [firsts, getA, Nat.reduceAdd, List.getD_cons_zero, List.getD_cons_succ, List.getD_nil, natBeq, Nat.reduceBEq, cond_true, cond_false]
 refine aw_forget ((setG (setG G (nx + 1) (.box (doubtN [] cs) [.list ((doubtL [] cs).map cells) (.tip (nx + 1 + 1))])) (nx + 1 + 1) (.tip (doubtL [] cs).length 45 3))) zX ?_
 dsimp only
 refine aw_rangeFunc (clP) [27, 28] (fun zs => (setG (setG G (nx + 1) (.box (doubtN zs cs) [.list ((doubtL zs cs).map cells) (.tip (nx + 1 + 1))])) (nx + 1 + 1) (.tip (doubtL zs cs).length 45 3))) (fun _ _ (_ : Unit) => False) (fun _ => fun _ => none) (fun x => [(28, .v (.string x.2)), (27, .agg [.v (.int .i64 x.1.ch), .v (.int .i64 x.1.ln), .v (.int .i64 x.1.wd)])]) (all_iter t) rfl rfl (fun _ => rfl) (allP_cl htx) ?_ ?_ ?_ (fun _ _ _ h => h.elim) (fun lr pre x hx hlen hpre => ?_) (fun _ _ _ _ h => h.elim) (?_)
 ·intro pre x
  rfl
 ·exact fun n o h => h
 ·intro zs
  exact zH
 ·have hdl := doubtL_len pre cs
  refine yS fun _ K14 => ?_
  refine yR ?_
  try dsimp only [St.put]
  refine aops_e rfl (e_allocC rfl ?_)
  try dsimp only [St.put]
  refine aops_e rfl (e_store_all rfl rfl rfl zG rfl rfl (by rfl) ?_)
  refine yN ?_
  dsimp only [St.put]
  refine K14 _ ?_
  refine aw_commitD (i := 9) rfl zG (by first | exact List.cons_ne_nil _ _ | (simp; done) | (simp [putAt]; done)) ?_
  dsimp only
  refine yR ?_
  try dsimp only [St.put]
  refine aops_e rfl (e_allocC rfl ?_)
  try dsimp only [St.put]
  refine aops_e rfl (e_store_all rfl rfl rfl zG rfl rfl (by rfl) ?_)
  refine yN ?_
  dsimp only [St.put]
  show AW _ _ _ _ _
  refine aw_commitD (i := 10) rfl zG (by first | exact List.cons_ne_nil _ _ | (simp; done) | (simp [putAt]; done)) ?_
  dsimp only
  refine aw_block ?_
  refine yS fun _ K15 => ?_
  refine yR ?_
  refine yL rfl rfl rfl ?_
  refine aops_n rfl (n_makeFunc rfl rfl) ?_
  try dsimp only [St.put]
  refine aops_e rfl (e_call_pure rfl rfl rfl (ContainsCopy_pure cs (fun c => !decide (standR c.rs x.1 x.2 = x.2)) _ _ fun c _ => doubt2_pure t c x htx hx) ?_)
  refine yN ?_
  dsimp only [St.put]
  refine K15 _ ?_
  refine aw_cond rfl (fun hc => ?_) (fun hc => ?_)
  ·obtain ⟨hd1, hd2⟩ := doubt_yes (l := pre) (show doubtB cs x = true from hc)
   refine yR ?_
   try dsimp only [St.put]
   refine aops_s rfl (s_load_box rfl rfl zG trivial (by first | rfl | assumption)) ?_
   try dsimp only [St.put]
   refine aops_s rfl (s_load_agg' rfl rfl rfl) ?_
   try dsimp only [St.put]
   refine aops_e rfl (e_buildSlice rfl rfl rfl (by decide) (by decide) zR (by decide) ?_)
   try dsimp only [St.put]
   refine aops_e rfl (e_append ([x.1]) rfl rfl zG (by first | rfl | simp) rfl rfl zA ?_ zA)
   try dsimp only [St.put]
   refine aops_e rfl (e_store_all rfl rfl rfl zG rfl rfl (by rfl) ?_)
   refine yN ?_
   dsimp only [St.put]
   unfold RPost
   dsimp only
   rw [hd1, hd2]
   exact zX
  obtain ⟨hd1, hd2⟩ := doubt_no (l := pre) (show doubtB cs x = false from hc)
  refine aw_skip ?_
  unfold RPost
  dsimp only
  rw [hd1, hd2]
  exact zX
 dsimp only
 refine K12 _ ?_
 refine yS fun _ K16 => ?_
 refine yR ?_
 try dsimp only [St.put]
 refine aops_s rfl (s_load_box rfl rfl zG trivial (by first | rfl | assumption)) ?_
 refine yA rfl rfl ?_
 refine yA rfl rfl ?_
 refine yN ?_
 dsimp only [St.put]
 refine K16 _ ?_
 refine aw_ret ?_
 refine ends_v2 rfl (rv_tmp (by constructor)) (rv_tmp (by constructor)) zN zS ?_ ?_
 ·rw [show doubtV t cs = doubtL (allP t) cs by simp [doubtV, hE]]
  exact zW
 rw [hE]; exact zW
theorem leafDoubt_pureN (n : Nat) (t : TextD) (cs : List CopyD) : PureN n kndF Tryz.prog 19 [textC t, lst cs] (.tup [lst (doubtV t cs), .v (.int .i64 (doubtEr t cs))]) := by
 cases htx : textB t
 ·have hE : doubtEr t cs = 10 := by simp [doubtEr, htx]
  rw [show doubtV t cs = [] by simp [doubtV, hE], hE]
  exact leafDoubt_no n t cs htx
 exact leafDoubt_yes n t cs htx
end Go.Proofs.YtejhjijbgceklaaGreatDoor
