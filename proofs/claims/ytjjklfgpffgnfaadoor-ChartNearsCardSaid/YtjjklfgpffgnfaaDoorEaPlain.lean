/-
  Charts in plain words: references, the places to which they lead, lines that lead from one edition to another one.
-/
import Derived.Test.YtjjklfgpffgnfaaDoorDaPlain
namespace Go.AB
open Go Go.RowKit
open Go.AB.Enc (cells)
open Go.PB (Chap TextD PlaceD ReadingD CopyD WayD)
structure RefD where
  ch : Int
  ln : Int
  wd : Int
  deriving DecidableEq
instance : Enc RefD := ⟨fun x => [.v (.int .i64 x.ch), .v (.int .i64 x.ln), .v (.int .i64 x.wd)], 3, fun _ => rfl, fun m x c h => by
  simp only [List.mem_cons, List.not_mem_nil, or_false] at h; rcases h with rfl | rfl | rfl <;> exact .v, fun x c h => by
  simp only [List.mem_cons, List.not_mem_nil, or_false] at h; rcases h with rfl | rfl | rfl <;> rfl⟩
/-! ### The words of a line -/
def wordsOf (t : TextD) (p : L2) : Option (List ByteArray) := bif inB p.1 0 ((t.length : Int) - 1) && inB p.2 0 ((nlines t p.1 : Int) - 1) then (t[p.1.toNat]?).bind (fun c => c.lines[p.2.toNat]?) else none
def placeB (t : TextD) (p : PlaceD) : Bool := match wordsOf t (p.ch, p.ln) with
  | some l => inB p.wd 0 ((l.length : Int) - 1)
  | none => false
theorem wordsOf_get {t : TextD} {k n : Nat} {c : Chap} {l : List ByteArray} (hc : t[k]? = some c) (hl : c.lines[n]? = some l) : wordsOf t ((k : Int), (n : Int)) = some l := by
  have h1 := (List.getElem?_eq_some_iff.1 hc).1
  have h2 := (List.getElem?_eq_some_iff.1 hl).1
  have h3 : nlines t (k : Int) = c.lines.length := nlines_get rfl hc
  have e1 : inB (k : Int) 0 ((t.length : Int) - 1) = true := inB_true.2 (by omega)
  have e2 : inB (n : Int) 0 ((nlines t (k : Int) : Int) - 1) = true := inB_true.2 (by omega)
  simp only [wordsOf, e1, e2, Bool.and_self, cond_true, Int.toNat_natCast, hc, Option.bind_some, hl]
theorem wordsOf_some {t : TextD} {p : L2} {l : List ByteArray} (h : wordsOf t p = some l) : ∃ (k n : Nat) (c : Chap), p = ((k : Int), (n : Int)) ∧ t[k]? = some c ∧ c.lines[n]? = some l := by
  unfold wordsOf at h
  cases h1 : inB p.1 0 ((t.length : Int) - 1) with
  | false => rw [h1] at h; cases h
  | true =>
    cases h2 : inB p.2 0 ((nlines t p.1 : Int) - 1) with
    | false => rw [h1, h2] at h; cases h
    | true =>
      rw [h1, h2] at h
      simp only [Bool.and_self, cond_true] at h
      rw [inB_true] at h1 h2
      cases hc : t[p.1.toNat]? with
      | none => rw [hc] at h; cases h
      | some c =>
        rw [hc, Option.bind_some] at h
        exact ⟨p.1.toNat, p.2.toNat, c, by rw [Prod.ext_iff]; constructor <;> (dsimp only; omega), hc, h⟩
theorem placeB_true {t : TextD} {p : PlaceD} : placeB t p = true ↔ ∃ l, wordsOf t (p.ch, p.ln) = some l ∧ 0 ≤ p.wd ∧ p.wd < l.length := by
  unfold placeB
  cases h : wordsOf t (p.ch, p.ln) with
  | none => simp
  | some l =>
    simp only [inB_true, Option.some.injEq]
    constructor
    · exact fun h => ⟨l, rfl, by omega, by omega⟩
    · rintro ⟨l', rfl, h1, h2⟩; omega
theorem words_bd {t : TextD} (ht : textB t = true) {p : L2} {l : List ByteArray} (h : wordsOf t p = some l) : 0 ≤ p.1 ∧ p.1 ≤ 5 ∧ 0 ≤ p.2 ∧ p.2 ≤ 9 ∧ 1 ≤ l.length ∧ l.length ≤ 10 := by
  obtain ⟨k, n, c, rfl, hc, hl⟩ := wordsOf_some h
  obtain ⟨h1, h2, h3⟩ := text_ok ht
  obtain ⟨h4, h5, h6⟩ := h3 c (List.mem_of_getElem? hc)
  have h7 := h6 l (List.mem_of_getElem? hl)
  have h8 := (List.getElem?_eq_some_iff.1 hc).1
  have h9 := (List.getElem?_eq_some_iff.1 hl).1
  dsimp only
  omega
theorem mem_rows {t : TextD} {ss : List StretchD} {r : RowD} : r ∈ rowsT t ss ↔ ∃ p l, wordsOf t p = some l ∧ r = rowOf ss p l.length := by
  unfold rowsT
  constructor
  · intro h
    obtain ⟨l, hl, hr⟩ := List.mem_flatten.1 h
    obtain ⟨k, hk, rfl⟩ := List.mem_mapIdx.1 hl
    obtain ⟨n, hn, rfl⟩ := List.mem_mapIdx.1 hr
    exact ⟨_, _, wordsOf_get (List.getElem?_eq_getElem hk) (List.getElem?_eq_getElem hn), rfl⟩
  · rintro ⟨p, l, hw, rfl⟩
    obtain ⟨k, n, c, rfl, hc, hl⟩ := wordsOf_some hw
    have h8 := (List.getElem?_eq_some_iff.1 hc)
    have h9 := (List.getElem?_eq_some_iff.1 hl)
    refine List.mem_flatten.2 ⟨_, List.mem_mapIdx.2 ⟨k, h8.1, rfl⟩, List.mem_mapIdx.2 ⟨n, by rw [h8.2]; exact h9.1, ?_⟩⟩
    congr 2
    simp only [h8.2, h9.2]
theorem mem_lines {t : TextD} {p : L2} : p ∈ linesT t ↔ ∃ l, wordsOf t p = some l := by
  rw [← rows_lines t [], List.mem_map]
  constructor
  · rintro ⟨r, hr, rfl⟩
    obtain ⟨q, l, hw, rfl⟩ := mem_rows.1 hr
    exact ⟨l, hw⟩
  · rintro ⟨l, hw⟩
    exact ⟨_, mem_rows.2 ⟨p, l, hw, rfl⟩, rfl⟩
theorem asOf_words {t : TextD} {ss : List StretchD} (h : Sound t ss) {p v : L2} (hv : asOf ss p = some v) : ∃ l, wordsOf t p = some l := by
  obtain ⟨r, hr, h1, _⟩ := asOf_line h hv
  obtain ⟨q, l, hw, rfl⟩ := mem_rows.1 hr
  exact ⟨l, h1 ▸ hw⟩

/-! ### References -/
def atR (l : List RowD) (p : PlaceD) : RowD := (l.find? fun r => decide (r.ch = p.ch) && decide (r.ln = p.ln)).getD ⟨0, 0, 0, 0, 0⟩
theorem find_is {α : Type} {q : α → Bool} {l : List α} {x : α} (hx : x ∈ l) (hq : q x = true) (hu : ∀ y ∈ l, q y = true → y = x) : l.find? q = some x := by
  cases h : l.find? q with
  | none => exact absurd hq (by simpa using List.find?_eq_none.1 h x hx)
  | some y => rw [hu y (List.mem_of_find?_eq_some h) (List.find?_some h)]
theorem atR_rows {t : TextD} {ss : List StretchD} {p : PlaceD} {l : List ByteArray} (h : wordsOf t (p.ch, p.ln) = some l) : atR (rowsT t ss) p = rowOf ss (p.ch, p.ln) l.length := by
  unfold atR
  rw [find_is (x := rowOf ss (p.ch, p.ln) l.length) (mem_rows.2 ⟨_, l, h, rfl⟩) (by simp [rowOf]) fun y hy hq => ?_]
  · rfl
  · obtain ⟨q, l', hw, rfl⟩ := mem_rows.1 hy
    simp only [Bool.and_eq_true, decide_eq_true_eq] at hq
    have : q = (p.ch, p.ln) := Prod.ext hq.1 hq.2
    subst this
    rw [h] at hw
    cases hw; rfl
def refB (r : RefD) : Bool := inB r.ch 1 999 && (inB r.ln 1 999 && inB r.wd 1 999)
theorem refB_in (r : RefD) : refB r = inAll 1 999 [r.ch, r.ln, r.wd] := by
  unfold refB
  rw [← outB_inB, ← outB_inB, ← outB_inB]; simp [inAll]
/-! ### Where they lead -/
def leadR (l : List RowD) (r : RefD) : Option PlaceD := (l.find? fun x => decide (x.au = r.ch) && (decide (x.nu = r.ln) && inB r.wd 1 x.ws)).map fun x => ⟨x.ch, x.ln, r.wd - 1⟩
def leadO (t : TextD) (ss : List StretchD) (r : RefD) : Option PlaceD := match backOf ss (r.ch, r.ln) with
  | none => none
  | some p => bif decide ((((wordsOf t p).getD []).length : Int) < r.wd) then none else some ⟨p.1, p.2, r.wd - 1⟩
theorem lead_same {t : TextD} {ss : List StretchD} (hS : Sound t ss) {r : RefD} (hr : refB r = true) : leadR (rowsT t ss) r = leadO t ss r := by
  simp only [refB, Bool.and_eq_true, inB_true] at hr
  -- a row with these numbers
  have key : ∀ x ∈ rowsT t ss, (decide (x.au = r.ch) && (decide (x.nu = r.ln) && inB r.wd 1 x.ws)) = true → ∃ l, wordsOf t (x.ch, x.ln) = some l ∧ x = rowOf ss (x.ch, x.ln) l.length ∧ backOf ss (r.ch, r.ln) = some (x.ch, x.ln) ∧ r.wd ≤ l.length := by
    intro x hx hq
    obtain ⟨q, l, hw, rfl⟩ := mem_rows.1 hx
    simp only [Bool.and_eq_true, decide_eq_true_eq, inB_true] at hq
    have q1 : ((asOf ss q).getD (0, 0)).1 = r.ch := hq.1
    have q2 : ((asOf ss q).getD (0, 0)).2 = r.ln := hq.2.1
    refine ⟨l, hw, rfl, ?_, hq.2.2.2⟩
    rw [back_iff hS.no]
    show asOf ss q = _
    cases hv : asOf ss q with
    | none => rw [hv] at q1; simp only [Option.getD_none] at q1; omega
    | some v =>
      rw [hv] at q1 q2
      simp only [Option.getD_some] at q1 q2
      rw [← q1, ← q2]
  unfold leadR leadO
  cases hb : backOf ss (r.ch, r.ln) with
  | none =>
    rw [List.find?_eq_none.2 fun x hx hq => ?_]
    · rfl
    · obtain ⟨l, _, _, h1, _⟩ := key x hx hq
      rw [hb] at h1; cases h1
  | some p =>
    have hv := (back_iff hS.no).1 hb
    obtain ⟨l, hw⟩ := asOf_words hS hv
    dsimp only
    rw [hw]
    simp only [Option.getD_some]
    by_cases hl : (l.length : Int) < r.wd
    · rw [decide_eq_true hl, List.find?_eq_none.2 fun x hx hq => ?_]
      · rfl
      · obtain ⟨l', h1, _, h2, h3⟩ := key x hx hq
        rw [hb] at h2
        cases h2
        rw [hw] at h1
        cases h1
        omega
    · rw [decide_eq_false hl, find_is (x := rowOf ss p l.length) (mem_rows.2 ⟨_, l, hw, rfl⟩) (by simp only [rowOf, hv, Option.getD_some, decide_true, Bool.true_and, inB_true]; omega) fun y hy hq => ?_]
      · rfl
      · obtain ⟨l', h1, h4, h2, h3⟩ := key y hy hq
        rw [hb] at h2
        cases h2
        rw [hw] at h1
        cases h1
        exact h4
/-! ### Two editions -/
/-! ### Lines in order -/
def ltL (a b : L2) : Prop := a.1 < b.1 ∨ a.1 = b.1 ∧ a.2 < b.2
theorem ltL_tri {a b : L2} (h : ¬ ltL a b) (k : ¬ ltL b a) : a = b := by
  obtain ⟨a1, a2⟩ := a
  obtain ⟨b1, b2⟩ := b
  unfold ltL at h k
  simp only [Prod.mk.injEq]
  dsimp only at h k
  omega
/-! ### A list into which one is put -/
theorem linesT_sorted (t : TextD) : (linesT t).Pairwise ltL := by
  unfold linesT
  rw [List.pairwise_flatten]
  constructor
  · intro l hl
    obtain ⟨k, hk, rfl⟩ := List.mem_mapIdx.1 hl
    rw [List.pairwise_iff_getElem]
    intro i j hi hj hij
    simp only [List.getElem_mapIdx]
    right
    exact ⟨rfl, by dsimp only; omega⟩
  · rw [List.pairwise_iff_getElem]
    intro i j hi hj hij x hx y hy
    simp only [List.getElem_mapIdx] at hx hy
    obtain ⟨a, ha, rfl⟩ := List.mem_mapIdx.1 hx
    obtain ⟨b, hb, rfl⟩ := List.mem_mapIdx.1 hy
    left
    dsimp only
    omega
theorem row_as {t : TextD} {ss : List StretchD} (he : ∀ s ∈ ss, SOk s) {r : RowD} (hr : r ∈ rowsT t ss) (h0 : r.au ≠ 0) : asOf ss (r.ch, r.ln) = some (r.au, r.nu) := by
  obtain ⟨h1, h2⟩ := rows_spec hr
  cases hv : asOf ss (r.ch, r.ln) with
  | none => rw [hv] at h1; exact absurd h1 h0
  | some v => rw [hv] at h1 h2; simp only [Option.getD_some] at h1 h2; rw [h1, h2]
theorem row_none {t : TextD} {ss : List StretchD} (he : ∀ s ∈ ss, SOk s) {r : RowD} (hr : r ∈ rowsT t ss) (h0 : r.au = 0) : asOf ss (r.ch, r.ln) = none := by
  obtain ⟨h1, h2⟩ := rows_spec hr
  cases hv : asOf ss (r.ch, r.ln) with
  | none => rfl
  | some v =>
    rw [hv] at h1
    have := asOf_pos he hv
    simp only [Option.getD_some] at h1
    omega
theorem wordsOf_isSome {t : TextD} {p : L2} : (wordsOf t p).isSome = (inB p.1 0 ((t.length : Int) - 1) && inB p.2 0 ((nlines t p.1 : Int) - 1)) := by
  unfold wordsOf
  cases h1 : inB p.1 0 ((t.length : Int) - 1) with
  | false => rfl
  | true =>
    cases h2 : inB p.2 0 ((nlines t p.1 : Int) - 1) with
    | false => rfl
    | true =>
      simp only [Bool.and_self, cond_true]
      rw [inB_true] at h1 h2
      have hk : p.1.toNat < t.length := by omega
      have hn : nlines t p.1 = t[p.1.toNat].lines.length := nlines_get (k := p.1.toNat) (by omega) (List.getElem?_eq_getElem hk)
      rw [List.getElem?_eq_getElem hk, Option.bind_some, List.getElem?_eq_getElem (by omega)]
      rfl
/-! ### What is found first -/
theorem take_no {α : Type} {q : α → Bool} {l : List α} {k : Nat} {x : α} (hx : l[k]? = some x) (h : ∀ y ∈ l.take k, q y = false) (hq : q x = false) : ∀ y ∈ l.take (k + 1), q y = false := fun y hy => by
  rw [List.take_add_one, hx, Option.toList_some, List.mem_append, List.mem_singleton] at hy
  rcases hy with hy | rfl
  · exact h y hy
  · exact hq
theorem find_at {α : Type} {q : α → Bool} {l : List α} {k : Nat} {x : α} (hx : l[k]? = some x) (h : ∀ y ∈ l.take k, q y = false) (hq : q x = true) : l.find? q = some x := by
  obtain ⟨hk, e⟩ := List.getElem?_eq_some_iff.1 hx
  rw [← List.take_append_drop k l, List.find?_append, List.find?_eq_none.2 fun y hy => by rw [h y hy]; simp, Option.none_or, List.drop_eq_getElem_cons hk, e, List.find?_cons, hq]
theorem find_no {α : Type} {q : α → Bool} {l : List α} {k : Nat} (hk : l.length ≤ k) (h : ∀ y ∈ l.take k, q y = false) : l.find? q = none := by
  rw [List.take_of_length_le hk] at h
  exact List.find?_eq_none.2 fun y hy => by rw [h y hy]; simp
end Go.AB
