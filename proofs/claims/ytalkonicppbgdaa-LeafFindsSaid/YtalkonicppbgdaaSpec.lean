/-
  What the functions compute, in plain Lean.
-/
import Derived.Test.YtalkonicppbgdaaBase
namespace Go.PB

/-- from lo to hi -/
def inB (n lo hi : Int) : Bool := decide (lo ≤ n) && decide (n ≤ hi)
theorem inB_true {n lo hi : Int} : inB n lo hi = true ↔ lo ≤ n ∧ n ≤ hi := by simp [inB]

def okc (c : UInt8) : Bool := decide (97 ≤ c.toNat) && decide (c.toNat ≤ 122)
def wordB (s : ByteArray) : Bool := inB s.size 1 12 && s.data.toList.all okc
def lineB (l : List ByteArray) : Bool := inB l.length 1 10 && l.all wordB
def chapB (c : Chap) : Bool := inB c.id 0 9999 && inB c.lines.length 1 10 && c.lines.all lineB
def textB (t : TextD) : Bool := inB t.length 1 6 && t.all chapB && decide (t.map (·.id)).Nodup

/-- the error of a text, as a number -/
def textE (t : TextD) : Int := if textB t = true then 0 else 10
theorem textE_ok {t : TextD} (h : textB t = true) : textE t = 0 := by simp [textE, h]
theorem textE_no {t : TextD} (h : textB t = false) : textE t = 10 := by simp [textE, h]

def chapAlike (x y : Chap) : Bool := eqB x.id y.id && eqB x.lines.length y.lines.length
def alikeB (t u : TextD) : Bool := eqB t.length u.length && (t.zip u).all fun p => chapAlike p.1 p.2
/-- the error of two texts, as a number -/
def twoE (t u : TextD) : Int := if textB t = false then 10 else if textB u = false then 10 else if alikeB t u = false then 8 else 0

def greatLine (l : List ByteArray) : Bool := decide (15 < l.length) || l.any fun s => decide (40 < s.size)
def greatChap (c : Chap) : Bool := decide (15 < c.lines.length) || c.lines.any greatLine
def greatB (t : TextD) : Bool := decide (10 < t.length) || t.any greatChap


theorem great_len {t : TextD} (h : greatB t = false) : t.length ≤ 10 := by
  simp [greatB] at h; omega
theorem great_lines {t : TextD} {k : Nat} {c : Chap} (h : greatB t = false) (hc : t[k]? = some c) : c.lines.length ≤ 15 := by
  simp only [greatB, Bool.or_eq_false_iff, List.any_eq_false] at h
  have := h.2 c (List.mem_of_getElem? hc)
  simp [greatChap] at this; omega
theorem great_words {t : TextD} {k n : Nat} {c : Chap} {l : List ByteArray} (h : greatB t = false) (hc : t[k]? = some c) (hl : c.lines[n]? = some l) : l.length ≤ 15 := by
  simp only [greatB, Bool.or_eq_false_iff, List.any_eq_false] at h
  have h1 := h.2 c (List.mem_of_getElem? hc)
  simp only [greatChap, Bool.or_eq_true, not_or, List.any_eq_true, not_exists, not_and] at h1
  have h2 := h1.2 l (List.mem_of_getElem? hl)
  simp [greatLine] at h2; omega

/-! ### Lists -/
/-- The first index at which something is so; -1 if there is none. -/
def idxB {α : Type} (p : α → Bool) (xs : List α) : Int := match xs.findIdx? p with | some i => (i : Int) | none => -1
theorem idxB_found {α : Type} {p : α → Bool} {xs : List α} {k : Nat} {x : α} (h : (xs.take k).any p = false) (hx : xs[k]? = some x) (hp : p x = true) : idxB p xs = k := by
  have : xs.findIdx? p = some k := by
    rw [List.findIdx?_eq_some_iff_getElem]
    obtain ⟨hk, e⟩ := List.getElem?_eq_some_iff.1 hx
    refine ⟨hk, by rw [e]; exact hp, fun j hj => ?_⟩
    rw [List.any_eq_false] at h
    exact h _ (List.mem_take_iff_getElem.2 ⟨j, by omega, rfl⟩)
  simp [idxB, this]
theorem idxB_none {α : Type} {p : α → Bool} {xs : List α} (h : xs.any p = false) : idxB p xs = -1 := by
  have : xs.findIdx? p = none := by
    rw [List.findIdx?_eq_none_iff]
    intro x hx
    rw [List.any_eq_false] at h
    simpa using h x hx
  simp [idxB, this]
theorem idxB_nonneg {α : Type} {p : α → Bool} {xs : List α} : decide (0 ≤ idxB p xs) = xs.any p := by
  cases h : xs.any p
  · rw [idxB_none h]; rfl
  · cases h2 : xs.findIdx? p with
    | none =>
      rw [List.findIdx?_eq_none_iff] at h2
      obtain ⟨x, hx, hp⟩ := List.any_eq_true.1 h
      rw [h2 x hx] at hp
      cases hp
    | some i => simp [idxB, h2]
theorem idxB_bd {α : Type} {p : α → Bool} {xs : List α} : -1 ≤ idxB p xs ∧ idxB p xs < xs.length := by
  unfold idxB
  split
  · rename_i i h
    rw [List.findIdx?_eq_some_iff_getElem] at h
    obtain ⟨hk, _⟩ := h
    omega
  · omega

theorem zip_take {α β : Type} {l : List α} {m : List β} {k : Nat} {x : α} {y : β} {p : α → β → Bool} (hx : l[k]? = some x) (hy : m[k]? = some y) :
    ((l.take (k + 1)).zip (m.take (k + 1))).all (fun q => p q.1 q.2) = (((l.take k).zip (m.take k)).all (fun q => p q.1 q.2) && p x y) := by
  have hk : k < l.length := (List.getElem?_eq_some_iff.1 hx).1
  have hk' : k < m.length := (List.getElem?_eq_some_iff.1 hy).1
  rw [List.take_add_one, List.take_add_one, hx, hy, List.zip_append (by simp; omega)]
  simp
theorem zip_false_of {α β : Type} {l : List α} {m : List β} {k : Nat} {x : α} {y : β} {p : α → β → Bool} (hx : l[k]? = some x) (hy : m[k]? = some y) (hp : p x y = false) :
    (l.zip m).all (fun q => p q.1 q.2) = false := by
  refine List.all_eq_false.2 ⟨(x, y), ?_, by simp [hp]⟩
  exact List.mem_of_getElem? (i := k) (by simp [List.getElem?_zip_eq_some, hx, hy])

theorem all_take {α : Type} {l : List α} {k : Nat} {x : α} {p : α → Bool} (hx : l[k]? = some x) : (l.take (k + 1)).all p = ((l.take k).all p && p x) := by
  rw [List.take_add_one, hx]; simp
theorem all_false_of {α : Type} {l : List α} {k : Nat} {x : α} {p : α → Bool} (hx : l[k]? = some x) (hp : p x = false) : l.all p = false :=
  List.all_eq_false.2 ⟨x, List.mem_of_getElem? hx, by simp [hp]⟩
theorem map_take_snoc {α β : Type} {l : List α} {k : Nat} {x : α} {f : α → β} (hx : l[k]? = some x) : (l.take (k + 1)).map f = (l.take k).map f ++ [f x] := by
  rw [List.take_add_one, hx]; simp
theorem not_nodup_map {α β : Type} {l : List α} {j k : Nat} {x y : α} {f : α → β} (hj : l[j]? = some x) (hk : l[k]? = some y) (hlt : j < k) (hf : f x = f y) : ¬ (l.map f).Nodup := by
  intro h
  rw [List.Nodup, List.pairwise_iff_getElem] at h
  have h1 : (l.map f)[j]? = some (f x) := by simp [hj]
  have h2 : (l.map f)[k]? = some (f y) := by simp [hk]
  obtain ⟨hj', e1⟩ := List.getElem?_eq_some_iff.1 h1
  obtain ⟨hk', e2⟩ := List.getElem?_eq_some_iff.1 h2
  exact h j k hj' hk' hlt (by rw [e1, e2, hf])
theorem nodup_snoc {α : Type} {l : List α} {x : α} (h : l.Nodup) (hx : x ∉ l) : (l ++ [x]).Nodup := by
  rw [List.nodup_append]
  exact ⟨h, by simp, fun a ha b hb => by simp at hb; subst hb; exact fun e => hx (e ▸ ha)⟩
theorem not_mem_take {α β : Type} [DecidableEq β] {l : List α} {k : Nat} {f : α → β} {b : β} (h : (l.take k).any (fun d => decide (f d = b)) = false) : b ∉ (l.take k).map f := by
  intro hm
  obtain ⟨d, hd, e⟩ := List.mem_map.1 hm
  rw [List.any_eq_false] at h
  exact h d hd (by simp [e])
theorem take_take_any {α : Type} {l : List α} {j k : Nat} (h : j ≤ k) : (l.take k).take j = l.take j := by rw [List.take_take, Nat.min_eq_left h]

end Go.PB
