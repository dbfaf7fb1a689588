/-
 The program's data, as lists of cells; plain laws on lists.
-/
import Derived.Test.YtjjklfgpffgnfaaGreatDoorEngA
import Derived.Test.YtjjklfgpffgnfaaGreatDoorTy
namespace Go.AB
open Go Go.RowKit
open Go.AB.Enc (cells)
open Go.PB (bv ai PlaceD cy c6 cz)


instance : Enc bv := ⟨fun x => [.v (.int .i64 x.id), lst x.lines], 2, fun _ => rfl, fun m x c h => by
 simp only [List.mem_cons, List.not_mem_nil, or_false] at h; rcases h with rfl | rfl; exact .v; exact bh m _, fun x c h => by
 simp only [List.mem_cons, List.not_mem_nil, or_false] at h; rcases h with rfl | rfl <;> rfl⟩
instance : Enc PlaceD := ⟨fun x => [.v (.int .i64 x.ch), .v (.int .i64 x.ln), .v (.int .i64 x.wd)], 3, fun _ => rfl, fun m x c h => by
 simp only [List.mem_cons, List.not_mem_nil, or_false] at h; rcases h with rfl | rfl | rfl <;> exact .v, fun x c h => by
 simp only [List.mem_cons, List.not_mem_nil, or_false] at h; rcases h with rfl | rfl | rfl <;> rfl⟩
/-- A struct by value. -/
def val {α : Type} [Enc α] (x : α) : C := .agg (cells x)
abbrev b8 (t : ai) : C := .agg [lst t]

def I64 (n : Int) : Prop := -9223372036854775808 ≤ n ∧ n ≤ 9223372036854775807
theorem oy {n : Int} (h : (C.v (.int .i64 n)).fit) : I64 n := zq (fit_v.1 h)
/-- lengths and numbers of a text that is read out of memory -/
structure ude (t : ai) : Prop where
 len : t.length ≤ 9223372036854775807
 id : ∀ c ∈ t, I64 c.id
 lines : ∀ c ∈ t, c.lines.length ≤ 9223372036854775807
 words : ∀ c ∈ t, ∀ l ∈ c.lines, l.length ≤ 9223372036854775807
 size : ∀ c ∈ t, ∀ l ∈ c.lines, ∀ s ∈ l, s.size ≤ 9223372036854775807
theorem x9 {l : List ByteArray} (h : (lst l).fit) : l.length ≤ 9223372036854775807 ∧ ∀ s ∈ l, s.size ≤ 9223372036854775807 := by
 obtain ⟨h1, h2⟩ := fit_lst.1 h
 exact ⟨h1, fun s hs => okV_str.1 (fit_v.1 (h2 s hs _ (List.mem_cons_self ..)))⟩
theorem uec {t : ai} (h : (lst t).fit) : ude t := by
 obtain ⟨h1, h2⟩ := fit_lst.1 h
 have h3 : ∀ c ∈ t, (lst c.lines).fit := fun c hc => h2 c hc _ (List.mem_cons_of_mem _ (List.mem_cons_self ..))
 have h4 : ∀ c ∈ t, ∀ l ∈ c.lines, (lst l).fit := fun c hc l hl => (fit_lst.1 (h3 c hc)).2 l hl _ (List.mem_cons_self ..)
 exact ⟨h1, fun c hc => oy (h2 c hc _ (List.mem_cons_self ..)), fun c hc => (fit_lst.1 (h3 c hc)).1, fun c hc l hl => (x9 (h4 c hc l hl)).1, fun c hc l hl => (x9 (h4 c hc l hl)).2⟩
theorem ui {t : ai} (h : (b8 t).fit) : ude t := uec (fit_agg.1 h _ (List.mem_cons_self ..))
/-! ### Lists -/
theorem gr {α : Type} {l : List α} {k : Nat} {x : α} (h : l[k]? = some x) : x ∈ l := List.mem_of_getElem? h
theorem im {α : Type} {l : List α} {k : Nat} (h : l.length ≤ k) : l.take k = l := List.take_of_length_le h
theorem pi {α : Type} {l : List α} {k : Nat} {x : α} {p : α → Bool} (hx : l[k]? = some x) : (l.take (k + 1)).all p = ((l.take k).all p && p x) := by
 rw [List.take_add_one, hx]; simp
theorem ku {α : Type} {l : List α} {k : Nat} {x : α} {p : α → Bool} (hx : l[k]? = some x) (hp : p x = false) : l.all p = false :=
 List.all_eq_false.2 ⟨x, List.mem_of_getElem? hx, by simp [hp]⟩
theorem rt {α : Type} {l : List α} {k : Nat} {x : α} {p : α → Bool} (hx : l[k]? = some x) : (l.take (k + 1)).any p = ((l.take k).any p || p x) := by
 rw [List.take_add_one, hx]; simp
theorem ph {α : Type} {l : List α} {k : Nat} {x : α} {p : α → Bool} (hx : l[k]? = some x) (hp : p x = true) : l.any p = true :=
 List.any_eq_true.2 ⟨x, List.mem_of_getElem? hx, hp⟩
theorem uk {α : Type} {a b : List α} {k : Nat} {x : α} (h : a.take k = b.take k) (ha : a[k]? = some x) (hb : b[k]? = some x) : a.take (k + 1) = b.take (k + 1) := by
 rw [List.take_add_one, List.take_add_one, h, ha, hb]
theorem vh {α : Type} {a b : List α} {k : Nat} {x y : α} (ha : a[k]? = some x) (hb : b[k]? = some y) (h : x ≠ y) : a ≠ b := fun e => by
 subst e; rw [ha] at hb; exact h (by simpa using hb)
theorem s0 {α β : Type} {l : List α} {k : Nat} {x : α} {f : α → β} (hx : l[k]? = some x) : (l.take (k + 1)).map f = (l.take k).map f ++ [f x] := by
 rw [List.take_add_one, hx]; simp
theorem ugm {α β : Type} {l : List α} {j k : Nat} {x y : α} {f : α → β} (hj : l[j]? = some x) (hk : l[k]? = some y) (hlt : j < k) (hf : f x = f y) : ¬ (l.map f).Nodup := by
 intro h
 rw [List.Nodup, List.pairwise_iff_getElem] at h
 have h1 : (l.map f)[j]? = some (f x) := by simp [hj]
 have h2 : (l.map f)[k]? = some (f y) := by simp [hk]
 obtain ⟨hj', e1⟩ := List.getElem?_eq_some_iff.1 h1
 obtain ⟨hk', e2⟩ := List.getElem?_eq_some_iff.1 h2
 exact h j k hj' hk' hlt (by rw [e1, e2, hf])
theorem vd {α : Type} {l : List α} {x : α} (h : l.Nodup) (hx : x ∉ l) : (l ++ [x]).Nodup := by
 rw [List.nodup_append]
 exact ⟨h, by simp, fun a ha b hb => by simp at hb; subst hb; exact fun e => hx (e ▸ ha)⟩
theorem ugn {α β : Type} [DecidableEq β] {l : List α} {k : Nat} {f : α → β} {b : β} (h : (l.take k).any (fun d => decide (f d = b)) = false) : b ∉ (l.take k).map f := by
 intro hm
 obtain ⟨d, hd, e⟩ := List.mem_map.1 hm
 rw [List.any_eq_false] at h
 exact h d hd (by simp [e])

theorem vp {α β : Type} {f : Nat → α → β} {l : List α} {k : Nat} {x : α} (h : l[k]? = some x) : (l.take (k + 1)).mapIdx f = (l.take k).mapIdx f ++ [f k x] := by
 have hlt := (List.getElem?_eq_some_iff.1 h).1
 rw [List.take_add_one, h, List.mapIdx_append]
 simp [List.length_take, Nat.min_eq_left (Nat.le_of_lt hlt)]
theorem ual {α β : Type} (f : Nat → α → β) (l : List α) (k : Nat) : (l.take k).mapIdx f <+: l.mapIdx f := by
 refine ⟨(l.drop k).mapIdx fun i => f (i + (l.take k).length), ?_⟩
 rw [← List.mapIdx_append, List.take_append_drop]
theorem ui3 {α : Type} {a b : List (List α)} (h : a <+: b) : a.flatten <+: b.flatten := by
 obtain ⟨r, rfl⟩ := h
 exact ⟨r.flatten, by simp⟩
/-! ### What the functions compute -/
/-- from lo to hi -/
def inB (n lo hi : Int) : Bool := decide (lo ≤ n) && decide (n ≤ hi)
theorem inB_true {n lo hi : Int} : inB n lo hi = true ↔ lo ≤ n ∧ n ≤ hi := by simp [inB]
def okc (c : UInt8) : Bool := decide (97 ≤ c.toNat) && decide (c.toNat ≤ 122)
def ky (s : ByteArray) : Bool := inB s.size 1 12 && s.data.toList.all okc
def km (l : List ByteArray) : Bool := inB l.length 1 10 && l.all ky
def jj (c : bv) : Bool := inB c.id 0 9999 && inB c.lines.length 1 10 && c.lines.all km
def ct (t : ai) : Bool := inB t.length 1 6 && t.all jj && decide (t.map (·.id)).Nodup
def o7 (l : List ByteArray) : Bool := decide (15 < l.length) || l.any fun s => decide (40 < s.size)
def nk (c : bv) : Bool := decide (15 < c.lines.length) || c.lines.any o7
def n5 (t : ai) : Bool := decide (10 < t.length) || t.any nk
end Go.AB
