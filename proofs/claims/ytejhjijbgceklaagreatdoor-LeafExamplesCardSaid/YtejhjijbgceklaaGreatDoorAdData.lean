/-
 The program's data, as lists of cells; plain laws on lists.
-/
import Derived.Test.YtejhjijbgceklaaGreatDoorEngA
import Derived.Test.YtejhjijbgceklaaGreatDoorTy
namespace Go.AB
open Go Go.RowKit
open Go.AB.Enc (cells)
open Go.PB (Chap TextD PlaceD ReadingD CopyD WayD)


instance : Enc Chap := ⟨fun x => [.v (.int .i64 x.id), lst x.lines], 2, fun _ => rfl, fun m x c h => by
 simp only [List.mem_cons, List.not_mem_nil, or_false] at h; rcases h with rfl | rfl; exact .v; exact lst_low m _, fun x c h => by
 simp only [List.mem_cons, List.not_mem_nil, or_false] at h; rcases h with rfl | rfl <;> rfl⟩
instance : Enc PlaceD := ⟨fun x => [.v (.int .i64 x.ch), .v (.int .i64 x.ln), .v (.int .i64 x.wd)], 3, fun _ => rfl, fun m x c h => by
 simp only [List.mem_cons, List.not_mem_nil, or_false] at h; rcases h with rfl | rfl | rfl <;> exact .v, fun x c h => by
 simp only [List.mem_cons, List.not_mem_nil, or_false] at h; rcases h with rfl | rfl | rfl <;> rfl⟩
instance : Enc ReadingD := ⟨fun x => [.v (.int .i64 x.pl.ch), .v (.int .i64 x.pl.ln), .v (.int .i64 x.pl.wd), .v (.int .u8 x.kind), .v (.string x.word)], 5, fun _ => rfl, fun m x c h => by
 simp only [List.mem_cons, List.not_mem_nil, or_false] at h; rcases h with rfl | rfl | rfl | rfl | rfl <;> exact .v, fun x c h => by
 simp only [List.mem_cons, List.not_mem_nil, or_false] at h; rcases h with rfl | rfl | rfl | rfl | rfl <;> rfl⟩
instance : Enc CopyD := ⟨fun x => [.v (.int .i64 x.id), lst x.rs], 2, fun _ => rfl, fun m x c h => by
 simp only [List.mem_cons, List.not_mem_nil, or_false] at h; rcases h with rfl | rfl; exact .v; exact lst_low m _, fun x c h => by
 simp only [List.mem_cons, List.not_mem_nil, or_false] at h; rcases h with rfl | rfl <;> rfl⟩
/-- A struct by value. -/
def val {α : Type} [Enc α] (x : α) : C := .agg (cells x)
abbrev textC (t : TextD) : C := .agg [lst t]

def I64 (n : Int) : Prop := -9223372036854775808 ≤ n ∧ n ≤ 9223372036854775807
theorem i64_fit {n : Int} (h : (C.v (.int .i64 n)).fit) : I64 n := of_okV_i64 (fit_v.1 h)
/-- lengths and numbers of a text that is read out of memory -/
structure TextFit (t : TextD) : Prop where
 len : t.length ≤ 9223372036854775807
 id : ∀ c ∈ t, I64 c.id
 lines : ∀ c ∈ t, c.lines.length ≤ 9223372036854775807
 words : ∀ c ∈ t, ∀ l ∈ c.lines, l.length ≤ 9223372036854775807
 size : ∀ c ∈ t, ∀ l ∈ c.lines, ∀ s ∈ l, s.size ≤ 9223372036854775807
theorem words_fit {l : List ByteArray} (h : (lst l).fit) : l.length ≤ 9223372036854775807 ∧ ∀ s ∈ l, s.size ≤ 9223372036854775807 := by
 obtain ⟨h1, h2⟩ := fit_lst.1 h
 exact ⟨h1, fun s hs => okV_str.1 (fit_v.1 (h2 s hs _ (List.mem_cons_self ..)))⟩
theorem text_fit' {t : TextD} (h : (lst t).fit) : TextFit t := by
 obtain ⟨h1, h2⟩ := fit_lst.1 h
 have h3 : ∀ c ∈ t, (lst c.lines).fit := fun c hc => h2 c hc _ (List.mem_cons_of_mem _ (List.mem_cons_self ..))
 have h4 : ∀ c ∈ t, ∀ l ∈ c.lines, (lst l).fit := fun c hc l hl => (fit_lst.1 (h3 c hc)).2 l hl _ (List.mem_cons_self ..)
 exact ⟨h1, fun c hc => i64_fit (h2 c hc _ (List.mem_cons_self ..)), fun c hc => (fit_lst.1 (h3 c hc)).1, fun c hc l hl => (words_fit (h4 c hc l hl)).1, fun c hc l hl => (words_fit (h4 c hc l hl)).2⟩
theorem text_fit {t : TextD} (h : (textC t).fit) : TextFit t := text_fit' (fit_agg.1 h _ (List.mem_cons_self ..))
/-! ### Lists -/
theorem mem_of_get {α : Type} {l : List α} {k : Nat} {x : α} (h : l[k]? = some x) : x ∈ l := List.mem_of_getElem? h
theorem lt_of_some {α : Type} {l : List α} {k : Nat} {x : α} (h : l[k]? = some x) : k < l.length := (List.getElem?_eq_some_iff.1 h).1
theorem take_all {α : Type} {l : List α} {k : Nat} (h : l.length ≤ k) : l.take k = l := List.take_of_length_le h
theorem all_take {α : Type} {l : List α} {k : Nat} {x : α} {p : α → Bool} (hx : l[k]? = some x) : (l.take (k + 1)).all p = ((l.take k).all p && p x) := by
 rw [List.take_add_one, hx]; simp
theorem all_false_of {α : Type} {l : List α} {k : Nat} {x : α} {p : α → Bool} (hx : l[k]? = some x) (hp : p x = false) : l.all p = false :=
 List.all_eq_false.2 ⟨x, List.mem_of_getElem? hx, by simp [hp]⟩
theorem take_succ_eq {α : Type} {a b : List α} {k : Nat} {x : α} (h : a.take k = b.take k) (ha : a[k]? = some x) (hb : b[k]? = some x) : a.take (k + 1) = b.take (k + 1) := by
 rw [List.take_add_one, List.take_add_one, h, ha, hb]
theorem ne_of_get {α : Type} {a b : List α} {k : Nat} {x y : α} (ha : a[k]? = some x) (hb : b[k]? = some y) (h : x ≠ y) : a ≠ b := fun e => by
 subst e; rw [ha] at hb; exact h (by simpa using hb)
theorem zip_take {α β : Type} {l : List α} {m : List β} {k : Nat} {x : α} {y : β} {p : α → β → Bool} (hx : l[k]? = some x) (hy : m[k]? = some y) :
  ((l.take (k + 1)).zip (m.take (k + 1))).all (fun q => p q.1 q.2) = (((l.take k).zip (m.take k)).all (fun q => p q.1 q.2) && p x y) := by
 have hk : k < l.length := (List.getElem?_eq_some_iff.1 hx).1
 have hk' : k < m.length := (List.getElem?_eq_some_iff.1 hy).1
 rw [List.take_add_one, List.take_add_one, hx, hy, List.zip_append (by simp; omega)]
 simp
theorem zip_false_of {α β : Type} {l : List α} {m : List β} {k : Nat} {x : α} {y : β} {p : α → β → Bool} (hx : l[k]? = some x) (hy : m[k]? = some y) (hp : p x y = false) :
  (l.zip m).all (fun q => p q.1 q.2) = false := by
 refine List.all_eq_false.2 ⟨(x, y), ?_, by simp [hp]⟩
 exact List.mem_of_getElem? (i := k) (by simp [List.getElem?_zip_eq_some, hx, hy])
theorem map_take_snoc {α β : Type} {l : List α} {k : Nat} {x : α} {f : α → β} (hx : l[k]? = some x) : (l.take (k + 1)).map f = (l.take k).map f ++ [f x] := by
 rw [List.take_add_one, hx]; simp
theorem not_nodup_map {α β : Type} {l : List α} {j k : Nat} {x y : α} {f : α → β} (hj : l[j]? = some x) (hk : l[k]? = some y) (hlt : j < k) (hf : f x = f y) : ¬ (l.map f).Nodup := by
 intro h
 rw [List.Nodup, List.pairwise_iff_getElem] at h
 have h1 : (l.map f)[j]? = some (f x) := by simp [hj]
 have h2 : (l.map f)[k]? = some (f y) := by simp [hk]
 obtain ⟨hj', e1⟩ := List.getElem?_eq_some_iff.1 h1
 obtain ⟨hk', e2⟩ := List.getElem?_eq_some_iff.1 h2
 exact h j k hj' hk' hlt (by rw [e1, e2, hf])
theorem nodup_snoc {α : Type} {l : List α} {x : α} (h : l.Nodup) (hx : x ∉ l) : (l ++ [x]).Nodup := by
 rw [List.nodup_append]
 exact ⟨h, by simp, fun a ha b hb => by simp at hb; subst hb; exact fun e => hx (e ▸ ha)⟩
theorem mapIdx_take_succ {α β : Type} {f : Nat → α → β} {l : List α} {k : Nat} {x : α} (h : l[k]? = some x) : (l.take (k + 1)).mapIdx f = (l.take k).mapIdx f ++ [f k x] := by
 have hlt := (List.getElem?_eq_some_iff.1 h).1
 rw [List.take_add_one, h, List.mapIdx_append]
 simp [List.length_take, Nat.min_eq_left (Nat.le_of_lt hlt)]
theorem mapIdx_take_prefix {α β : Type} (f : Nat → α → β) (l : List α) (k : Nat) : (l.take k).mapIdx f <+: l.mapIdx f := by
 refine ⟨(l.drop k).mapIdx fun i => f (i + (l.take k).length), ?_⟩
 rw [← List.mapIdx_append, List.take_append_drop]
theorem flatten_prefix {α : Type} {a b : List (List α)} (h : a <+: b) : a.flatten <+: b.flatten := by
 obtain ⟨r, rfl⟩ := h
 exact ⟨r.flatten, by simp⟩
/-! ### What the functions compute -/
/-- from lo to hi -/
def inB (n lo hi : Int) : Bool := decide (lo ≤ n) && decide (n ≤ hi)
theorem inB_true {n lo hi : Int} : inB n lo hi = true ↔ lo ≤ n ∧ n ≤ hi := by simp [inB]
theorem inB_false {n lo hi : Int} : inB n lo hi = false ↔ ¬ (lo ≤ n ∧ n ≤ hi) := by rw [← Bool.not_eq_true, inB_true]
def okc (c : UInt8) : Bool := decide (97 ≤ c.toNat) && decide (c.toNat ≤ 122)
def wordB (s : ByteArray) : Bool := inB s.size 1 12 && s.data.toList.all okc
def lineB (l : List ByteArray) : Bool := inB l.length 1 10 && l.all wordB
def chapB (c : Chap) : Bool := inB c.id 0 9999 && inB c.lines.length 1 10 && c.lines.all lineB
def textB (t : TextD) : Bool := inB t.length 1 6 && t.all chapB && decide (t.map (·.id)).Nodup
def chapAlike (x y : Chap) : Bool := decide (x.id = y.id) && decide (x.lines.length = y.lines.length)
def alikeB (t u : TextD) : Bool := decide (t.length = u.length) && (t.zip u).all fun p => chapAlike p.1 p.2
/-- the error of two texts, as a number -/
def twoE (t u : TextD) : Int := bif textB t && textB u then (bif alikeB t u then 0 else 8) else 10
end Go.AB
