/-
  Plain readings of Go data in the memory of the model: slices (nested), structs; what is kept.
-/
import Derived.WalkKit
import Derived.Test.YtalkonicppbgdaaTy
import Derived.Deep.LoopGhost
import Derived.Lib.Hide
import Derived.BigQuiet
import Derived.Deep.QuietTactic
namespace Go.PB
open Go Go.RowKit

/-- Blocks of F are in w' as they were in w. -/
def Keep (F : Nat → Prop) (w w' : World) : Prop := ∀ b, F b → w'.heap[b]? = w.heap[b]?

theorem Keep.refl (F : Nat → Prop) (w : World) : Keep F w w := fun _ _ => rfl
theorem Keep.trans {F : Nat → Prop} {a b c : World} (h : Keep F a b) (k : Keep F b c) : Keep F a c := fun i hi => (k i hi).trans (h i hi)
theorem Keep.mono {F G : Nat → Prop} {a b : World} (h : Keep F a b) (hg : ∀ i, G i → F i) : Keep G a b := fun i hi => h i (hg i hi)
theorem Keep.cell {F : Nat → Prop} {w w' : World} (h : Keep F w w') {p : Addr} (hp : F p.block) : w'.cell? p = w.cell? p := World.cell?_of_block (w := w) (h p.block hp)
theorem Keep.below {w w' : World} {B : Nat} (h : Below B w w') : Keep (· < B) w w' := fun b hb => h.block b hb

/-- A type of Go data: how many cells, and when cells read as a datum, in blocks of F. -/
class Rep (α : Type) where
  n : Nat
  rd : World → (Nat → Prop) → List Value → α → Prop
  len : ∀ {w : World} {F : Nat → Prop} {cs : List Value} {x : α}, rd w F cs x → cs.length = n
  mono : ∀ {w w' : World} {F F' : Nat → Prop} {cs : List Value} {x : α}, (∀ b, F b → F' b) → Keep F w w' → rd w F cs x → rd w' F' cs x
  one : ∀ {w : World} {F : Nat → Prop} {cs : List Value} {x : α}, rd w F cs x → ∀ u ∈ cs, u.oneCell' = true

open Rep (rd)

instance : Rep Int where
  n := 1
  rd _ _ cs x := cs = [.int .i64 x] ∧ (Lit.int .i64 x).wf = true
  len h := by rw [h.1]; rfl
  mono _ _ h := h
  one h := by rw [h.1]; simp [Value.oneCell']

/-- bytes, kinds -/
structure U8 where
  v : Int
  deriving DecidableEq

instance : Rep U8 where
  n := 1
  rd _ _ cs x := cs = [.int .u8 x.v] ∧ (Lit.int .u8 x.v).wf = true
  len h := by rw [h.1]; rfl
  mono _ _ h := h
  one h := by rw [h.1]; simp [Value.oneCell']

instance : Rep Bool where
  n := 1
  rd _ _ cs x := cs = [.bool x]
  len h := by rw [h]; rfl
  mono _ _ h := h
  one h := by rw [h]; simp [Value.oneCell']

instance : Rep ByteArray where
  n := 1
  rd _ _ cs x := cs = [.string x] ∧ x.size ≤ maxLen
  len h := by rw [h.1]; rfl
  mono _ _ h := h
  one h := by rw [h.1]; simp [Value.oneCell']

/-- Data without addresses. -/
class Flat (α : Type) [Rep α] : Prop where
  flat : ∀ {w w' : World} {F F' : Nat → Prop} {cs : List Value} {x : α}, rd w F cs x → rd w' F' cs x
instance : Flat Int := ⟨fun h => h⟩
instance : Flat U8 := ⟨fun h => h⟩
instance : Flat Bool := ⟨fun h => h⟩
instance : Flat ByteArray := ⟨fun h => h⟩

/-- A datum lies at an address. -/
def At {α : Type} [Rep α] (w : World) (F : Nat → Prop) (b o : Nat) (x : α) : Prop :=
  ∃ es, rd w F es x ∧ ∀ j e, es[j]? = some e → w.cell? ⟨b, o + j, none⟩ = some e

theorem At.mono {α : Type} [Rep α] {w w' : World} {F F' : Nat → Prop} {b o : Nat} {x : α} (hF : ∀ b, F b → F' b) (hk : Keep F w w') (hb : F b) (h : At w F b o x) : At w' F' b o x := by
  obtain ⟨es, h1, h2⟩ := h
  exact ⟨es, Rep.mono hF hk h1, fun j e he => (hk.cell (p := ⟨b, o + j, none⟩) hb).trans (h2 j e he)⟩

/-- A slice reads as a list. -/
def rdSlice {α : Type} [Rep α] (w : World) (F : Nat → Prop) (cs : List Value) (xs : List α) : Prop :=
  ∃ a cap, cs = [.slice a xs.length cap] ∧ xs.length ≤ cap ∧ cap ≤ maxLen ∧
    (xs = [] ∨ ∃ b off, a = some ⟨b, off, none⟩ ∧ F b ∧ ∀ i x, xs[i]? = some x → At w F b (off + i * Rep.n α) x)

instance {α : Type} [Rep α] : Rep (List α) where
  n := 1
  rd := rdSlice
  len h := by obtain ⟨a, cap, rfl, _⟩ := h; rfl
  mono := by
    rintro w w' F F' cs xs hF hk ⟨a, cap, rfl, h1, h2, h3⟩
    refine ⟨a, cap, rfl, h1, h2, ?_⟩
    rcases h3 with h3 | ⟨b, off, rfl, hb, h4⟩
    · exact .inl h3
    · exact .inr ⟨b, off, rfl, hF b hb, fun i x hx => (h4 i x hx).mono hF hk hb⟩
  one h := by obtain ⟨a, cap, rfl, _⟩ := h; simp [Value.oneCell']

theorem rd_list {α : Type} [Rep α] {w : World} {F : Nat → Prop} {cs : List Value} {xs : List α} (h : rd w F cs xs) :
    ∃ a cap, cs = [.slice a xs.length cap] ∧ xs.length ≤ cap ∧ cap ≤ maxLen ∧
      (xs = [] ∨ ∃ b off, a = some ⟨b, off, none⟩ ∧ F b ∧ ∀ i x, xs[i]? = some x → At w F b (off + i * Rep.n α) x) := h

/-- An element of a slice. -/
theorem rd_elem {α : Type} [Rep α] {w : World} {F : Nat → Prop} {a : Option Addr} {l cap : Nat} {xs : List α} (h : rd w F [.slice a l cap] xs) {i : Nat} {x : α} (hx : xs[i]? = some x) :
    ∃ b off, a = some ⟨b, off, none⟩ ∧ F b ∧ At w F b (off + i * Rep.n α) x := by
  obtain ⟨a', cap', e, _, _, h3⟩ := rd_list h
  simp only [List.cons.injEq, Value.slice.injEq, and_true] at e
  obtain ⟨rfl, rfl, rfl⟩ := e
  rcases h3 with rfl | ⟨b, off, rfl, hb, h4⟩
  · simp at hx
  · exact ⟨b, off, rfl, hb, h4 i x hx⟩

theorem rd_len {α : Type} [Rep α] {w : World} {F : Nat → Prop} {a : Option Addr} {l cap : Nat} {xs : List α} (h : rd w F [.slice a l cap] xs) : l = xs.length ∧ xs.length ≤ cap ∧ cap ≤ maxLen := by
  obtain ⟨a', cap', e, h1, h2, h3⟩ := rd_list h
  simp only [List.cons.injEq, Value.slice.injEq, and_true] at e
  obtain ⟨rfl, rfl, rfl⟩ := e
  exact ⟨rfl, h1, h2⟩

theorem At.one {α : Type} [Rep α] {w : World} {F : Nat → Prop} {b o : Nat} {x : α} (hn : Rep.n α = 1) (h : At w F b o x) : ∃ v, w.cell? ⟨b, o, none⟩ = some v ∧ rd w F [v] x := by
  obtain ⟨es, h1, h2⟩ := h
  have hl := Rep.len h1
  match es, hl.trans hn with
  | [e], _ => exact ⟨e, h2 0 e rfl, h1⟩

/-- The element of a slice of strings. -/
theorem rd_str {w : World} {F : Nat → Prop} {a : Option Addr} {l cap : Nat} {xs : List ByteArray} (h : rd w F [.slice a l cap] xs) {i : Nat} {x : ByteArray} (hx : xs[i]? = some x) :
    ∃ b off, a = some ⟨b, off, none⟩ ∧ F b ∧ w.cell? ⟨b, off + i, none⟩ = some (.string x) ∧ x.size ≤ maxLen := by
  obtain ⟨b, off, ha, hb, hA⟩ := rd_elem h hx
  obtain ⟨v, hv, hr⟩ := hA.one rfl
  obtain ⟨e, hs⟩ : [v] = [Value.string x] ∧ x.size ≤ maxLen := hr
  simp only [List.cons.injEq, and_true] at e
  subst e
  exact ⟨b, off, ha, hb, by simpa [Rep.n] using hv, hs⟩

/-- The element of a slice of slices. -/
theorem rd_sub {α : Type} [Rep α] {w : World} {F : Nat → Prop} {a : Option Addr} {l cap : Nat} {xs : List (List α)} (h : rd w F [.slice a l cap] xs) {i : Nat} {x : List α} (hx : xs[i]? = some x) :
    ∃ b off, a = some ⟨b, off, none⟩ ∧ F b ∧ ∃ a' cap', w.cell? ⟨b, off + i, none⟩ = some (.slice a' x.length cap') ∧ rd w F [.slice a' x.length cap'] x := by
  obtain ⟨b, off, ha, hb, hA⟩ := rd_elem h hx
  obtain ⟨v, hv, hr⟩ := hA.one rfl
  obtain ⟨a', cap', e, _⟩ := rd_list hr
  simp only [List.cons.injEq, and_true] at e
  subst e
  exact ⟨b, off, ha, hb, a', cap', by simpa [Rep.n] using hv, hr⟩

/-! ### The program's data -/

instance : Rep Chap where
  n := 2
  rd w F cs x := ∃ v, cs = [.int .i64 x.id, v] ∧ (Lit.int .i64 x.id).wf = true ∧ rd w F [v] x.lines
  len h := by obtain ⟨v, rfl, _⟩ := h; rfl
  mono hF hk h := by obtain ⟨v, rfl, h1, h2⟩ := h; exact ⟨v, rfl, h1, Rep.mono hF hk h2⟩
  one h := by
    obtain ⟨v, rfl, _, h2⟩ := h
    intro u hu
    simp only [List.mem_cons, List.not_mem_nil, or_false] at hu
    rcases hu with rfl | rfl
    · rfl
    · exact Rep.one h2 _ (by simp)

theorem rd_chap {w : World} {F : Nat → Prop} {a : Option Addr} {l cap : Nat} {xs : List Chap} (h : rd w F [.slice a l cap] xs) {i : Nat} {x : Chap} (hx : xs[i]? = some x) :
    ∃ b off, a = some ⟨b, off, none⟩ ∧ F b ∧ w.cell? ⟨b, off + i * 2, none⟩ = some (.int .i64 x.id) ∧ (Lit.int .i64 x.id).wf = true ∧ ∃ a' cap', w.cell? ⟨b, off + i * 2 + 1, none⟩ = some (.slice a' x.lines.length cap') ∧ rd w F [.slice a' x.lines.length cap'] x.lines := by
  obtain ⟨b, off, ha, hb, es, hr, hc⟩ := rd_elem h hx
  obtain ⟨v, rfl, hw, hl⟩ := hr
  obtain ⟨a', cap', e, _⟩ := rd_list hl
  simp only [List.cons.injEq, and_true] at e
  subst e
  exact ⟨b, off, ha, hb, by simpa [Rep.n] using hc 0 _ rfl, hw, a', cap', by simpa [Rep.n] using hc 1 _ rfl, hl⟩



/-- int64's numbers -/
abbrev I64 (n : Int) : Prop := (Lit.int .i64 n).wf = true
theorem I64.bd {n : Int} (h : I64 n) : -9223372036854775808 ≤ n ∧ n ≤ 9223372036854775807 := by
  simpa [I64, Lit.wf, IntKind.min, IntKind.max, IntKind.signed, IntKind.bits] using h
theorem I64.of {n : Int} (h : -9223372036854775808 ≤ n ∧ n ≤ 9223372036854775807) : I64 n := WalkArith.wf_i64 h

instance : Rep PlaceD where
  n := 3
  rd _ _ cs x := cs = [.int .i64 x.ch, .int .i64 x.ln, .int .i64 x.wd] ∧ I64 x.ch ∧ I64 x.ln ∧ I64 x.wd
  len h := by rw [h.1]; rfl
  mono _ _ h := h
  one h := by rw [h.1]; simp [Value.oneCell']
instance : Rep ReadingD where
  n := 5
  rd _ _ cs x := cs = [.int .i64 x.pl.ch, .int .i64 x.pl.ln, .int .i64 x.pl.wd, .int .u8 x.kind, .string x.word] ∧ (I64 x.pl.ch ∧ I64 x.pl.ln ∧ I64 x.pl.wd) ∧ (Lit.int .u8 x.kind).wf = true ∧ x.word.size ≤ maxLen
  len h := by rw [h.1]; rfl
  mono _ _ h := h
  one h := by rw [h.1]; simp [Value.oneCell']
instance : Flat PlaceD := ⟨fun h => h⟩
instance : Flat ReadingD := ⟨fun h => h⟩
instance : Rep CopyD where
  n := 2
  rd w F cs x := ∃ v, cs = [.int .i64 x.id, v] ∧ I64 x.id ∧ rd w F [v] x.rs
  len h := by obtain ⟨v, rfl, _⟩ := h; rfl
  mono hF hk h := by obtain ⟨v, rfl, h1, h2⟩ := h; exact ⟨v, rfl, h1, Rep.mono hF hk h2⟩
  one h := by
    obtain ⟨v, rfl, _, h2⟩ := h
    intro u hu
    simp only [List.mem_cons, List.not_mem_nil, or_false] at hu
    rcases hu with rfl | rfl
    · rfl
    · exact Rep.one h2 _ (by simp)

/-! ### Readings in all that stands -/
/-- Cells read as a datum, in blocks of the world. -/
def Rd {α : Type} [Rep α] (w : World) (cs : List Value) (x : α) : Prop := rd w (· < w.heap.size) cs x

theorem Rd.below {α : Type} [Rep α] {w w' : World} {cs : List Value} {x : α} (h : Rd w cs x) (hb : Below w.heap.size w w') : Rd w' cs x :=
  Rep.mono (fun _ hlt => Nat.lt_of_lt_of_le hlt hb.size) (Keep.below hb) h
theorem Rd.alloc {α : Type} [Rep α] {w : World} {cs : List Value} {x : α} (h : Rd w cs x) (o : Obj) : Rd (w.alloc o) cs x := h.below ((Below.refl _ _).alloc (Nat.le_refl _) o)
theorem Rd.drew {α : Type} [Rep α] {w : World} {cs : List Value} {x : α} (h : Rd w cs x) : Rd w.drew cs x := h.below ((Below.refl _ _).drew)
theorem below_drewN {B : Nat} {a w : World} (h : Below B a w) (n : Nat) : Below B a (w.drewN n) := ⟨h.os, h.tape, h.output, h.size, h.block⟩
theorem Rd.drewN {α : Type} [Rep α] {w : World} {cs : List Value} {x : α} (h : Rd w cs x) (n : Nat) : Rd (w.drewN n) cs x := h.below (below_drewN (Below.refl _ _) n)
theorem rd.toRd {α : Type} [Rep α] {w : World} {F : Nat → Prop} {cs : List Value} {x : α} (h : rd w F cs x) (hF : ∀ b, F b → b < w.heap.size) : Rd w cs x :=
  Rep.mono hF (Keep.refl _ _) h

/-- A search through a list, one element more. -/
theorem any_take {α : Type} {l : List α} {k : Nat} {x : α} {p : α → Bool} (hx : l[k]? = some x) : (l.take (k + 1)).any p = ((l.take k).any p || p x) := by
  rw [List.take_add_one, hx]; simp
theorem any_of_take {α : Type} {l : List α} {k : Nat} {x : α} {p : α → Bool} (hx : l[k]? = some x) (hp : p x = true) : l.any p = true :=
  List.any_eq_true.2 ⟨x, List.mem_of_getElem? hx, hp⟩
theorem take_all {α : Type} {l : List α} {k : Nat} (h : l.length ≤ k) : l.take k = l := List.take_of_length_le h
theorem some_of_lt {α : Type} {l : List α} {k : Nat} (h : k < l.length) : ∃ x, l[k]? = some x := ⟨_, List.getElem?_eq_getElem h⟩
theorem lt_of_some {α : Type} {l : List α} {k : Nat} {x : α} (h : l[k]? = some x) : k < l.length := (List.getElem?_eq_some_iff.1 h).1
theorem rd_open {α : Type} [Rep α] {w : World} {v : Value} {xs : List α} (h : Rd w [v] xs) : ∃ a cap, v = .slice a xs.length cap ∧ xs.length ≤ cap ∧ cap ≤ 9223372036854775807 := by
  obtain ⟨a, cap, e, h1, h2, _⟩ := rd_list h
  simp only [List.cons.injEq, and_true] at e
  exact ⟨a, cap, e, h1, by simpa [maxLen] using h2⟩
/-- What stands below, cell by cell: rules for the walk. -/
theorem bcell {B : Nat} {W w1 : World} (hb : Below B W w1) : (∀ b o, b < B → w1.cell? ⟨b, o, none⟩ = W.cell? ⟨b, o, none⟩) ∧ (∀ b o, b < B → w1.frozen? ⟨b, o, none⟩ = W.frozen? ⟨b, o, none⟩) :=
  ⟨fun b o h => hb.cell (p := ⟨b, o, none⟩) h, fun b o h => hb.frozen (p := ⟨b, o, none⟩) h⟩
theorem Rd.str {w : World} {a : Option Addr} {l cap : Nat} {xs : List ByteArray} (h : Rd w [.slice a l cap] xs) {i : Nat} {x : ByteArray} (hx : xs[i]? = some x) :
    ∃ b off, a = some ⟨b, off, none⟩ ∧ b < w.heap.size ∧ w.cell? ⟨b, off + i, none⟩ = some (.string x) ∧ x.size ≤ 9223372036854775807 := by
  simpa [maxLen] using rd_str h hx
theorem Rd.sub {α : Type} [Rep α] {w : World} {a : Option Addr} {l cap : Nat} {xs : List (List α)} (h : Rd w [.slice a l cap] xs) {i : Nat} {x : List α} (hx : xs[i]? = some x) :
    ∃ b off, a = some ⟨b, off, none⟩ ∧ b < w.heap.size ∧ ∃ a' cap', w.cell? ⟨b, off + i, none⟩ = some (.slice a' x.length cap') ∧ Rd w [.slice a' x.length cap'] x := rd_sub h hx
theorem Rd.chap {w : World} {a : Option Addr} {l cap : Nat} {xs : List Chap} (h : Rd w [.slice a l cap] xs) {i : Nat} {x : Chap} (hx : xs[i]? = some x) :
    ∃ b off, a = some ⟨b, off, none⟩ ∧ b < w.heap.size ∧ w.cell? ⟨b, off + i * 2, none⟩ = some (.int .i64 x.id) ∧ (Lit.int .i64 x.id).wf = true ∧ ∃ a' cap', w.cell? ⟨b, off + i * 2 + 1, none⟩ = some (.slice a' x.lines.length cap') ∧ Rd w [.slice a' x.lines.length cap'] x.lines := rd_chap h hx
theorem Rd.bd {α : Type} [Rep α] {w : World} {a : Option Addr} {l cap : Nat} {xs : List α} (h : Rd w [.slice a l cap] xs) : xs.length ≤ cap ∧ cap ≤ 9223372036854775807 := by
  obtain ⟨_, h1, h2⟩ := rd_len h
  exact ⟨h1, by simpa [maxLen] using h2⟩
theorem Rd.reading {w : World} {a : Option Addr} {l cap : Nat} {xs : List ReadingD} (h : Rd w [.slice a l cap] xs) {i : Nat} {x : ReadingD} (hx : xs[i]? = some x) :
    ∃ b off, a = some ⟨b, off, none⟩ ∧ b < w.heap.size ∧ w.cell? ⟨b, off + i * 5, none⟩ = some (.int .i64 x.pl.ch) ∧ w.cell? ⟨b, off + i * 5 + 1, none⟩ = some (.int .i64 x.pl.ln) ∧ w.cell? ⟨b, off + i * 5 + 2, none⟩ = some (.int .i64 x.pl.wd) ∧ w.cell? ⟨b, off + i * 5 + 3, none⟩ = some (.int .u8 x.kind) ∧ w.cell? ⟨b, off + i * 5 + 4, none⟩ = some (.string x.word) ∧ (I64 x.pl.ch ∧ I64 x.pl.ln ∧ I64 x.pl.wd) ∧ (Lit.int .u8 x.kind).wf = true ∧ x.word.size ≤ 9223372036854775807 := by
  obtain ⟨b, off, ha, hb, es, hr, hc⟩ := rd_elem h hx
  obtain ⟨rfl, h1, h2, h3⟩ := hr
  exact ⟨b, off, ha, hb, by simpa [Rep.n] using hc 0 _ rfl, by simpa [Rep.n] using hc 1 _ rfl, by simpa [Rep.n] using hc 2 _ rfl, by simpa [Rep.n] using hc 3 _ rfl, by simpa [Rep.n] using hc 4 _ rfl, h1, h2, by simpa [maxLen] using h3⟩
theorem Rd.place {w : World} {a : Option Addr} {l cap : Nat} {xs : List PlaceD} (h : Rd w [.slice a l cap] xs) {i : Nat} {x : PlaceD} (hx : xs[i]? = some x) :
    ∃ b off, a = some ⟨b, off, none⟩ ∧ b < w.heap.size ∧ w.cell? ⟨b, off + i * 3, none⟩ = some (.int .i64 x.ch) ∧ w.cell? ⟨b, off + i * 3 + 1, none⟩ = some (.int .i64 x.ln) ∧ w.cell? ⟨b, off + i * 3 + 2, none⟩ = some (.int .i64 x.wd) ∧ I64 x.ch ∧ I64 x.ln ∧ I64 x.wd := by
  obtain ⟨b, off, ha, hb, es, hr, hc⟩ := rd_elem h hx
  obtain ⟨rfl, h1, h2, h3⟩ := hr
  exact ⟨b, off, ha, hb, by simpa [Rep.n] using hc 0 _ rfl, by simpa [Rep.n] using hc 1 _ rfl, by simpa [Rep.n] using hc 2 _ rfl, h1, h2, h3⟩
theorem Rd.int {w : World} {a : Option Addr} {l cap : Nat} {xs : List Int} (h : Rd w [.slice a l cap] xs) {i : Nat} {x : Int} (hx : xs[i]? = some x) :
    ∃ b off, a = some ⟨b, off, none⟩ ∧ b < w.heap.size ∧ w.cell? ⟨b, off + i, none⟩ = some (.int .i64 x) ∧ I64 x := by
  obtain ⟨b, off, ha, hb, hA⟩ := rd_elem h hx
  obtain ⟨v, hv, hr⟩ := hA.one rfl
  obtain ⟨e, hs⟩ : [v] = [Value.int .i64 x] ∧ I64 x := hr
  simp only [List.cons.injEq, and_true] at e
  subst e
  exact ⟨b, off, ha, hb, by simpa [Rep.n] using hv, hs⟩
/-- A datum lies in memory: a variable's box. -/
def RdAt {α : Type} [Rep α] (w : World) (b o : Nat) (x : α) : Prop := b < w.heap.size ∧ At w (· < w.heap.size) b o x
theorem RdAt.below {α : Type} [Rep α] {w w' : World} {b o : Nat} {x : α} (h : RdAt w b o x) (hb : Below w.heap.size w w') : RdAt w' b o x :=
  ⟨Nat.lt_of_lt_of_le h.1 hb.size, h.2.mono (fun _ hlt => Nat.lt_of_lt_of_le hlt hb.size) (Keep.below hb) h.1⟩
theorem RdAt.chap {w : World} {b : Nat} {x : Chap} (h : RdAt w b 0 x) : w.cell? ⟨b, 0, none⟩ = some (.int .i64 x.id) ∧ ∃ a cap, w.cell? ⟨b, 1, none⟩ = some (.slice a x.lines.length cap) ∧ Rd w [.slice a x.lines.length cap] x.lines := by
  obtain ⟨_, es, hr, hc⟩ := h
  obtain ⟨v, rfl, _, hl⟩ := hr
  obtain ⟨a', cap', e, _⟩ := rd_list hl
  simp only [List.cons.injEq, and_true] at e
  subst e
  exact ⟨by simpa using hc 0 _ rfl, a', cap', by simpa using hc 1 _ rfl, hl⟩
theorem RdAt.mk_chap {w : World} {b o : Nat} {x : Chap} {a : Option Addr} {cap : Nat} (hb : b < w.heap.size) (h0 : w.cell? ⟨b, o, none⟩ = some (.int .i64 x.id)) (h1 : w.cell? ⟨b, o + 1, none⟩ = some (.slice a x.lines.length cap)) (hw : (Lit.int .i64 x.id).wf = true) (hl : Rd w [.slice a x.lines.length cap] x.lines) : RdAt w b o x := by
  refine ⟨hb, [.int .i64 x.id, .slice a x.lines.length cap], ⟨_, rfl, hw, hl⟩, ?_⟩
  intro j e he
  match j, he with
  | 0, he => simp at he; subst he; exact h0
  | 1, he => simp at he; subst he; exact h1
/-- A slice lies in memory. -/
theorem RdAt.slice {α : Type} [Rep α] {w : World} {b o : Nat} {xs : List α} (h : RdAt w b o xs) : ∃ a cap, w.cell? ⟨b, o, none⟩ = some (.slice a xs.length cap) ∧ Rd w [.slice a xs.length cap] xs := by
  obtain ⟨_, hA⟩ := h
  obtain ⟨v, hv, hr⟩ := hA.one rfl
  obtain ⟨a', cap', e, _⟩ := rd_list hr
  simp only [List.cons.injEq, and_true] at e
  subst e
  exact ⟨a', cap', hv, hr⟩
theorem RdAt.mk_slice {α : Type} [Rep α] {w : World} {b o : Nat} {xs : List α} {v : Value} (hb : b < w.heap.size) (h0 : w.cell? ⟨b, o, none⟩ = some v) (hl : Rd w [v] xs) : RdAt w b o xs := by
  refine ⟨hb, [v], hl, ?_⟩
  intro j e he
  match j, he with
  | 0, he => simp at he; subst he; exact h0
/-- A type of one cell: its value. -/
class One (α : Type) [Rep α] where
  val : α → Value
  is : ∀ {w : World} {F : Nat → Prop} {cs : List Value} {x : α}, rd w F cs x → cs = [val x]
  n1 : Rep.n α = 1
instance : One Int := ⟨fun x => .int .i64 x, fun h => h.1, rfl⟩
instance : One U8 := ⟨fun x => .int .u8 x.v, fun h => h.1, rfl⟩
instance : One Bool := ⟨fun x => .bool x, fun h => h, rfl⟩
instance : One ByteArray := ⟨fun x => .string x, fun h => h.1, rfl⟩
theorem Rd.one {α : Type} [Rep α] [One α] {w : World} {a : Option Addr} {l cap : Nat} {xs : List α} (h : Rd w [.slice a l cap] xs) {i : Nat} {x : α} (hx : xs[i]? = some x) :
    ∃ b off, a = some ⟨b, off, none⟩ ∧ b < w.heap.size ∧ w.cell? ⟨b, off + i, none⟩ = some (One.val x) ∧ rd w (· < w.heap.size) [One.val x] x := by
  obtain ⟨b, off, ha, hb, hA⟩ := rd_elem h hx
  obtain ⟨v, hv, hr⟩ := hA.one One.n1
  have e := One.is hr
  simp only [List.cons.injEq, and_true] at e
  subst e
  exact ⟨b, off, ha, hb, by simpa [One.n1] using hv, hr⟩
/-- The condition on the worlds of a region that draws its order: what stands at its head stands. -/
def Std (w w' : World) : Prop := Below w.heap.size w w'
theorem std_of {w w' : World} (h : Below w.heap.size w w') : Std w w' ∧ (∀ b o, b < w.heap.size → w'.cell? ⟨b, o, none⟩ = w.cell? ⟨b, o, none⟩) := ⟨h, (bcell h).1⟩
/-- Equality as a test, closed to the walk. -/
def eqB {α : Type} [DecidableEq α] (a b : α) : Bool := decide (a = b)
theorem eqB_true {α : Type} [DecidableEq α] {a b : α} (h : a = b) : eqB a b = true := by simp [eqB, h]
theorem eqB_false {α : Type} [DecidableEq α] {a b : α} (h : a ≠ b) : eqB a b = false := by simp [eqB, h]
theorem of_eqB {α : Type} [DecidableEq α] {a b : α} (h : eqB a b = true) : a = b := by simpa [eqB] using h
theorem str_ne {x y : ByteArray} (h : (!x.toList == y.toList) = true) : x ≠ y := fun e => by subst e; simp at h
theorem toList_inj {x y : ByteArray} (h : x.toList = y.toList) : x = y := by
  rw [ByteArray.toList_eq, ByteArray.toList_eq] at h
  exact _root_.ByteArray.ext (Array.toList_inj.1 h)
theorem str_eq {x y : ByteArray} (h : (!x.toList == y.toList) = false) : x = y := toList_inj (by simpa using h)
theorem ret_bool {a b : Bool} (h : a = b) : Ending.returned (.bool a) = .returned (.bool b) := by rw [h]
theorem ret_int {k : IntKind} {a b : Int} (h : a = b) : Ending.returned (.int k a) = .returned (.int k b) := by rw [h]
end Go.PB
