/-
  A slice that the call makes and appends to: what it holds reads as a list; where the new row lies.
-/
import Derived.Test.YtalkonicppbgdaaCan
namespace Go.PB
open Go Go.RowKit
open Go.PB.Rep (rd)

section
variable {P : Program} (w : World)

theorem run_append_zero (t ty e : TypeId) (i : TypeInfo) (ht : P.underlying t = some (.slice e)) (hi : P.info? e = some i)
    (v : Value) (base n size : Nat) (xs : List Value) (hown : w.ownsRow base e size v n xs) (ao : Option Addr) (c : Nat) :
    (Builtin.append_ #[t, t] ty #[v, .slice ao 0 c]).run P w = .ok v w := by
  have hz : ∀ a : Addr, (loadCells a (0 * i.size)).run P w = .ok #[] w := by intro a; simp [loadCells, loadCellsFrom]
  rcases hown.2 with ⟨rfl, rfl⟩ | ⟨g, cap, cur, rfl, _, _, hnc, _⟩
  · cases ao <;> simp [Builtin.append_, run_underlying ht, sizeOf, typeInfo, hi, Builtin.lenOf, Builtin.firstCells, loadCells, loadCellsFrom]
  · cases ao <;> simp [Builtin.append_, run_underlying ht, sizeOf, typeInfo, hi, Builtin.lenOf, Builtin.firstCells, hnc, loadCells, loadCellsFrom, storeCells]

/-- append: what is owned behind it, what was written, and where the row lies. -/
theorem run_append_at (base : Nat) (t ty e : TypeId) (i : TypeInfo) (z : Value) (size bytes : Nat) (ht : P.underlying t = some (.slice e)) (hi : P.info? e = some i) (hz : i.zero = some z)
    (hsize : i.size = size) (hby : i.bytes = bytes) (hzs : z.cells.size = size)
    (v : Value) (n : Nat) (xs : List Value) (hown : w.ownsRow base e size v n xs)
    (ao : Option Addr) (m c : Nat) (news : List Value) (hl : news.length = m * size) (hnews : m = 0 ∨ ∃ a, ao = some a ∧ ∀ j u, news[j]? = some u → w.cell? (a.add j) = some u) (h1 : ∀ u ∈ news, u.oneCell' = true)
    (h63 : n + m ≤ maxLen) (hbytes : (n + m) * bytes ≤ 140737488355328) (hbase : base ≤ w.heap.size) :
    ∃ v' w', (Builtin.append_ #[t, t] ty #[v, .slice ao m c]).run P w = .ok v' w' ∧ w'.ownsRow base e size v' (n + m) (xs ++ news) ∧ w.grownBy w' v.ownBlock ∧
      (v'.ownBlock = v.ownBlock ∨ v'.ownBlock = some w.heap.size) := by
  by_cases hm : m = 0
  · subst hm
    have hn : news = [] := List.eq_nil_of_length_eq_zero (by simpa using hl)
    subst hn
    exact ⟨v, w, run_append_zero w t ty e i ht hi v base n size xs hown ao c, by simpa using hown, ⟨rfl, rfl, rfl, Nat.le_refl _, fun _ _ _ => rfl⟩, .inl rfl⟩
  · obtain ⟨a, rfl, hcells⟩ := hnews.resolve_left hm
    subst hsize
    subst hby
    have hsmall : n + m ≤ 9223372036854775807 := by simp only [maxLen] at h63; omega
    have hlen : (xs ++ news).length = (n + m) * i.size := by rw [List.length_append, hown.1, hl, Nat.add_mul]
    have grown : ∀ (old : Nat), ∀ (row : Option Nat),
        (w.drew.alloc (.cells (xs.toArray ++ news.toArray ++ Builtin.zeroCells z.cells (grownCap w (n + m) old e - (n + m))) e)).ownsRow base e i.size
          (.slice (some ⟨w.heap.size, 0, none⟩) (n + m) (grownCap w (n + m) old e)) (n + m) (xs ++ news) ∧
        w.grownBy (w.drew.alloc (.cells (xs.toArray ++ news.toArray ++ Builtin.zeroCells z.cells (grownCap w (n + m) old e - (n + m))) e)) row := by
      intro old row
      have hge := grownCap_ge w (n + m) old e
      have hcm : grownCap w (n + m) old e ≤ maxLen := grownCap_le_maxLen w (n + m) old e h63
      refine ⟨⟨hlen, .inr ⟨w.heap.size, _, _, rfl, hbase, heap_alloc_new w.drew _, hge, hcm, ?_, ?_⟩⟩, ⟨rfl, rfl, rfl, by simp, fun k hk _ => Below.heap_alloc w.drew _ k hk⟩⟩
      · simp only [Array.size_append, List.size_toArray, size_zeroCells, hzs, hown.1, hl, ← Nat.add_mul]
        congr 1
        omega
      · simp only [Array.toList_append, List.append_assoc]
        rw [← List.append_assoc, ← hlen]
        exact List.take_left
    rcases hown.2 with ⟨rfl, rfl⟩ | ⟨g, cap, cur, rfl, hbg, hg, hnc, hcm, hcs, htake⟩
    · have hx : xs = [] := List.eq_nil_of_length_eq_zero (by simpa using hown.1)
      subst hx
      have hr := run_append_nil (P := P) w t ty e i z ht hi hz a m c news hl hcells (by omega) (by omega) (by have hb := hbytes; simp only [Nat.zero_add] at hb; omega)
      have hgr := grown 0 (Value.ownBlock (.slice none 0 0))
      simp only [Nat.zero_add, List.nil_append, Array.empty_append] at hgr ⊢
      exact ⟨_, _, hr, hgr.1, hgr.2, .inr rfl⟩
    · by_cases hroom : n + m ≤ cap
      · have hfit : n * i.size + news.length ≤ cur.size := by rw [hl, hcs, ← Nat.add_mul]; exact Nat.mul_le_mul_right _ hroom
        have hr := run_append_room (P := P) w t ty e i ht hi g n cap cur hg a m c news hl hcells h1 hroom hfit
        refine ⟨_, _, hr, ⟨hlen, .inr ⟨g, cap, _, rfl, hbg, setRow_heap w g cur _ e _ hg, hroom, hcm, ?_, ?_⟩⟩, ⟨rfl, rfl, rfl, by simp, fun k _ hk => setRow_other w g k _ (fun e => hk (by simp [Value.ownBlock, e]))⟩, .inl rfl⟩
        · simp only [List.size_toArray, List.length_append, List.length_take, List.length_drop, Array.length_toList]
          omega
        · rw [htake, ← hlen]
          exact List.take_left
      · have holds : ∀ j u, xs[j]? = some u → w.cell? ((⟨g, 0, none⟩ : Addr).add j) = some u := hown.cells (g := g) rfl
        have hr := run_append_grow (P := P) w t ty e i z ht hi hz ⟨g, 0, none⟩ n cap xs hown.1 holds a m c news hl hcells (by omega) (by omega) (growslice_fits (by omega) hbytes)
        have hgr := grown cap (Value.ownBlock (.slice (some ⟨g, 0, none⟩) n cap))
        exact ⟨_, _, hr, hgr.1, hgr.2, .inr rfl⟩
end

/-! ### What the call has built -/
/-- Cells, n of them a datum, read as a list. -/
def RdRow {α : Type} [Rep α] (w : World) (F : Nat → Prop) (cs : List Value) (xs : List α) : Prop :=
  ∀ i x, xs[i]? = some x → ∃ es, rd w F es x ∧ ∀ j e, es[j]? = some e → cs[i * Rep.n α + j]? = some e

/-- v is a slice of the call's own, from block base on; what it holds reads as xs, in blocks of F; its own row is none of F. -/
def Built {α : Type} [Rep α] (w : World) (base : Nat) (e : TypeId) (v : Value) (xs : List α) (F : Nat → Prop) : Prop :=
  ∃ cs, w.ownsRow base e (Rep.n α) v xs.length cs ∧ RdRow w F cs xs ∧ ∀ b, F b → b < w.heap.size ∧ some b ≠ v.ownBlock

theorem Built.nil {α : Type} [Rep α] (w : World) (base : Nat) (e : TypeId) : Built w base e (.slice none 0 0) ([] : List α) (fun _ => False) :=
  ⟨[], by simpa using World.ownsRow_nil w base e (Rep.n α), fun i x h => by simp at h, fun b h => h.elim⟩

/-- 'make([]T, 0, n)', '[]T{}': nothing as yet. -/
theorem Built.made {α : Type} [Rep α] (w : World) (base : Nat) (e : TypeId) (hb : base ≤ w.heap.size) : Built (w.alloc (.cells #[] e)).drew base e (.slice (some ⟨w.heap.size, 0, none⟩) 0 0) ([] : List α) (fun _ => False) :=
  ⟨[], by
    have := World.ownsRow_made (w := w) (base := base) (e := e) (size := Rep.n α) #[] 0 hb (by simp [maxLen]) (by simp)
    exact ⟨by simp, this.2⟩, fun i x h => by simp at h, fun b h => h.elim⟩

theorem RdRow.mono {α : Type} [Rep α] {w w' : World} {F F' : Nat → Prop} {cs : List Value} {xs : List α} (hF : ∀ b, F b → F' b) (hk : Keep F w w') (h : RdRow w F cs xs) : RdRow w' F' cs xs :=
  fun i x hx => let ⟨es, h1, h2⟩ := h i x hx; ⟨es, Rep.mono hF hk h1, h2⟩

/-- Another row is written, or blocks are made. -/
theorem Built.kept {α : Type} [Rep α] {w w' : World} {base : Nat} {e : TypeId} {v : Value} {xs : List α} {F : Nat → Prop} (h : Built w base e v xs F) {row : Option Nat} (hg : w.grownBy w' row)
    (h1 : v.ownBlock = none ∨ v.ownBlock ≠ row) (h2 : ∀ b, F b → some b ≠ row) : Built w' base e v xs F := by
  obtain ⟨cs, ho, hr, hF⟩ := h
  exact ⟨cs, ho.kept hg h1, hr.mono (fun _ h => h) (fun b hb => hg.block b (hF b hb).1 (h2 b hb)), fun b hb => ⟨Nat.lt_of_lt_of_le (hF b hb).1 hg.size, (hF b hb).2⟩⟩

theorem Built.below {α : Type} [Rep α] {w w' : World} {base : Nat} {e : TypeId} {v : Value} {xs : List α} {F : Nat → Prop} (h : Built w base e v xs F) (hb : Below w.heap.size w w') : Built w' base e v xs F := by
  refine h.kept (row := none) ⟨hb.os, hb.tape, hb.output, hb.size, fun k hk _ => hb.block k hk⟩ ?_ (fun _ _ => by simp)
  cases v.ownBlock <;> simp

theorem grownBy_setCell (w : World) (a : Addr) (u : Value) : w.grownBy (w.setCell a u) (some a.block) :=
  ⟨rfl, rfl, rfl, by simp [World.setCell], fun k _ hk => Below.heap_setCell w a u k (fun e => hk (by rw [e]))⟩
/-- A variable's cell is written. -/
theorem Built.setCell {α : Type} [Rep α] {w : World} {base : Nat} {e : TypeId} {v : Value} {xs : List α} {F : Nat → Prop} (h : Built w base e v xs F) (a : Addr) (u : Value)
    (h1 : v.ownBlock ≠ some a.block) (h2 : ∀ b, F b → b ≠ a.block) : Built (w.setCell a u) base e v xs F :=
  h.kept (grownBy_setCell w a u) (.inr h1) (fun b hb e => h2 b hb (by simpa using e))
theorem Built.drew {α : Type} [Rep α] {w : World} {base : Nat} {e : TypeId} {v : Value} {xs : List α} {F : Nat → Prop} (h : Built w base e v xs F) : Built w.drew base e v xs F := h.below ((Below.refl _ _).drew)
theorem Built.cast {α : Type} [Rep α] {w : World} {base : Nat} {e : TypeId} {v : Value} {xs ys : List α} {F : Nat → Prop} (h : Built w base e v xs F) (e : xs = ys) : Built w base ‹_› v ys F := e ▸ h

/-- Elements more. -/
theorem Built.app {α : Type} [Rep α] {w w' : World} {base : Nat} {e : TypeId} {v v' : Value} {xs ys : List α} {F F2 : Nat → Prop} {cs news : List Value}
    (ho : w.ownsRow base e (Rep.n α) v xs.length cs) (hr : RdRow w F cs xs) (hF : ∀ b, F b → b < w.heap.size ∧ some b ≠ v.ownBlock)
    (hy : RdRow w F2 news ys) (hF2 : ∀ b, F2 b → b < w.heap.size ∧ some b ≠ v.ownBlock)
    (ho' : w'.ownsRow base e (Rep.n α) v' (xs.length + ys.length) (cs ++ news)) (hg : w.grownBy w' v.ownBlock) (hv' : v'.ownBlock = v.ownBlock ∨ v'.ownBlock = some w.heap.size) :
    Built w' base e v' (xs ++ ys) (fun b => F b ∨ F2 b) := by
  have hkeep : ∀ G : Nat → Prop, (∀ b, G b → b < w.heap.size ∧ some b ≠ v.ownBlock) → Keep G w w' := fun G hG b hb => hg.block b (hG b hb).1 (hG b hb).2
  refine ⟨cs ++ news, by simpa using ho', ?_, ?_⟩
  · intro i y hi
    rw [List.getElem?_append] at hi
    split at hi
    · rename_i hlt
      obtain ⟨fs, h1, h2⟩ := hr i y hi
      refine ⟨fs, Rep.mono (fun _ h => .inl h) (hkeep F hF) h1, fun j u hu => ?_⟩
      rw [List.getElem?_append_left]
      · exact h2 j u hu
      · exact (List.getElem?_eq_some_iff.1 (h2 j u hu)).1
    · rename_i hlt
      obtain ⟨fs, h1, h2⟩ := hy _ y hi
      refine ⟨fs, Rep.mono (fun _ h => .inr h) (hkeep F2 hF2) h1, fun j u hu => ?_⟩
      have h3 := h2 j u hu
      have he : i * Rep.n α + j = cs.length + ((i - xs.length) * Rep.n α + j) := by
        rw [ho.1]
        have : i * Rep.n α = xs.length * Rep.n α + (i - xs.length) * Rep.n α := by rw [← Nat.add_mul]; congr 1; omega
        omega
      rw [he, List.getElem?_append_right (by omega)]
      simpa using h3
  · rintro b (hb | hb)
    · refine ⟨Nat.lt_of_lt_of_le (hF b hb).1 hg.size, ?_⟩
      rcases hv' with h | h
      · rw [h]; exact (hF b hb).2
      · rw [h]; have := (hF b hb).1; simp; omega
    · refine ⟨Nat.lt_of_lt_of_le (hF2 b hb).1 hg.size, ?_⟩
      rcases hv' with h | h
      · rw [h]; exact (hF2 b hb).2
      · rw [h]; have := (hF2 b hb).1; simp; omega

/-- What was built reads as a list. -/
theorem Built.rd {α : Type} [Rep α] {w : World} {base : Nat} {e : TypeId} {v : Value} {xs : List α} {F : Nat → Prop} (h : Built w base e v xs F) :
    rd w (fun b => F b ∨ some b = v.ownBlock) [v] xs := by
  obtain ⟨cs, ho, hr, hF⟩ := h
  rcases ho.2 with ⟨rfl, h0⟩ | ⟨g, cap, cur, rfl, hb, hg, hnc, hcm, hcs, htake⟩
  · have hx : xs = [] := List.eq_nil_of_length_eq_zero h0
    subst hx
    exact ⟨none, 0, rfl, Nat.le_refl _, Nat.zero_le _, .inl rfl⟩
  · refine ⟨some ⟨g, 0, none⟩, cap, rfl, hnc, hcm, .inr ⟨g, 0, rfl, .inr (by simp [Value.ownBlock]), fun i x hx => ?_⟩⟩
    obtain ⟨es, h1, h2⟩ := hr i x hx
    refine ⟨es, Rep.mono (fun _ h => .inl h) (Keep.refl _ _) h1, fun j u hu => ?_⟩
    have h3 := h2 j u hu
    rw [cell_of_row w g _ cur e (0, 0) hg]
    rw [← htake, List.getElem?_take] at h3
    split at h3
    · simpa using h3
    · cases h3

theorem Built.lt {α : Type} [Rep α] {w : World} {base : Nat} {e : TypeId} {v : Value} {xs : List α} {F : Nat → Prop} (h : Built w base e v xs F) : ∀ b, some b = v.ownBlock → base ≤ b ∧ b < w.heap.size := by
  obtain ⟨cs, ho, _⟩ := h
  exact fun b hb => ho.lt b hb.symm

theorem Built.shape {α : Type} [Rep α] {w : World} {base : Nat} {e : TypeId} {v : Value} {xs : List α} {F : Nat → Prop} (h : Built w base e v xs F) : ∃ a cap, v = .slice a xs.length cap := by
  obtain ⟨cs, ho, _⟩ := h
  rcases ho.2 with ⟨rfl, h0⟩ | ⟨g, cap, cur, rfl, _⟩
  · exact ⟨none, 0, by rw [h0]⟩
  · exact ⟨_, _, rfl⟩

theorem Built.shape' {α : Type} [Rep α] {w : World} {base : Nat} {e : TypeId} {v : Value} {xs : List α} {F : Nat → Prop} (h : Built w base e v xs F) {n : Nat} (hn : xs.length = n) : ∃ a cap, v = .slice a n cap := by
  subst hn; exact h.shape

/-! ### append in a walk -/
/-- What is appended. -/
def Src {α : Type} [Rep α] (w : World) (F : Nat → Prop) (ao : Option Addr) (m : Nat) (ys : List α) : Prop :=
  ys.length = m ∧ ∃ news : List Value, news.length = m * Rep.n α ∧ (m = 0 ∨ ∃ a, ao = some a ∧ ∀ j u, news[j]? = some u → w.cell? (a.add j) = some u) ∧ RdRow w F news ys ∧ ∀ u ∈ news, u.oneCell' = true

theorem addr_add (b o j : Nat) : (⟨b, o, none⟩ : Addr).add j = ⟨b, o + j, none⟩ := by unfold Addr.add; split <;> simp_all

/-- The cells of a list, one behind the other. -/
theorem cells_of {α : Type} [Rep α] {w : World} {F : Nat → Prop} {b : Nat} : ∀ (xs : List α) (off : Nat), (∀ i x, xs[i]? = some x → At w F b (off + i * Rep.n α) x) →
    ∃ news : List Value, news.length = xs.length * Rep.n α ∧ (∀ j u, news[j]? = some u → w.cell? ⟨b, off + j, none⟩ = some u) ∧ RdRow w F news xs ∧ ∀ u ∈ news, u.oneCell' = true := by
  intro xs
  induction xs with
  | nil => intro off _; exact ⟨[], by simp, fun j u h => by simp at h, fun i x h => by simp at h, fun u h => by cases h⟩
  | cons x xs ih =>
    intro off h
    obtain ⟨es, h1, h2⟩ := h 0 x rfl
    have hl := Rep.len h1
    obtain ⟨news, n1, n2, n3, n4⟩ := ih (off + Rep.n α) (fun i y hy => by
      have := h (i + 1) y (by simpa using hy)
      have e : off + (i + 1) * Rep.n α = off + Rep.n α + i * Rep.n α := by rw [Nat.add_mul]; omega
      rwa [e] at this)
    refine ⟨es ++ news, by rw [List.length_append, hl, n1, List.length_cons, Nat.add_mul]; omega, ?_, ?_, ?_⟩
    · intro j u hu
      rw [List.getElem?_append] at hu
      split at hu
      · have := h2 j u hu
        simpa using this
      · rename_i hlt
        have := n2 _ u hu
        have e : off + Rep.n α + (j - es.length) = off + j := by omega
        rwa [e] at this
    · intro i y hy
      cases i with
      | zero =>
        simp at hy
        subst hy
        refine ⟨es, h1, fun j u hu => ?_⟩
        rw [List.getElem?_append_left (by simpa using (List.getElem?_eq_some_iff.1 hu).1)]
        simpa using hu
      | succ i =>
        obtain ⟨fs, f1, f2⟩ := n3 i y (by simpa using hy)
        refine ⟨fs, f1, fun j u hu => ?_⟩
        have e : (i + 1) * Rep.n α + j = es.length + (i * Rep.n α + j) := by rw [Nat.add_mul, hl]; omega
        rw [e, List.getElem?_append_right (by omega)]
        simpa using f2 j u hu
    · intro u hu
      rcases List.mem_append.1 hu with h3 | h3
      · exact Rep.one h1 u h3
      · exact n4 u h3

/-- A slice that reads as a list. -/
theorem Src.of_rd {α : Type} [Rep α] {w : World} {F : Nat → Prop} {ao : Option Addr} {m c : Nat} {ys : List α} (h : rd w F [.slice ao m c] ys) : Src w F ao m ys := by
  obtain ⟨a, cap, e, _, _, h3⟩ := rd_list h
  simp only [List.cons.injEq, Value.slice.injEq, and_true] at e
  obtain ⟨rfl, rfl, rfl⟩ := e
  refine ⟨rfl, ?_⟩
  rcases h3 with rfl | ⟨b, off, rfl, _, h4⟩
  · exact ⟨[], by simp, .inl rfl, fun i x h => by simp at h, fun u h => by cases h⟩
  · obtain ⟨news, n1, n2, n3, n4⟩ := cells_of ys off h4
    exact ⟨news, n1, .inr ⟨_, rfl, fun j u hu => by rw [addr_add]; exact n2 j u hu⟩, n3, n4⟩

/-- The one element that append(l, x) lays in a new row. -/
theorem Src.of_new {α : Type} [Rep α] {w : World} {F : Nat → Prop} {cs : Array Value} {e : TypeId} {x : α} (h : rd w F cs.toList x) (hF : ∀ b, F b → b < w.heap.size) :
    Src (w.alloc (.cells cs e)) F (some ⟨w.heap.size, 0, none⟩) 1 [x] := by
  refine ⟨rfl, cs.toList, by rw [Rep.len h]; simp, .inr ⟨_, rfl, ?_⟩, ?_, Rep.one h⟩
  · intro j u hu
    rw [addr_add, Nat.zero_add, World.cell?_alloc_new]
    simpa using hu
  · intro i y hy
    cases i with
    | zero =>
      simp at hy
      subst hy
      exact ⟨cs.toList, Rep.mono (fun _ h => h) (fun b hb => Below.heap_alloc w _ b (hF b hb)) h, fun j u hu => by simpa using hu⟩
    | succ i => simp at hy

theorem Src.flat {α : Type} [Rep α] [Flat α] {w : World} {F F' : Nat → Prop} {ao : Option Addr} {m : Nat} {ys : List α} (h : Src w F ao m ys) : Src w F' ao m ys := by
  obtain ⟨h1, news, n1, n2, n3, n4⟩ := h
  exact ⟨h1, news, n1, n2, fun i x hx => let ⟨es, e1, e2⟩ := n3 i x hx; ⟨es, Flat.flat e1, e2⟩, n4⟩

/-- A slice's type, its element's cells and bytes. -/
structure ATy (P : Program) (t e : TypeId) (n bytes : Nat) : Prop where
  ht : P.underlying t = some (.slice e)
  hi : ∃ i z, P.info? e = some i ∧ i.zero = some z ∧ i.size = n ∧ i.bytes = bytes ∧ z.cells.size = n

theorem ATy.mk' {P : Program} {t e : TypeId} {n bytes : Nat} (z : Value) (h1 : P.underlying t = some (.slice e)) (h2 : (P.info? e).map (fun i => (i.zero, i.size, i.bytes)) = some (some z, n, bytes)) (h3 : z.cells.size = n) : ATy P t e n bytes := by
  obtain ⟨i, hi, hz0, hz1, hz2⟩ := info_parts h2
  exact ⟨h1, i, z, hi, hz0, hz1, hz2, h3⟩

theorem wp_append_built {P : Program} {o : Oper} {a : Act} {w : World} {K : Act → World → Prop} {Q : Exit → Act → World → Prop} {α : Type} [Rep α] (s x : Operand) (t : TypeId)
    (ho : o.op = .call { callee := .builtin .append, args := #[s, x], argTypes := #[t, t] }) {e : TypeId} {bytes : Nat} (hty : ATy P t e (Rep.n α) bytes)
    {base : Nat} {v : Value} {xs : List α} {F : Nat → Prop} (hb : Built w base e v xs F)
    {ao : Option Addr} {m c : Nat} {ys : List α} {F2 : Nat → Prop} (hsrc : Src w F2 ao m ys) (hs : a.eval s = v) (hx : a.eval x = .slice ao m c) (hF2 : ∀ b, F2 b → b < w.heap.size ∧ some b ≠ v.ownBlock)
    (hbytes : (xs.length + m) * bytes ≤ 140737488355328) (hmax : xs.length + m ≤ 9223372036854775807) (hbase : base ≤ w.heap.size)
    (h : ∀ v' w', Built w' base e v' (xs ++ ys) (fun b => F b ∨ F2 b) → w.grownBy w' v.ownBlock → (v'.ownBlock = v.ownBlock ∨ v'.ownBlock = some w.heap.size) → K (a.put o.dst v') w') : o.wp P a w K Q := by
  obtain ⟨ht, i, z, hi, hz, hsz, hby, hzs⟩ := hty
  obtain ⟨cs, hown, hr, hF⟩ := hb
  obtain ⟨hl, news, n1, n2, n3, n4⟩ := hsrc
  obtain ⟨v', w', hrun, h2, h3, h4⟩ := run_append_at (P := P) w base t o.type e i z (Rep.n α) bytes ht hi hz hsz hby hzs v xs.length cs hown ao m c news n1 n2 n4 (by simpa [maxLen] using hmax) hbytes hbase
  unfold Oper.wp execOp
  simp only [ho, resolve, invoke, builtin, Sem.run_bind, Sem.run_pure, Result.andThen_ok, List.map_toArray, List.map_cons, List.map_nil, hs, hx, hrun]
  subst hl
  exact h v' w' (Built.app hown hr hF n3 hF2 h2 h3 h4) h3 h4

theorem wpList_append_built {P : Program} {ops : Array Oper} {rest : List Oper} {o : Oper} {a : Act} {w : World} {Q : Exit → Act → World → Prop} {α : Type} [Rep α] (hgd : o.guard = none) (s x : Operand) (t : TypeId)
    (ho : o.op = .call { callee := .builtin .append, args := #[s, x], argTypes := #[t, t] }) {e : TypeId} {bytes : Nat} (hty : ATy P t e (Rep.n α) bytes)
    {base : Nat} {v : Value} {xs : List α} {F : Nat → Prop} (hb : Built w base e v xs F)
    {ao : Option Addr} {m c : Nat} {ys : List α} {F2 : Nat → Prop} (hsrc : Src w F2 ao m ys) (hs : a.eval s = v) (hx : a.eval x = .slice ao m c) (hF2 : ∀ b, F2 b → b < w.heap.size ∧ some b ≠ v.ownBlock)
    (hbytes : (xs.length + m) * bytes ≤ 140737488355328) (hmax : xs.length + m ≤ 9223372036854775807) (hbase : base ≤ w.heap.size)
    (h : ∀ v' w', Built w' base e v' (xs ++ ys) (fun b => F b ∨ F2 b) → w.grownBy w' v.ownBlock → (v'.ownBlock = v.ownBlock ∨ v'.ownBlock = some w.heap.size) → wpList P ops Q rest (a.put o.dst v') w') : wpList P ops Q (o :: rest) a w :=
  wpList_plain hgd fun _ hK => wp_append_built s x t ho hty hb hsrc hs hx hF2 hbytes hmax hbase fun v' w' h1 h2 h3 => hK _ _ (h v' w' h1 h2 h3)

/-- The same at a step of a region that draws its order. -/
theorem step_append_built {P : Program} {ops : Array Oper} {o : Oper} {a : Act} {w : World} {K : Act → World → Prop} {Q : Exit → Act → World → Prop} {E : Prop} {α : Type} [Rep α] (hgd : o.guard = none) (s x : Operand) (t : TypeId)
    (ho : o.op = .call { callee := .builtin .append, args := #[s, x], argTypes := #[t, t] }) {e : TypeId} {bytes : Nat} (hty : ATy P t e (Rep.n α) bytes)
    {base : Nat} {v : Value} {xs : List α} {F : Nat → Prop} (hb : Built w base e v xs F)
    {ao : Option Addr} {m c : Nat} {ys : List α} {F2 : Nat → Prop} (hsrc : Src w F2 ao m ys) (hs : a.eval s = v) (hx : a.eval x = .slice ao m c) (hF2 : ∀ b, F2 b → b < w.heap.size ∧ some b ≠ v.ownBlock)
    (hbytes : (xs.length + m) * bytes ≤ 140737488355328) (hmax : xs.length + m ≤ 9223372036854775807) (hbase : base ≤ w.heap.size)
    (h : ∀ v' w', Built w' base e v' (xs ++ ys) (fun b => F b ∨ F2 b) → w.grownBy w' v.ownBlock → (v'.ownBlock = v.ownBlock ∨ v'.ownBlock = some w.heap.size) → K (a.put o.dst v') w') :
    if Region.wanted o (yielded ops a.tmps) = true then Oper.wp P o a w K Q else E := by
  rw [if_pos (by simp [Region.wanted, hgd])]
  exact wp_append_built s x t ho hty hb hsrc hs hx hF2 hbytes hmax hbase h
end Go.PB
