/-
  The memory that leaf.readings' two function values share.
-/
import Derived.Test.YtalkonicppbgdaaKeys
import Derived.Test.YtalkonicppbgdaaFew
namespace Go.PB
open Go Go.RowKit

/-- Nothing but block M has turned. -/
def But (M : Nat) (w w' : World) : Prop := w.grownBy w' (some M)
theorem But.refl (M : Nat) (w : World) : But M w w := ⟨rfl, rfl, rfl, Nat.le_refl _, fun _ _ _ => rfl⟩
theorem But.trans {M : Nat} {a b c : World} (h : But M a b) (k : But M b c) : But M a c :=
  ⟨k.os.trans h.os, k.tape.trans h.tape, k.output.trans h.output, Nat.le_trans h.size k.size, fun i hi hn => (k.block i (Nat.lt_of_lt_of_le hi h.size) hn).trans (h.block i hi hn)⟩
theorem But.of_below {M : Nat} {a b : World} (h : Below a.heap.size a b) : But M a b := ⟨h.os, h.tape, h.output, h.size, fun i hi _ => h.block i hi⟩
theorem But.below {M B : Nat} {a b : World} (h : But M a b) (hB : B ≤ M) (hs : B ≤ a.heap.size) : Below B a b :=
  ⟨h.os, h.tape, h.output, h.size, fun i hi => h.block i (by omega) (fun e => by have := Option.some.inj e; omega)⟩
theorem But.cell {M : Nat} {a b : World} (h : But M a b) {p : Addr} {v : Value} (hp : a.cell? p = some v) (hn : p.block ≠ M) : b.cell? p = some v := World.grownBy.cell h hp (by simpa using hn)
theorem But.frozen {M : Nat} {a b : World} (h : But M a b) {p : Addr} (hp : p.block < a.heap.size) (hn : p.block ≠ M) : b.frozen? p = a.frozen? p := World.frozen?_of_block (h.block p.block hp (by simpa using hn))
theorem But.grown {M : Nat} {a b c : World} (h : But M a b) (hg : b.grownBy c (some M)) : But M a c := h.trans hg
theorem But.setCell {M : Nat} {a b : World} (h : But M a b) {p : Addr} (hp : a.heap.size ≤ p.block) (u : Value) : But M a (b.setCell p u) :=
  ⟨h.os, h.tape, h.output, by have := h.size; simpa [World.setCell] using this, fun i hi hn => (Below.heap_setCell _ _ _ _ (by omega)).trans (h.block i hi hn)⟩
theorem But.alloc {M : Nat} {a b : World} (h : But M a b) (o : Obj) : But M a (b.alloc o) := h.trans (But.of_below ((Below.refl _ _).alloc (Nat.le_refl _) o))
theorem But.drewN {M : Nat} {a b : World} (h : But M a b) (n : Nat) : But M a (b.drewN n) := ⟨h.os, h.tape, h.output, h.size, h.block⟩

/-- what the memory tells is right -/
def Memo (a b : List ByteArray) (f : Value → Option Value) : Prop := ∀ (i k : Nat) v, f (.agg #[.int .i64 i, .int .i64 k]) = some v → v = .int .i64 (fewAt a b i k)
theorem Memo.nil (a b : List ByteArray) : Memo a b (fun _ => none) := fun _ _ _ h => by cases h
theorem Memo.put {a b : List ByteArray} {f : Value → Option Value} (h : Memo a b f) (i k : Nat) : Memo a b (mput f (.agg #[.int .i64 i, .int .i64 k]) (.int .i64 (fewAt a b i k))) := by
  intro i' k' v hv
  by_cases e : (Value.agg #[.int .i64 (i' : Int), .int .i64 (k' : Int)]) = .agg #[.int .i64 i, .int .i64 k]
  · simp only [Value.agg.injEq, Array.mk.injEq, List.cons.injEq, Value.int.injEq, true_and, and_true] at e
    obtain ⟨e1, e2⟩ := e
    have e1' : i' = i := by omega
    have e2' : k' = k := by omega
    subst e1'; subst e2'
    rw [mput_same] at hv
    exact (Option.some.inj hv).symm
  · rw [mput_other _ _ _ e] at hv
    exact h i' k' v hv
end Go.PB

namespace Go.Proofs.Ytalkonicppbgdaa
open Go.RowKit Go.PB

def capsNext (A B W F : Nat) : Array Value := #[.pointer (some ⟨A, 0, none⟩), .pointer (some ⟨B, 0, none⟩), .pointer (some ⟨W, 0, none⟩), .pointer (some ⟨F, 0, none⟩)]
def capsFew (K A B F N : Nat) : Array Value := #[.pointer (some ⟨K, 0, none⟩), .pointer (some ⟨A, 0, none⟩), .pointer (some ⟨B, 0, none⟩), .pointer (some ⟨F, 0, none⟩), .pointer (some ⟨N, 0, none⟩)]

/-- The boxes: A, B: the lines; W: the ways; M: the map; K: its box; F, N: the two function values. -/
structure Env (W0 : World) (a b : List ByteArray) (va vb : Value) (A B W M K F N : Nat) (w : World) : Prop where
  below : Below W0.heap.size W0 w
  lo : W0.heap.size ≤ M
  hA : A < w.heap.size ∧ A ≠ M
  hB : B < w.heap.size ∧ B ≠ M
  hW : W < w.heap.size ∧ W ≠ M
  hK : K < w.heap.size ∧ K ≠ M
  hF : F < w.heap.size ∧ F ≠ M
  hN : N < w.heap.size ∧ N ≠ M
  cA : w.cell? ⟨A, 0, none⟩ = some va
  cB : w.cell? ⟨B, 0, none⟩ = some vb
  cW : w.cell? ⟨W, 0, none⟩ = some (.int .u8 3) ∧ w.cell? ⟨W, 1, none⟩ = some (.int .i64 1) ∧ w.cell? ⟨W, 2, none⟩ = some (.int .i64 1) ∧
    w.cell? ⟨W, 3, none⟩ = some (.int .u8 1) ∧ w.cell? ⟨W, 4, none⟩ = some (.int .i64 1) ∧ w.cell? ⟨W, 5, none⟩ = some (.int .i64 0) ∧
    w.cell? ⟨W, 6, none⟩ = some (.int .u8 2) ∧ w.cell? ⟨W, 7, none⟩ = some (.int .i64 0) ∧ w.cell? ⟨W, 8, none⟩ = some (.int .i64 1)
  cK : w.cell? ⟨K, 0, none⟩ = some (.map (some M))
  cF : w.cell? ⟨F, 0, none⟩ = some (.func (.func 33) #[] (capsFew K A B F N))
  cN : w.cell? ⟨N, 0, none⟩ = some (.func (.func 32) #[] (capsNext A B W F))
  memo : ∃ f, MapF Try.prog 75 w M f ∧ Memo a b f

theorem Env.but {W0 : World} {a b : List ByteArray} {va vb : Value} {A B W M K F N : Nat} {w w' : World} (h : Env W0 a b va vb A B W M K F N w) (hk : But M w w') (hm : ∃ f, MapF Try.prog 75 w' M f ∧ Memo a b f) : Env W0 a b va vb A B W M K F N w' := by
  obtain ⟨c0, c1, c2, c3, c4, c5, c6, c7, c8⟩ := h.cW
  have hs := hk.size
  refine ⟨h.below.trans (hk.below h.lo h.below.size), h.lo, ⟨by have := h.hA.1; omega, h.hA.2⟩, ⟨by have := h.hB.1; omega, h.hB.2⟩, ⟨by have := h.hW.1; omega, h.hW.2⟩, ⟨by have := h.hK.1; omega, h.hK.2⟩, ⟨by have := h.hF.1; omega, h.hF.2⟩, ⟨by have := h.hN.1; omega, h.hN.2⟩,
    hk.cell h.cA h.hA.2, hk.cell h.cB h.hB.2, ⟨hk.cell c0 h.hW.2, hk.cell c1 h.hW.2, hk.cell c2 h.hW.2, hk.cell c3 h.hW.2, hk.cell c4 h.hW.2, hk.cell c5 h.hW.2, hk.cell c6 h.hW.2, hk.cell c7 h.hW.2, hk.cell c8 h.hW.2⟩,
    hk.cell h.cK h.hK.2, hk.cell h.cF h.hF.2, hk.cell h.cN h.hN.2, hm⟩

/-- .. where the map has not turned either -/
theorem Env.keep {W0 : World} {a b : List ByteArray} {va vb : Value} {A B W M K F N : Nat} {w w' : World} (h : Env W0 a b va vb A B W M K F N w) (hk : Below w.heap.size w w') : Env W0 a b va vb A B W M K F N w' := by
  obtain ⟨f, hf, hm⟩ := h.memo
  exact h.but (But.of_below hk) ⟨f, hf.below hk hf.lt, hm⟩

/-- what a call of the two leaves -/
def Left (a b : List ByteArray) (M : Nat) (w w' : World) : Prop := But M w w' ∧ ∃ f, MapF Try.prog 75 w' M f ∧ Memo a b f
end Go.Proofs.Ytalkonicppbgdaa
