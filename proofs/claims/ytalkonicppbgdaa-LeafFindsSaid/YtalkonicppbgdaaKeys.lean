/-
  Keys that are pairs of numbers; worlds that differ in one block.
-/
import Derived.Test.YtalkonicppbgdaaMap
import Derived.Test.YtalkonicppbgdaaRef1
import Derived.Maps.Own
import Derived.WalkMore
namespace Go.Proofs.Ytalkonicppbgdaa
open Go.RowKit Go.PB

theorem laidOut : laidOutB Try.prog = true := by kernel_rfl
theorem manyTypes : ∃ m, Try.prog.types.size = m + 3 := ⟨Try.prog.types.size - 3, by have : 3 ≤ Try.prog.types.size := of_decide_eq_true (by kernel_rfl); omega⟩
theorem pairLaw : Go.Maps.Keyed Try.prog 75 := Go.Maps.Keyed.of_law (deep_law_laid laidOut (m := 2) (by omega) (of_decide_eq_true (by kernel_rfl)) (by kernel_rfl) (by rw [Try.underlying75]))
theorem pairKeyType : Try.prog.keyType 75 = true := by kernel_rfl
theorem pairCells : Try.prog.cellsOf 75 = 2 := by kernel_rfl
theorem intCells : Try.prog.cellsOf 3 = 1 := by kernel_rfl

theorem pairKey {i k : Int} (hi : I64 i) (hk : I64 k) : ∃ l, keyOf Try.prog 75 (.agg #[.int .i64 i, .int .i64 k]) = some l := by
  obtain ⟨m, hm⟩ := manyTypes
  have hf : (Value.agg #[.int .i64 i, .int .i64 k]).formed Try.prog 75 = true := by simp [Value.formed, Try.underlying75, pairCells]
  refine ⟨.string (keyBytes [.int .i64 i, .int .i64 k]), ?_⟩
  unfold keyOf
  rw [Try.underlying75]
  simp only [pairKeyType, hf, Bool.and_self, if_true]
  have e0 : (List.range 2) = [0, 1] := rfl
  have hl : Try.prog.keyLits (Try.prog.types.size + 1) 75 (Value.agg #[.int .i64 i, .int .i64 k]).cells.toList = some [.int .i64 i, .int .i64 k] := by
    rw [hm]
    unfold Program.keyLits
    simp only [Try.underlying75, pairCells, intCells, Value.cells]
    unfold Program.keyLits
    simp [Try.underlying3, e0, hi, hk]
  rw [hl]
  rfl
end Go.Proofs.Ytalkonicppbgdaa
