/-
 Keys: numbers; lines.
-/
import Derived.Test.YtjjklfgpffgnfabGreatDoorAbTypes
import Derived.Maps.Own
import Derived.Tactics
import Derived.WalkMore
namespace Go.Proofs.YtjjklfgpffgnfabGreatDoor
set_option maxRecDepth 10000
open Go Go.RowKit Go.AB
theorem laidOutK : laidOutB Tryz.prog = true := by kernel_rfl
theorem manyTypesK : ∃ m, Tryz.prog.types.size = m + 3 := ⟨Tryz.prog.types.size - 3, by have : 3 ≤ Tryz.prog.types.size := of_decide_eq_true (by kernel_rfl); omega⟩
theorem uIntK : Tryz.prog.underlying 3 = some (.int .i64) := by kernel_rfl
instance : KeyT Tryz.prog 3 Int where
 keyed := Go.Maps.int_keyed uIntK
 has {E w x v} h := ⟨.int .i64 x, by
  have h1 := lit_i64 (key_i64 h)
  simp [keyOf, mapKey, uIntK, KeyV.kv, h1]⟩
theorem uLineK : Tryz.prog.underlying 95 = some (.array 2 3) := by kernel_rfl
theorem lineCells : Tryz.prog.cellsOf 95 = 2 := by kernel_rfl
theorem intCellsK : Tryz.prog.cellsOf 3 = 1 := by kernel_rfl
theorem lineKeyType : Tryz.prog.keyType 95 = true := by kernel_rfl
theorem lineLaw : Go.Maps.Keyed Tryz.prog 95 := Go.Maps.Keyed.of_law (deep_law_laid laidOutK (m := 2) (by omega) (of_decide_eq_true (by kernel_rfl)) (by kernel_rfl) (by rw [uLineK]))
theorem lineKey {i k : Int} (hi : (Lit.int .i64 i).wf = true) (hk : (Lit.int .i64 k).wf = true) : ∃ l, keyOf Tryz.prog 95 (.agg #[.int .i64 i, .int .i64 k]) = some l := by
 obtain ⟨m, hm⟩ := manyTypesK
 have hf : (Value.agg #[.int .i64 i, .int .i64 k]).formed Tryz.prog 95 = true := by simp [Value.formed, uLineK, lineCells]
 refine ⟨.string (keyBytes [.int .i64 i, .int .i64 k]), ?_⟩
 unfold keyOf
 rw [uLineK]
 simp only [lineKeyType, hf, Bool.and_self, if_true]
 have e0 : (List.range 2) = [0, 1] := rfl
 have hl : Tryz.prog.keyLits (Tryz.prog.types.size + 1) 95 (Value.agg #[.int .i64 i, .int .i64 k]).cells.toList = some [.int .i64 i, .int .i64 k] := by
  rw [hm]
  unfold Program.keyLits
  simp only [uLineK, lineCells, intCellsK, Value.cells]
  unfold Program.keyLits
  simp [uIntK, e0, hi, hk]
 rw [hl]
 rfl
instance : KeyT Tryz.prog 95 (Int × Int) where
 keyed := lineLaw
 has {E w x v} h := by
  obtain ⟨vs, rfl, h1, _⟩ := R.agg_inv h
  match vs, h1 with
  | [a, b], h1 => exact lineKey (lit_i64 (key_i64 (h1.2 0 _ _ rfl rfl))) (lit_i64 (key_i64 (h1.2 1 _ _ rfl rfl)))
  | [], h => exact absurd h.1 (by simp)
  | [_], h => exact absurd h.1 (by simp)
  | _ :: _ :: _ :: _, h => exact absurd h.1 (by simp)
end Go.Proofs.YtjjklfgpffgnfabGreatDoor
