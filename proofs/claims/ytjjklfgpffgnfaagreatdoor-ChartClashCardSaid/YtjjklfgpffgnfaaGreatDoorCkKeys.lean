/-
 Keys: numbers; lines.
-/
import Derived.Test.YtjjklfgpffgnfaaGreatDoorAbTypes
import Derived.Maps.Own
import Derived.Tactics
import Derived.WalkMore
namespace Go.Proofs.YtjjklfgpffgnfaaGreatDoor
set_option maxRecDepth 10000
open Go Go.RowKit Go.AB
theorem rh : laidOutB Tryz.prog = true := by kernel_rfl
theorem uan : ∃ m, Tryz.prog.types.size = m + 3 := ⟨Tryz.prog.types.size - 3, by have : 3 ≤ Tryz.prog.types.size := of_decide_eq_true (by kernel_rfl); omega⟩
theorem sc : Tryz.prog.underlying 3 = some (.int .i64) := by kernel_rfl
instance : KeyT Tryz.prog 3 Int where
 keyed := Go.Maps.int_keyed sc
 has {E w x v} h := ⟨.int .i64 x, by
  have h1 := re (rj h)
  simp [keyOf, mapKey, sc, KeyV.kv, h1]⟩
theorem qn : Tryz.prog.underlying 115 = some (.array 2 3) := by kernel_rfl
theorem vw : Tryz.prog.cellsOf 115 = 2 := by kernel_rfl
theorem ubc : Tryz.prog.cellsOf 3 = 1 := by kernel_rfl
theorem uhq : Tryz.prog.keyType 115 = true := by kernel_rfl
theorem uhp : Go.Maps.Keyed Tryz.prog 115 := Go.Maps.Keyed.of_law (deep_law_laid rh (m := 2) (by omega) (of_decide_eq_true (by kernel_rfl)) (by kernel_rfl) (by rw [qn]))
theorem uhr {i k : Int} (hi : (Lit.int .i64 i).wf = true) (hk : (Lit.int .i64 k).wf = true) : ∃ l, keyOf Tryz.prog 115 (.agg #[.int .i64 i, .int .i64 k]) = some l := by
 obtain ⟨m, hm⟩ := uan
 have hf : (Value.agg #[.int .i64 i, .int .i64 k]).formed Tryz.prog 115 = true := by simp [Value.formed, qn, vw]
 refine ⟨.string (keyBytes [.int .i64 i, .int .i64 k]), ?_⟩
 unfold keyOf
 rw [qn]
 simp only [uhq, hf, Bool.and_self, if_true]
 have e0 : (List.range 2) = [0, 1] := rfl
 have hl : Tryz.prog.keyLits (Tryz.prog.types.size + 1) 115 (Value.agg #[.int .i64 i, .int .i64 k]).cells.toList = some [.int .i64 i, .int .i64 k] := by
  rw [hm]
  unfold Program.keyLits
  simp only [qn, vw, ubc, Value.cells]
  unfold Program.keyLits
  simp [sc, e0, hi, hk]
 rw [hl]
 rfl
instance : KeyT Tryz.prog 115 (Int × Int) where
 keyed := uhp
 has {E w x v} h := by
  obtain ⟨vs, rfl, h1, _⟩ := R.agg_inv h
  match vs, h1 with
  | [a, b], h1 => exact uhr (re (rj (h1.2 0 _ _ rfl rfl))) (re (rj (h1.2 1 _ _ rfl rfl)))
  | [], h => exact absurd h.1 (by simp)
  | [_], h => exact absurd h.1 (by simp)
  | _ :: _ :: _ :: _, h => exact absurd h.1 (by simp)
end Go.Proofs.YtjjklfgpffgnfaaGreatDoor
