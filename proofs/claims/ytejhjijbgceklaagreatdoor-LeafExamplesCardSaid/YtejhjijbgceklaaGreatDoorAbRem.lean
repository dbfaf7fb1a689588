/-
 Remainders, numbers of one kind as numbers of another one; an argument that is a byte.
-/
import Derived.Test.YtejhjijbgceklaaGreatDoorEngB
import Derived.Test.YtejhjijbgceklaaGreatDoorGrpS
namespace Go.AB
open Go Go.RowKit Go.ChangeShapes Go.WideShapes
open Go.AB.Enc (cells)
variable {P : Program} {o : Oper} {st : St}
theorem n_conv {s d : TypeId} {x : Operand} {k : IntKind} {n : Int} (ho : o.op = .convert s d x) (hx : evC st x = .v (.int k n)) (hs : (P.underlying s).isSome = true) (hd : P.underlying d = some (.int .i64)) (hn : -9223372036854775808 ≤ n ∧ n ≤ 9223372036854775807) : NStep P o st (.v (.int .i64 n)) := fun E w a h => by
 have e1 := (hx ▸ h.ev x).v_inv
 refine ⟨_, .v (okV_i64 hn), fun w' => ?_⟩
 have hk : P.intKind d = .i64 := by simp [Program.intKind, hd]
 have hw : IntKind.i64.wrap n = n := by rw [IntKind.wrap_i64]; omega
 have := run_convert_int (P := P) w' s d k n hs (by rw [hk]; exact hd)
 rw [hk, hw] at this
 simp [execOp, ho, e1, this]
end Go.AB
