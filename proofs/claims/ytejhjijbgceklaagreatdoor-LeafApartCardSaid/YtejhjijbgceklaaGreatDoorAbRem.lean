/-
 Remainders, numbers of one kind as numbers of another one; an argument that is a byte.
-/
import Derived.Test.YtejhjijbgceklaaGreatDoorEngB
import Derived.Test.YtejhjijbgceklaaGreatDoorGrpS
namespace Go.AB
open Go Go.RowKit Go.ChangeShapes Go.WideShapes
open Go.AB.Enc (cells)
variable {P : Program} {o : Oper} {st : St}
theorem n_conv {s d : TypeId} {x : Operand} {k : IntKind} {n : Int} (ho : o.op = .convert s d x) (hx : evC st x = .v (.int k n)) (hs : (P.underlying s).isSome = true) (hd : P.underlying d = some (.int .i64)) (hn : -9223372036854775808 ≤ n ∧ n ≤ 9223372036854775807) : NStep P o st (.v (.int .i64 n)) := fun E w a h => by
 have e1 := (hx ▸ h.ev x).v_inv
 refine ⟨_, .v (okV_i64 hn), fun w' => ?_⟩
 have hk : P.intKind d = .i64 := by simp [Program.intKind, hd]
 have hw : IntKind.i64.wrap n = n := by rw [IntKind.wrap_i64]; omega
 have := run_convert_int (P := P) w' s d k n hs (by rw [hk]; exact hd)
 rw [hk, hw] at this
 simp [execOp, ho, e1, this]
/-- two bools -/
theorem n_beql {t t' : TypeId} {X Y : Operand} {a b : Bool} (ho : o.op = .binOp .eql t X Y t') (hx : evC st X = .v (.bool a)) (hy : evC st Y = .v (.bool b)) (ht : P.underlying t = some .bool) : NStep P o st (.v (.bool (a == b))) := fun E w ac h => by
 have e1 := (hx ▸ h.ev X).v_inv
 have e2 := (hy ▸ h.ev Y).v_inv
 refine ⟨_, .v rfl, fun w' => ?_⟩
 have hq := run_equal_bool (P := P) w' t a b ht
 have hb : binOp .eql t (.bool a) (.bool b) = (do pure (.bool (← Op.equal t (.bool a) (.bool b))) : Sem Value) := rfl
 simp only [execOp, ho, e1, e2, Sem.run_bind, eqGuard, hb]
 simp [hq]
theorem beq_iff {a : Bool} {q : Prop} [Decidable q] (h : a = true ↔ q) : (a == decide q) = true := by
 rw [beq_iff_eq, Bool.eq_iff_iff, decide_eq_true_eq]; exact h
end Go.AB
