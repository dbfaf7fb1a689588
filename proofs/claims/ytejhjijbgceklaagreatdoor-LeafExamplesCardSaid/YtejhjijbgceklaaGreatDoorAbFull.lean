/-
 Slices without room: what is appended to them is copied.
-/
import Derived.Test.YtejhjijbgceklaaGreatDoorEngA
import Derived.Laws.Cover3
namespace Go.AB
open Go Go.RowKit
open Go.AB.Enc (cells)
section
variable {P : Program} {o : Oper} {st : St} {K : St → Prop}
/-- A field of one cell, of a struct that is at hand. -/
theorem n_field {t : TypeId} {x : Operand} {f off : Nat} {ft : TypeId} [Fld P t f off ft] [Ty P ft false 1] {cs : List C} {c : C} (ho : o.op = .field t x f) (hx : evC st x = .agg cs) (hc : cs[off]? = some c) : NStep P o st c := fun E w a hs => by
 obtain ⟨vs, e1, hr, h1⟩ := (hx ▸ hs.ev x).agg_inv
 have hlt : off < vs.length := by rw [hr.1]; exact (List.getElem?_eq_some_iff.1 hc).1
 obtain ⟨fs, fd, g1, g2, g3, g4, g5⟩ := Fld.spec (P := P) (t := t) (f := f) (off := off) (ft := ft)
 refine ⟨vs[off], hr.2 off c _ hc (List.getElem?_eq_getElem hlt), fun w' => ?_⟩
 have q2 := Ty.size (P := P) (w := w') (t := ft) (ag := false) (n := 1)
 have q3 := Ty.row (P := P) (w := w') (t := ft) (ag := false) (n := 1)
 subst g3; subst g4
 simp [execOp, ho, Instr.field, asAgg, e1, run_underlying g1, g2, q2, q3, part, hlt]
end
section
variable {ρ : Option Nat} {P : Program} {st : St} {Q : Exit → St → Prop}
end
end Go.AB
