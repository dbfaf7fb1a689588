/-
  The arguments of the laws of charts: places and references.
-/
import Derived.Test.YtjjklfgpffgnfaaGreatDoorOpenC
import Derived.Test.YtjjklfgpffgnfaaGreatDoorEaPlain
namespace Go.AB
open Go Go.RowKit
open Go.AB.Enc (cells)
open Go.PB (Chap TextD PlaceD ReadingD CopyD WayD)
theorem OpensE.ref {P : Program} {t tI : TypeId} [oI : OpensE P tI Int] (h : stcChk P t [(0, tI, 1), (1, tI, 1), (2, tI, 1)] 3 = true) : OpensE P t RefD :=
  .struct (α := RefD) h fun w cs hl hp => by
    obtain ⟨a, ha⟩ := hp (0, tI, 1) (by simp) Int inferInstance oI
    obtain ⟨b, hb⟩ := hp (1, tI, 1) (by simp) Int inferInstance oI
    obtain ⟨c, hc⟩ := hp (2, tI, 1) (by simp) Int inferInstance oI
    match cs, hl with
    | [u, v, x], _ => exact ⟨⟨a, b, c⟩, Rs.cons (Rs.single_inv ha) (Rs.cons (Rs.single_inv hb) hc)⟩
end Go.AB
namespace Go.Proofs.YtjjklfgpffgnfaaGreatDoor
set_option maxRecDepth 10000
open Go.ChangeShapes Go.WideShapes Go.ChangeAt Go.RowKit Go.AB
open Go.AB.Enc (cells)
open Go.PB (Chap TextD PlaceD ReadingD CopyD WayD)
theorem refStc : stcChk Tryz.prog 29 [(0, 3, 1), (1, 3, 1), (2, 3, 1)] 3 = true := by kernel_rfl
instance : OpensE Tryz.prog 29 RefD := .ref (tI := 3) refStc
end Go.Proofs.YtjjklfgpffgnfaaGreatDoor
