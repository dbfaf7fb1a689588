/-
 The arguments of the laws: copies; two listed tables.
-/
import Derived.Test.YtjjklfgpffgnfabGreatDoorOpenK
import Derived.Test.YtjjklfgpffgnfabGreatDoorGrpG
namespace Go.AB
open Go Go.RowKit
open Go.AB.Enc (cells)
open Go.PB (bh af PlaceD ar bp cj)
theorem OpensE.reading {P : Program} {t tP tU tS : TypeId} [oP : OpensE P tP PlaceD] [oU : OpensE P tU U8] [oS : OpensE P tS ByteArray] (h : i0 P t [(0, tP, 3), (3, tU, 1), (4, tS, 1)] 5 = true) : OpensE P t ar :=
 .struct (α := ar) h fun w cs hl hp => by
  obtain ⟨a, ha⟩ := hp (0, tP, 3) (by simp) PlaceD inferInstance oP
  obtain ⟨b, hb⟩ := hp (3, tU, 1) (by simp) U8 inferInstance oU
  obtain ⟨c, hc⟩ := hp (4, tS, 1) (by simp) ByteArray inferInstance oS
  match cs, hl with
  | [u, v, x, y, z], _ =>
   refine ⟨⟨a, b.v, c⟩, Rs.cons (ha.2 0 _ u rfl rfl) (Rs.cons (ha.2 1 _ v rfl rfl) (Rs.cons (ha.2 2 _ x rfl rfl) (Rs.cons (Rs.single_inv hb) hc)))⟩
theorem OpensE.copy {P : Program} {t tI tL : TypeId} [oI : OpensE P tI Int] [oL : OpensE P tL (List ar)] (h : i0 P t [(0, tI, 1), (1, tL, 1)] 2 = true) : OpensE P t bp :=
 .struct (α := bp) h fun w cs hl hp => by
  obtain ⟨a, ha⟩ := hp (0, tI, 1) (by simp) Int inferInstance oI
  obtain ⟨b, hb⟩ := hp (1, tL, 1) (by simp) (List ar) inferInstance oL
  match cs, hl with
  | [u, v], _ => exact ⟨⟨a, b⟩, Rs.cons (Rs.single_inv ha) hb⟩
end Go.AB
namespace Go.Proofs.YtjjklfgpffgnfabGreatDoor
set_option maxRecDepth 10000
open Go.ChangeShapes Go.WideShapes Go.ChangeAt Go.RowKit Go.AB
open Go.AB.Enc (cells)
open Go.PB (bh af PlaceD ar bp cj)
instance : OpensE Tryz.prog 5 U8 := .u8 (by kernel_rfl)
instance : OpensE Tryz.prog 143 ar := .reading (tP := 49) (tU := 5) (tS := 9) (by kernel_rfl)
instance : OpensE Tryz.prog 70 (List ar) := .slice (e := 143) (by kernel_rfl) (by decide)
theorem uei : i0 Tryz.prog 72 [(0, 3, 1), (1, 70, 1)] 2 = true := by kernel_rfl
instance : OpensE Tryz.prog 72 bp := .copy (tI := 3) (tL := 70) uei
abbrev qt : List (String × DataW Unit) := [("postil/leaf.kinds", Rows.laid_postil_leaf_kinds), ("postil/chart.checks", Rows.laid_postil_chart_checks)]
set_option maxRecDepth 100000 in
/-- The door's own heap meets the condition. -/
theorem un8 (os : Os) (args : Array Value) : laidMetH Tryz.prog qt ((World.doorLaid Tryz.prog 600 os).forCall (fun _ _ => 0) ⟨#[], args, []⟩).memory :=
 laidMetH_of_parts3 (fuel := 8) (laidMet_of_run' 8 (by kernel_rfl) (by kernel_rfl)) (by kernel_rfl) (by kernel_rfl)
theorem ulw {W : World} (h : laidMetH Tryz.prog qt W) : R (jo W) W (.elem kndL) (.pointer (some ⟨1, 0, none⟩)) := ulx (h.funcs (List.mem_cons_self ..))
theorem uo3 {W : World} (h : laidMetH Tryz.prog qt W) : R (jo W) W (.elem [.fn (.func 162) [], .fn (.func 163) [], .fn (.func 164) []]) (.pointer (some ⟨0, 0, none⟩)) := uo4 (h.funcs (List.mem_cons_of_mem _ (List.mem_cons_self ..)))
end Go.Proofs.YtjjklfgpffgnfabGreatDoor
