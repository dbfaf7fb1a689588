/-
 The arguments of the laws of charts; what the table of checks holds.
-/
import Derived.Test.YtjjklfgpffgnfabGreatDoorCuFuncs
import Derived.Test.YtjjklfgpffgnfabGreatDoorCkKeys
import Derived.Test.YtjjklfgpffgnfabGreatDoorOpenE
import Derived.Test.YtjjklfgpffgnfabGreatDoorRows
import Derived.LaidMore
namespace Go.AB
open Go Go.RowKit
open Go.AB.Enc (cells)
def fnChk (P : Program) (t : TypeId) : Bool := match P.underlying t with | some (.func _ _ _) => true | _ => false
theorem fnChk_spec {P : Program} {t : TypeId} (h : fnChk P t = true) : ∃ ps rs va, P.underlying t = some (.func ps rs va) := by
 unfold fnChk at h
 split at h
 ·rename_i ps rs va he; exact ⟨ps, rs, va, he⟩
 ·cases h
/-- Functions that lie in a variable's cells. -/
theorem elem_cells {W : World} {b : Nat} {cs : List C} (hne : cs ≠ []) (hone : ∀ c ∈ cs, c.one = true) (us : Nat → Value) (hc : ∀ j, j < cs.length → W.cell? ⟨b, j, none⟩ = some (us j)) (hr : ∀ j c, cs[j]? = some c → R (allE W) W c (us j)) : R (allE W) W (.elem cs) (.pointer (some ⟨b, 0, none⟩)) := by
 have hl : 0 < cs.length := List.length_pos_iff.2 hne
 refine .elem hne hone (.inr ⟨b, 0, rfl, ?_, fun j hj => by rw [Nat.zero_add]; exact hc j hj⟩) hr
 have := cellsIn_of (hc (cs.length - 1) (by omega))
 show 0 + cs.length ≤ cellsIn W b
 omega
end Go.AB
namespace Go.Proofs.YtjjklfgpffgnfabGreatDoor
set_option maxRecDepth 10000
open Go.ChangeShapes Go.WideShapes Go.ChangeAt Go.RowKit Go.AB
open Go.AB.Enc (cells)
open Go.PB (Chap TextD PlaceD ReadingD CopyD WayD)
theorem boolOk : Tryz.prog.underlying 4 = some .bool := by kernel_rfl
theorem ownZ : ownKnob Tryz.prog.godebug = none := by kernel_rfl

abbrev laidC : List (String × DataW Unit) := [("postil/chart.checks", Rows.laid_postil_chart_checks)]
set_option maxRecDepth 100000 in
/-- The door's own heap meets the condition. -/
theorem door_metC (os : Os) (args : Array Value) : laidMetH Tryz.prog laidC ((World.doorLaid Tryz.prog 600 os).forCall (fun _ _ => 0) ⟨#[], args, []⟩).memory :=
 laidMetH_of_parts3 (fuel := 8) (laidMet_of_run' 8 (by kernel_rfl) (by kernel_rfl)) (by kernel_rfl) (by kernel_rfl)
theorem gChecks : Tryz.prog.globalNamed "postil/chart.checks" = some 0 := by kernel_rfl
theorem tChecks : (Tryz.prog.globals[0]?).map (·.type) = some 164 := by kernel_rfl
theorem uChecks : Tryz.prog.underlying 164 = some (.array 3 163) := by kernel_rfl
theorem cChecks : Tryz.prog.cellsOf 164 = 3 := by kernel_rfl
theorem cCheck : Tryz.prog.cellsOf 163 = 1 := by kernel_rfl
theorem sCheck : stcChk Tryz.prog 163 [(0, 129, 1)] 1 = true := by kernel_rfl
theorem fCheck : ∃ ps rs va, Tryz.prog.underlying 129 = some (.func ps rs va) := fnChk_spec (by kernel_rfl)
/-- one function of the table -/
theorem check_at {W : World} {m : Nat} {cs : List Value} {b : UInt8} {r : List UInt8} {y : DataW (List UInt8) × List MemPlace} {f0 : FuncId} (hy : y.1 = .agg [.held (b :: r)])
  (hone : ((List.range Tryz.prog.funcs.size).filter fun f => (Tryz.prog.funcs[f]?).any (·.name.toUTF8.data.toList == b :: r)) = [f0])
  (h : DataW.trod (funcToken Tryz.prog) Tryz.prog W 0 (fun _ => true) true m 163 cs = some y) : cs = [.func (.func f0) #[] #[]] := by
 obtain ⟨_, fs, he⟩ := stcChk_cells sCheck
 obtain ⟨xs, m', _, e1, hl, hlen, hf⟩ := DataW.trod_struct he h
 obtain ⟨_, hp⟩ := stcChk_spec sCheck h
 rw [cCheck] at hl
 have hfs : fs.toList.map (fun f => (f.offset, f.type, Tryz.prog.cellsOf f.type)) = [(0, 129, 1)] := by
  have := sCheck
  unfold stcChk at this
  rw [he] at this
  simp only [Bool.and_eq_true, beq_iff_eq] at this
  exact this.1
 obtain ⟨l⟩ := fs
 match l, hfs with
 | [f], hfs =>
  simp only [List.map_cons, List.map_nil, List.cons.injEq, Prod.mk.injEq, and_true] at hfs
  have h0 := hf 0 f rfl
  rw [hfs.1, hfs.2.1] at h0
  rw [show Tryz.prog.cellsOf 129 = 1 by kernel_rfl] at h0
  match cs, hl with
  | [v], _ =>
   match xs, hlen with
   | [x], _ =>
    subst e1
    simp only [List.map_cons, List.map_nil, DataW.agg.injEq, List.cons.injEq, and_true] at hy
    obtain ⟨x1, x2⟩ := x
    dsimp only at hy
    subst hy
    obtain ⟨ps, rs, va, hu⟩ := fCheck
    exact congrArg (fun v => [v]) (func_of_trod hu hone h0)
 | [], hfs => exact absurd hfs (by simp)
 | _ :: _ :: _, hfs => exact absurd hfs (by simp)
/-- What the condition gives the walks. -/
theorem checks_of_funcs {W : World} (h : funcsAt Tryz.prog W "postil/chart.checks" (.agg [.agg [.iface "func" (.lit (.string [112, 111, 115, 116, 105, 108, 47, 99, 104, 97, 114, 116, 46, 99, 104, 101, 99, 107, 115, 36, 49]))], .agg [.iface "func" (.lit (.string [112, 111, 115, 116, 105, 108, 47, 99, 104, 97, 114, 116, 46, 99, 104, 101, 99, 107, 115, 36, 50]))], .agg [.iface "func" (.lit (.string [112, 111, 115, 116, 105, 108, 47, 99, 104, 97, 114, 116, 46, 99, 104, 101, 99, 107, 115, 36, 51]))]])) : R (allE W) W (.elem [.fn (.func 162) [], .fn (.func 163) [], .fn (.func 164) []]) (.pointer (some ⟨0, 0, none⟩)) := by
 obtain ⟨g, t, cs, fuel, p, hg, ht, hv, hd⟩ := h
 obtain rfl := Option.some.inj (gChecks.symm.trans hg)
 obtain rfl := Option.some.inj (tChecks.symm.trans ht)
 obtain ⟨xs, m, _, e1, hl, hn, hel⟩ := DataW.trod_array uChecks hd
 rw [cChecks] at hl
 rw [cCheck] at hel
 have hcell := fun i => World.var?_cell hg hv i
 obtain ⟨l⟩ := cs
 dsimp only at hl hel hcell
 match l, hl with
 | [u0, u1, u2], _ =>
  match xs, hn with
  | [x0, x1, x2], _ =>
   simp only [Prod.mk.injEq] at e1
   have e2 : (.agg [.agg [.held [112, 111, 115, 116, 105, 108, 47, 99, 104, 97, 114, 116, 46, 99, 104, 101, 99, 107, 115, 36, 49]], .agg [.held [112, 111, 115, 116, 105, 108, 47, 99, 104, 97, 114, 116, 46, 99, 104, 101, 99, 107, 115, 36, 50]], .agg [.held [112, 111, 115, 116, 105, 108, 47, 99, 104, 97, 114, 116, 46, 99, 104, 101, 99, 107, 115, 36, 51]]] : DataW (List UInt8)) = .agg [x0.1, x1.1, x2.1] := e1.1
   simp only [DataW.agg.injEq, List.cons.injEq, and_true] at e2
   have q0 := check_at (f0 := 162) e2.1.symm (by kernel_rfl) (hel 0 (by omega))
   have q1 := check_at (f0 := 163) e2.2.1.symm (by kernel_rfl) (hel 1 (by omega))
   have q2 := check_at (f0 := 164) e2.2.2.symm (by kernel_rfl) (hel 2 (by omega))
   simp only [Nat.zero_mul, Nat.one_mul, List.drop_zero, List.drop_succ_cons, List.take_succ_cons, List.take_zero, List.cons.injEq, and_true, Nat.reduceMul] at q0 q1 q2
   subst q0; subst q1; subst q2
   refine elem_cells (by simp) (by intro c hc; simp only [List.mem_cons, List.not_mem_nil, or_false] at hc; rcases hc with rfl | rfl | rfl <;> rfl) (fun j => [Value.func (.func 162) #[] #[], .func (.func 163) #[] #[], .func (.func 164) #[] #[]].getD j undef) (fun j hj => ?_) (fun j c hc => ?_)
   ·have := hcell j
    obtain rfl | rfl | rfl : j = 0 ∨ j = 1 ∨ j = 2 := by simp at hj; omega
    all_goals simpa using this
   ·match j, hc with
    | 0, hc => cases hc; exact Rs.fn (vs := []) Rs.nil
    | 1, hc => cases hc; exact Rs.fn (vs := []) Rs.nil
    | 2, hc => cases hc; exact Rs.fn (vs := []) Rs.nil
theorem checks_of_laid {W : World} (h : laidMetH Tryz.prog laidC W) : R (allE W) W (.elem [.fn (.func 162) [], .fn (.func 163) [], .fn (.func 164) []]) (.pointer (some ⟨0, 0, none⟩)) := checks_of_funcs (h.funcs (List.mem_singleton.2 rfl))
end Go.Proofs.YtjjklfgpffgnfabGreatDoor
