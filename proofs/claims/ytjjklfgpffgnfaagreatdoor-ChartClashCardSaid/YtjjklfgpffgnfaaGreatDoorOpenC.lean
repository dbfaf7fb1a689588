/-
 The arguments of the laws of charts; what the table of checks holds.
-/
import Derived.Test.YtjjklfgpffgnfaaGreatDoorCuFuncs
import Derived.Test.YtjjklfgpffgnfaaGreatDoorCkKeys
import Derived.Test.YtjjklfgpffgnfaaGreatDoorOpenE
import Derived.Test.YtjjklfgpffgnfaaGreatDoorRows
import Derived.LaidMore
namespace Go.AB
open Go Go.RowKit
open Go.AB.Enc (cells)
theorem OpensE.stretch {P : Program} {t tI : TypeId} [oI : OpensE P tI Int] (h : jz P t [(0, tI, 1), (1, tI, 1), (2, tI, 1), (3, tI, 1), (4, tI, 1)] 5 = true) : OpensE P t StretchD :=
 .struct (α := StretchD) h fun w cs hl hp => by
  obtain ⟨a, ha⟩ := hp (0, tI, 1) (by simp) Int inferInstance oI
  obtain ⟨b, hb⟩ := hp (1, tI, 1) (by simp) Int inferInstance oI
  obtain ⟨c, hc⟩ := hp (2, tI, 1) (by simp) Int inferInstance oI
  obtain ⟨d, hd⟩ := hp (3, tI, 1) (by simp) Int inferInstance oI
  obtain ⟨e, he⟩ := hp (4, tI, 1) (by simp) Int inferInstance oI
  match cs, hl with
  | [u, v, x, y, z], _ => exact ⟨⟨a, b, c, d, e⟩, Rs.cons (Rs.single_inv ha) (Rs.cons (Rs.single_inv hb) (Rs.cons (Rs.single_inv hc) (Rs.cons (Rs.single_inv hd) he)))⟩
theorem OpensE.edition {P : Program} {t tI tL : TypeId} [oI : OpensE P tI Int] [oL : OpensE P tL (List StretchD)] (h : jz P t [(0, tI, 1), (1, tL, 1)] 2 = true) : OpensE P t av :=
 .struct (α := av) h fun w cs hl hp => by
  obtain ⟨a, ha⟩ := hp (0, tI, 1) (by simp) Int inferInstance oI
  obtain ⟨b, hb⟩ := hp (1, tL, 1) (by simp) (List StretchD) inferInstance oL
  match cs, hl with
  | [u, v], _ => exact ⟨⟨a, b⟩, Rs.cons (Rs.single_inv ha) hb⟩
def ubl (P : Program) (t : TypeId) : Bool := match P.underlying t with | some (.func _ _ _) => true | _ => false
theorem ui2 {P : Program} {t : TypeId} (h : ubl P t = true) : ∃ ps rs va, P.underlying t = some (.func ps rs va) := by
 unfold ubl at h
 split at h
 ·rename_i ps rs va he; exact ⟨ps, rs, va, he⟩
 ·cases h
/-- Functions that lie in a variable's cells. -/
theorem ujt {W : World} {b : Nat} {cs : List C} (hne : cs ≠ []) (hone : ∀ c ∈ cs, c.one = true) (us : Nat → Value) (hc : ∀ j, j < cs.length → W.cell? ⟨b, j, none⟩ = some (us j)) (hr : ∀ j c, cs[j]? = some c → R (kw W) W c (us j)) : R (kw W) W (.elem cs) (.pointer (some ⟨b, 0, none⟩)) := by
 have hl : 0 < cs.length := List.length_pos_iff.2 hne
 refine .elem hne hone (.inr ⟨b, 0, rfl, ?_, fun j hj => by rw [Nat.zero_add]; exact hc j hj⟩) hr
 have := uct (hc (cs.length - 1) (by omega))
 show 0 + cs.length ≤ pc W b
 omega
end Go.AB
namespace Go.Proofs.YtjjklfgpffgnfaaGreatDoor
set_option maxRecDepth 10000
open Go.ChangeShapes Go.WideShapes Go.ChangeAt Go.RowKit Go.AB
open Go.AB.Enc (cells)
open Go.PB (bv ai PlaceD cy c6 cz)
instance : OpensE Tryz.prog 3 Int := .int (by kernel_rfl)
instance : OpensE Tryz.prog 9 ByteArray := .str (by kernel_rfl)
instance : OpensE Tryz.prog 93 (List ByteArray) := .slice (e := 9) (by kernel_rfl) (by decide)
instance : OpensE Tryz.prog 90 (List (List ByteArray)) := .slice (e := 93) (by kernel_rfl) (by decide)
instance : OpensE Tryz.prog 92 bv := .chap (tI := 3) (tL := 90) (by kernel_rfl)
instance : OpensE Tryz.prog 22 (List bv) := .slice (e := 92) (by kernel_rfl) (by decide)
theorem yi : jz Tryz.prog 24 [(0, 22, 1)] 1 = true := by kernel_rfl
instance : OpensE Tryz.prog 24 (List bv) := .one (e := 22) yi
instance : OpensE Tryz.prog 48 StretchD := .stretch (tI := 3) (by kernel_rfl)
instance : OpensE Tryz.prog 25 (List StretchD) := .slice (e := 48) (by kernel_rfl) (by decide)
theorem ubz : jz Tryz.prog 27 [(0, 3, 1), (1, 25, 1)] 2 = true := by kernel_rfl
instance : OpensE Tryz.prog 27 av := .edition (tI := 3) (tL := 25) ubz
theorem uly : Tryz.prog.underlying 4 = some .bool := by kernel_rfl
theorem ownZ : ownKnob Tryz.prog.godebug = none := by kernel_rfl

abbrev ri : List (String × DataW Unit) := [("postil/chart.checks", Rows.laid_postil_chart_checks)]
set_option maxRecDepth 100000 in
/-- The door's own heap meets the condition. -/
theorem uj9 (os : Os) (args : Array Value) : laidMetH Tryz.prog ri ((World.doorLaid Tryz.prog 600 os).forCall (fun _ _ => 0) ⟨#[], args, []⟩).memory :=
 laidMetH_of_parts3 (fuel := 8) (laidMet_of_run' 8 (by kernel_rfl) (by kernel_rfl)) (by kernel_rfl) (by kernel_rfl)
theorem gChecks : Tryz.prog.globalNamed "postil/chart.checks" = some 0 := by kernel_rfl
theorem tChecks : (Tryz.prog.globals[0]?).map (·.type) = some 168 := by kernel_rfl
theorem ud4 : Tryz.prog.underlying 168 = some (.array 3 167) := by kernel_rfl
theorem ulw : Tryz.prog.cellsOf 168 = 3 := by kernel_rfl
theorem ucv : Tryz.prog.cellsOf 167 = 1 := by kernel_rfl
theorem ux : jz Tryz.prog 167 [(0, 151, 1)] 1 = true := by kernel_rfl
theorem ujj : ∃ ps rs va, Tryz.prog.underlying 151 = some (.func ps rs va) := ui2 (by kernel_rfl)
/-- one function of the table -/
theorem xj {W : World} {m : Nat} {cs : List Value} {b : UInt8} {r : List UInt8} {y : DataW (List UInt8) × List MemPlace} {f0 : FuncId} (hy : y.1 = .agg [.held (b :: r)])
  (hone : ((List.range Tryz.prog.funcs.size).filter fun f => (Tryz.prog.funcs[f]?).any (·.name.toUTF8.data.toList == b :: r)) = [f0])
  (h : DataW.trod (funcToken Tryz.prog) Tryz.prog W 0 (fun _ => true) true m 167 cs = some y) : cs = [.func (.func f0) #[] #[]] := by
 obtain ⟨_, fs, he⟩ := se ux
 obtain ⟨xs, m', _, e1, hl, hlen, hf⟩ := DataW.trod_struct he h
 obtain ⟨_, hp⟩ := un ux h
 rw [ucv] at hl
 have hfs : fs.toList.map (fun f => (f.offset, f.type, Tryz.prog.cellsOf f.type)) = [(0, 151, 1)] := by
  have := ux
  unfold jz at this
  rw [he] at this
  simp only [Bool.and_eq_true, beq_iff_eq] at this
  exact this.1
 obtain ⟨l⟩ := fs
 match l, hfs with
 | [f], hfs =>
  simp only [List.map_cons, List.map_nil, List.cons.injEq, Prod.mk.injEq, and_true] at hfs
  have h0 := hf 0 f rfl
  rw [hfs.1, hfs.2.1] at h0
  rw [show Tryz.prog.cellsOf 151 = 1 by kernel_rfl] at h0
  match cs, hl with
  | [v], _ =>
   match xs, hlen with
   | [x], _ =>
    subst e1
    simp only [List.map_cons, List.map_nil, DataW.agg.injEq, List.cons.injEq, and_true] at hy
    obtain ⟨x1, x2⟩ := x
    dsimp only at hy
    subst hy
    obtain ⟨ps, rs, va, hu⟩ := ujj
    exact congrArg (fun v => [v]) (func_of_trod hu hone h0)
 | [], hfs => exact absurd hfs (by simp)
 | _ :: _ :: _, hfs => exact absurd hfs (by simp)
/-- What the condition gives the walks. -/
theorem uk5 {W : World} (h : funcsAt Tryz.prog W "postil/chart.checks" (.agg [.agg [.iface "func" (.lit (.string [112, 111, 115, 116, 105, 108, 47, 99, 104, 97, 114, 116, 46, 99, 104, 101, 99, 107, 115, 36, 49]))], .agg [.iface "func" (.lit (.string [112, 111, 115, 116, 105, 108, 47, 99, 104, 97, 114, 116, 46, 99, 104, 101, 99, 107, 115, 36, 50]))], .agg [.iface "func" (.lit (.string [112, 111, 115, 116, 105, 108, 47, 99, 104, 97, 114, 116, 46, 99, 104, 101, 99, 107, 115, 36, 51]))]])) : R (kw W) W (.elem [.fn (.func 156) [], .fn (.func 157) [], .fn (.func 158) []]) (.pointer (some ⟨0, 0, none⟩)) := by
 obtain ⟨g, t, cs, fuel, p, hg, ht, hv, hd⟩ := h
 obtain rfl := Option.some.inj (gChecks.symm.trans hg)
 obtain rfl := Option.some.inj (tChecks.symm.trans ht)
 obtain ⟨xs, m, _, e1, hl, hn, hel⟩ := DataW.trod_array ud4 hd
 rw [ulw] at hl
 rw [ucv] at hel
 have hcell := fun i => World.var?_cell hg hv i
 obtain ⟨l⟩ := cs
 dsimp only at hl hel hcell
 match l, hl with
 | [u0, u1, u2], _ =>
  match xs, hn with
  | [x0, x1, x2], _ =>
   simp only [Prod.mk.injEq] at e1
   have e2 : (.agg [.agg [.held [112, 111, 115, 116, 105, 108, 47, 99, 104, 97, 114, 116, 46, 99, 104, 101, 99, 107, 115, 36, 49]], .agg [.held [112, 111, 115, 116, 105, 108, 47, 99, 104, 97, 114, 116, 46, 99, 104, 101, 99, 107, 115, 36, 50]], .agg [.held [112, 111, 115, 116, 105, 108, 47, 99, 104, 97, 114, 116, 46, 99, 104, 101, 99, 107, 115, 36, 51]]] : DataW (List UInt8)) = .agg [x0.1, x1.1, x2.1] := e1.1
   simp only [DataW.agg.injEq, List.cons.injEq, and_true] at e2
   have q0 := xj (f0 := 156) e2.1.symm (by kernel_rfl) (hel 0 (by omega))
   have q1 := xj (f0 := 157) e2.2.1.symm (by kernel_rfl) (hel 1 (by omega))
   have q2 := xj (f0 := 158) e2.2.2.symm (by kernel_rfl) (hel 2 (by omega))
   simp only [Nat.zero_mul, Nat.one_mul, List.drop_zero, List.drop_succ_cons, List.take_succ_cons, List.take_zero, List.cons.injEq, and_true, Nat.reduceMul] at q0 q1 q2
   subst q0; subst q1; subst q2
   refine ujt (by simp) (by intro c hc; simp only [List.mem_cons, List.not_mem_nil, or_false] at hc; rcases hc with rfl | rfl | rfl <;> rfl) (fun j => [Value.func (.func 156) #[] #[], .func (.func 157) #[] #[], .func (.func 158) #[] #[]].getD j undef) (fun j hj => ?_) (fun j c hc => ?_)
   ·have := hcell j
    obtain rfl | rfl | rfl : j = 0 ∨ j = 1 ∨ j = 2 := by simp at hj; omega
    all_goals simpa using this
   ·match j, hc with
    | 0, hc => cases hc; exact Rs.fn (vs := []) Rs.nil
    | 1, hc => cases hc; exact Rs.fn (vs := []) Rs.nil
    | 2, hc => cases hc; exact Rs.fn (vs := []) Rs.nil
theorem uk4 {W : World} (h : laidMetH Tryz.prog ri W) : R (kw W) W (.elem [.fn (.func 156) [], .fn (.func 157) [], .fn (.func 158) []]) (.pointer (some ⟨0, 0, none⟩)) := uk5 (h.funcs (List.mem_singleton.2 rfl))
end Go.Proofs.YtjjklfgpffgnfaaGreatDoor
