/-
 What the listed table of kinds of readings gives the walks; copies as arguments.
-/
import Derived.Test.YtejhjijbgceklaaGreatDoorGrpS
import Derived.Test.YtejhjijbgceklaaGreatDoorGrpH
import Derived.Test.YtejhjijbgceklaaGreatDoorAbRem
import Derived.LaidMore
import Derived.RowKitVeiled
namespace Go.AB
open Go Go.RowKit Go.ChangeShapes Go.WideShapes
open Go.AB.Enc (cells)
open Go.PB (Chap TextD PlaceD ReadingD CopyD WayD)
def fnChk (P : Program) (t : TypeId) : Bool := match P.underlying t with | some (.func _ _ _) => true | _ => false
theorem fnChk_spec {P : Program} {t : TypeId} (h : fnChk P t = true) : ∃ ps rs va, P.underlying t = some (.func ps rs va) := by
 unfold fnChk at h
 split at h
 ·rename_i ps rs va he; exact ⟨ps, rs, va, he⟩
 ·cases h
/-- Functions that lie in a variable's cells. -/
theorem elem_cells {W : World} {b : Nat} {cs : List C} (hne : cs ≠ []) (hone : ∀ c ∈ cs, c.one = true) (us : Nat → Value) (hc : ∀ j, j < cs.length → W.cell? ⟨b, j, none⟩ = some (us j)) (hr : ∀ j c, cs[j]? = some c → R (allE W) W c (us j)) : R (allE W) W (.elem cs) (.pointer (some ⟨b, 0, none⟩)) := by
 have hl : 0 < cs.length := List.length_pos_iff.2 hne
 refine .elem hne hone (.inr ⟨b, 0, rfl, ?_, fun j hj => by rw [Nat.zero_add]; exact hc j hj⟩) hr
 have := cellsIn_of (hc (cs.length - 1) (by omega))
 show 0 + cs.length ≤ cellsIn W b
 omega
/-- .. one. -/
theorem law_callsN {P : Program} {f : FuncId} {cs : List C} {v gv : Value} {gc : C} (hp : PureN 0 (.fact gv gc) P f cs (.v v)) {w : World} {args : List Value} (hK : R (allE w) w gc gv) (hr : Rs (allE w) w cs args) :
  Calls P f args.toArray w fun e w' => e = .returned v ∧ Below w.heap.size w w' :=
 law_callsF (fun G nx hG => by
  intro E w' as' hrs hsg
  exact hp G nx hG (by obtain ⟨t, _⟩ := hsg.obj 0 _ hG; have := hsg.lt 0 _ t; rw [hsg.nx] at this; exact this) E w' as' hrs hsg) hK hr
/-- a cell of a function's type, as it reads -/
theorem func_cell {P : Program} {W : World} {t : TypeId} {ps rs : Array TypeId} {va : Bool} {v : Value} {b : UInt8} {r : List UInt8} {f0 : FuncId} (hu : P.underlying t = some (.func ps rs va)) (hv : IsFunc v) (hd : veil (funcToken P) t v = .held (b :: r))
  (hone : ((List.range P.funcs.size).filter fun f => (P.funcs[f]?).any (·.name.toUTF8.data.toList == b :: r)) = [f0]) : v = .func (.func f0) #[] #[] :=
 Go.func_of_trod (w := W) (base := 0) (sp := fun _ => true) (fuel := 1) (q := []) hu hone (by
  have := trod_func (enc := funcToken P) hu (W := W) (base := 0) (sp := fun _ => true) hv 0
  rw [hd] at this
  exact this)
theorem nil_cell {H : Type} {enc : TypeId × Value → H} {t : TypeId} {v : Value} (hv : IsFunc v) (hd : veil enc t v = .nil) : v = .nilFunc := by
 cases v <;> simp only [IsFunc] at hv
 ·simp [veil] at hd
 ·rfl
end Go.AB
namespace Go.Proofs.YtejhjijbgceklaaGreatDoor
set_option maxRecDepth 10000
open Go.ChangeShapes Go.WideShapes Go.ChangeAt Go.RowKit Go.AB
open Go.AB.Enc (cells)
open Go.PB (Chap TextD PlaceD ReadingD CopyD WayD)
theorem gKinds : Tryz.prog.globalNamed "postil/leaf.kinds" = some 0 := by kernel_rfl
theorem tKinds : (Tryz.prog.globals[0]?).map (·.type) = some 114 := by kernel_rfl
theorem uKinds : Tryz.prog.underlying 114 = some (.array 4 113) := by kernel_rfl
theorem cKinds : Tryz.prog.cellsOf 114 = 12 := by kernel_rfl
theorem cKind : Tryz.prog.cellsOf 113 = 3 := by kernel_rfl
theorem sKind : stcChk Tryz.prog 113 [(0, 3, 1), (1, 110, 1), (2, 111, 1)] 3 = true := by kernel_rfl
theorem fRight : ∃ ps rs va, Tryz.prog.underlying 110 = some (.func ps rs va) := fnChk_spec (by kernel_rfl)
theorem fMakes : ∃ ps rs va, Tryz.prog.underlying 111 = some (.func ps rs va) := fnChk_spec (by kernel_rfl)
theorem uIntO : Tryz.prog.underlying 3 = some (.int .i64) := by kernel_rfl
theorem kind_row {W : World} {m : Nat} {cs : List Value} {y : DataW (List UInt8) × List MemPlace} {b : Int} {d1 d2 : DataW (List UInt8)} (hy : y.1 = .agg [.lit (.int .i64 b), d1, d2])
  (h : DataW.trod (funcToken Tryz.prog) Tryz.prog W 0 (fun _ => true) true m 113 cs = some y) : ∃ v1 v2, cs = [.int .i64 b, v1, v2] ∧ IsFunc v1 ∧ veil (funcToken Tryz.prog) 110 v1 = d1 ∧ IsFunc v2 ∧ veil (funcToken Tryz.prog) 111 v2 = d2 := by
 obtain ⟨_, fs, he⟩ := stcChk_cells sKind
 obtain ⟨xs, m', _, e1, hl, hlen, hf⟩ := DataW.trod_struct he h
 rw [cKind] at hl
 have hfs : fs.toList.map (fun f => (f.offset, f.type, Tryz.prog.cellsOf f.type)) = [(0, 3, 1), (1, 110, 1), (2, 111, 1)] := by
  have := sKind
  unfold stcChk at this
  rw [he] at this
  simp only [Bool.and_eq_true, beq_iff_eq] at this
  exact this.1
 obtain ⟨l⟩ := fs
 match l, hfs with
 | [f0, f1, f2], hfs =>
  simp only [List.map_cons, List.map_nil, List.cons.injEq, Prod.mk.injEq, and_true] at hfs
  obtain ⟨⟨a1, a2, a3⟩, ⟨b1, b2, b3⟩, ⟨c1, c2, c3⟩⟩ := hfs
  have h0 := hf 0 f0 rfl
  have h1 := hf 1 f1 rfl
  have h2 := hf 2 f2 rfl
  match cs, hl with
  | [u0, u1, u2], _ =>
   match xs, hlen with
   | [x0, x1, x2], _ =>
    subst e1
    simp only [List.map_cons, List.map_nil, DataW.agg.injEq, List.cons.injEq, and_true] at hy
    rw [a3, a1, a2] at h0
    rw [b3, b1, b2] at h1
    rw [c3, c1, c2] at h2
    obtain ⟨n, q1, q2, _⟩ := DataW.trod_int uIntO h0
    obtain ⟨ps, rs, va, hu⟩ := fRight
    obtain ⟨ps', rs', va', hu'⟩ := fMakes
    obtain ⟨v1, q3, q4, q5⟩ := Go.RowKit.func_of_trod hu h1
    obtain ⟨v2, q6, q7, q8⟩ := Go.RowKit.func_of_trod hu' h2
    have e0 : u0 = .int .i64 n := by simpa using q1
    have e1 : u1 = v1 := by simpa using q3
    have e2 : u2 = v2 := by simpa using q6
    subst e0; subst e1; subst e2
    have hx0 : x0 = (.lit (.int .i64 n), []) := by simpa using q2
    have hx1 : x1 = (veil (funcToken Tryz.prog) 110 u1, []) := by simpa using q5
    have hx2 : x2 = (veil (funcToken Tryz.prog) 111 u2, []) := by simpa using q8
    subst hx0; subst hx1; subst hx2
    obtain ⟨k0, k1, k2⟩ := hy
    have : n = b := by simpa using k0
    subst this
    exact ⟨u1, u2, rfl, q4, k1, q7, k2⟩
 | [], hfs => exact absurd hfs (by simp)
 | [_], hfs => exact absurd hfs (by simp)
 | [_, _], hfs => exact absurd hfs (by simp)
 | _ :: _ :: _ :: _ :: _, hfs => exact absurd hfs (by simp)
theorem kinds_of_funcs {W : World} (h : funcsAt Tryz.prog W "postil/leaf.kinds" (.agg [.agg [.lit (.int .i64 0), .nil, .nil], .agg [.lit (.int .i64 0), .iface "func" (.lit (.string [112, 111, 115, 116, 105, 108, 47, 108, 101, 97, 102, 46, 107, 105, 110, 100, 115, 36, 49])), .iface "func" (.lit (.string [112, 111, 115, 116, 105, 108, 47, 108, 101, 97, 102, 46, 107, 105, 110, 100, 115, 36, 50]))], .agg [.lit (.int .i64 1), .iface "func" (.lit (.string [112, 111, 115, 116, 105, 108, 47, 108, 101, 97, 102, 46, 107, 105, 110, 100, 115, 36, 51])), .iface "func" (.lit (.string [112, 111, 115, 116, 105, 108, 47, 108, 101, 97, 102, 46, 107, 105, 110, 100, 115, 36, 52]))], .agg [.lit (.int .i64 0), .iface "func" (.lit (.string [112, 111, 115, 116, 105, 108, 47, 108, 101, 97, 102, 46, 107, 105, 110, 100, 115, 36, 53])), .iface "func" (.lit (.string [112, 111, 115, 116, 105, 108, 47, 108, 101, 97, 102, 46, 107, 105, 110, 100, 115, 36, 54]))]])) : R (allE W) W (.elem kndL) (.pointer (some ⟨0, 0, none⟩)) := by
 obtain ⟨g, t, cs, fuel, p, hg, ht, hv, hd⟩ := h
 obtain rfl := Option.some.inj (gKinds.symm.trans hg)
 obtain rfl := Option.some.inj (tKinds.symm.trans ht)
 obtain ⟨xs, m, _, e1, hl, hn, hel⟩ := DataW.trod_array uKinds hd
 rw [cKinds] at hl
 rw [cKind] at hel
 have hcell := fun i => World.var?_cell hg hv i
 obtain ⟨l⟩ := cs
 dsimp only at hl hel hcell
 match l, hl with
 | [u0, u1, u2, u3, u4, u5, u6, u7, u8, u9, u10, u11], _ =>
  match xs, hn with
  | [x0, x1, x2, x3], _ =>
   simp only [Prod.mk.injEq] at e1
   have e2 : (.agg [.agg [.lit (.int .i64 0), .nil, .nil], .agg [.lit (.int .i64 0), .held [112, 111, 115, 116, 105, 108, 47, 108, 101, 97, 102, 46, 107, 105, 110, 100, 115, 36, 49], .held [112, 111, 115, 116, 105, 108, 47, 108, 101, 97, 102, 46, 107, 105, 110, 100, 115, 36, 50]], .agg [.lit (.int .i64 1), .held [112, 111, 115, 116, 105, 108, 47, 108, 101, 97, 102, 46, 107, 105, 110, 100, 115, 36, 51], .held [112, 111, 115, 116, 105, 108, 47, 108, 101, 97, 102, 46, 107, 105, 110, 100, 115, 36, 52]], .agg [.lit (.int .i64 0), .held [112, 111, 115, 116, 105, 108, 47, 108, 101, 97, 102, 46, 107, 105, 110, 100, 115, 36, 53], .held [112, 111, 115, 116, 105, 108, 47, 108, 101, 97, 102, 46, 107, 105, 110, 100, 115, 36, 54]]] : DataW (List UInt8)) = .agg [x0.1, x1.1, x2.1, x3.1] := e1.1
   simp only [DataW.agg.injEq, List.cons.injEq, and_true] at e2
   obtain ⟨a1, a2, q0, a3, a4, a5, a6⟩ := kind_row e2.1.symm (hel 0 (by omega))
   obtain ⟨b1, b2, q1, b3, b4, b5, b6⟩ := kind_row e2.2.1.symm (hel 1 (by omega))
   obtain ⟨c1, c2, q2, c3, c4, c5, c6⟩ := kind_row e2.2.2.1.symm (hel 2 (by omega))
   obtain ⟨d1, d2, q3, d3, d4, d5, d6⟩ := kind_row e2.2.2.2.symm (hel 3 (by omega))
   simp only [Nat.zero_mul, Nat.one_mul, List.drop_zero, List.drop_succ_cons, List.take_succ_cons, List.take_zero, List.cons.injEq, and_true, Nat.reduceMul] at q0 q1 q2 q3
   obtain ⟨rfl, rfl, rfl⟩ := q0
   obtain ⟨rfl, rfl, rfl⟩ := q1
   obtain ⟨rfl, rfl, rfl⟩ := q2
   obtain ⟨rfl, rfl, rfl⟩ := q3
   obtain ⟨ps, rs, va, hu⟩ := fRight
   obtain ⟨ps', rs', va', hu'⟩ := fMakes
   obtain rfl := nil_cell a3 a4
   obtain rfl := nil_cell a5 a6
   obtain rfl := func_cell (W := W) (f0 := 142) hu b3 b4 (by kernel_rfl)
   obtain rfl := func_cell (W := W) (f0 := 143) hu' b5 b6 (by kernel_rfl)
   obtain rfl := func_cell (W := W) (f0 := 144) hu c3 c4 (by kernel_rfl)
   obtain rfl := func_cell (W := W) (f0 := 145) hu' c5 c6 (by kernel_rfl)
   obtain rfl := func_cell (W := W) (f0 := 146) hu d3 d4 (by kernel_rfl)
   obtain rfl := func_cell (W := W) (f0 := 147) hu' d5 d6 (by kernel_rfl)
   let L : List Value := [.int .i64 0, .nilFunc, .nilFunc, .int .i64 0, .func (.func 142) #[] #[], .func (.func 143) #[] #[], .int .i64 1, .func (.func 144) #[] #[], .func (.func 145) #[] #[], .int .i64 0, .func (.func 146) #[] #[], .func (.func 147) #[] #[]]
   refine elem_cells (by simp) (by intro c hc; simp only [List.mem_cons, List.not_mem_nil, or_false] at hc; rcases hc with rfl | rfl | rfl | rfl | rfl | rfl | rfl | rfl | rfl | rfl | rfl | rfl <;> rfl) (fun j => L.getD j undef) (fun j hj => ?_) (fun j c hc => ?_)
   ·have := hcell j
    have hj' : j < 12 := hj
    rw [this]
    show (L.toArray)[j]? = _
    rw [List.getElem?_toArray, List.getD_eq_getElem?_getD, List.getElem?_eq_getElem (show j < L.length from hj')]
    rfl
   ·match j, hc with
    | 0, hc => cases hc; exact .v (by decide)
    | 1, hc => cases hc; exact .v rfl
    | 2, hc => cases hc; exact .v rfl
    | 3, hc => cases hc; exact .v (by decide)
    | 4, hc => cases hc; exact Rs.fn (vs := []) Rs.nil
    | 5, hc => cases hc; exact Rs.fn (vs := []) Rs.nil
    | 6, hc => cases hc; exact .v (by decide)
    | 7, hc => cases hc; exact Rs.fn (vs := []) Rs.nil
    | 8, hc => cases hc; exact Rs.fn (vs := []) Rs.nil
    | 9, hc => cases hc; exact .v (by decide)
    | 10, hc => cases hc; exact Rs.fn (vs := []) Rs.nil
    | 11, hc => cases hc; exact Rs.fn (vs := []) Rs.nil
end Go.Proofs.YtejhjijbgceklaaGreatDoor
