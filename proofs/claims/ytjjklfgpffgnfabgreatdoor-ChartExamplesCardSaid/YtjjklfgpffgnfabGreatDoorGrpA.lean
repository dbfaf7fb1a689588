/-
  What the walks through the program rest on: values, states, steps, calls (AcOne, AcEq, AcTwo, AcThree, AcFour, AcFive).
-/
import Derived.Test.YtjjklfgpffgnfabGreatDoorAdData
import Derived.Test.YtjjklfgpffgnfabGreatDoorAbTypes
import Derived.Tactics
import Derived.Laws.StructEq
namespace Go.Proofs.YtjjklfgpffgnfabGreatDoor
set_option maxRecDepth 10000
open Go.RowKit Go.AB
open Go.PB (Chap TextD PlaceD ReadingD CopyD WayD)

end Go.Proofs.YtjjklfgpffgnfabGreatDoor
namespace Go.AB
open Go Go.RowKit
open Go.AB.Enc (cells)
open Go.PB (Chap TextD PlaceD ReadingD CopyD WayD)
/-- Data that are read as they are. -/
class FlatV (α : Type) [Enc α] where
 vals : α → List Value
 eq : ∀ x, cells x = (vals x).map C.v
theorem FlatV.agg {α : Type} [Enc α] [FlatV α] {E : Env} {w : World} {x : α} {v : Value} (h : R E w (.agg (cells x)) v) : v = .agg (FlatV.vals x).toArray := by
 rw [FlatV.eq] at h
 obtain ⟨vs, rfl, h1, _⟩ := h.agg_inv
 congr 2
 apply List.ext_getElem?
 intro j
 have hl := h1.1
 simp only [List.length_map] at hl
 by_cases hj : j < (FlatV.vals x).length
 ·have h2 := h1.2 j (.v (FlatV.vals x)[j]) vs[j] (by rw [List.getElem?_map, List.getElem?_eq_getElem hj]; rfl) (List.getElem?_eq_getElem (by omega))
  rw [List.getElem?_eq_getElem (by omega), List.getElem?_eq_getElem hj, h2.v_inv]
 ·rw [List.getElem?_eq_none (by omega), List.getElem?_eq_none (by omega)]
class EqT (P : Program) (t : TypeId) (α : Type) [Enc α] [FlatV α] [DecidableEq α] : Prop where
 guard : ∀ (op : BinOp) (w : World) (X Y : Operand) (xs ys : Array Value), (eqGuard op t X Y (.agg xs) (.agg ys)).run P w = .ok () w
 same : ∀ (w : World) (x y : α), (Op.equalIn 10000 t (.agg (FlatV.vals x).toArray) (.agg (FlatV.vals y).toArray)).run P w = .ok (decide (x = y)) w
section
variable {P : Program} {o : Oper} {st : St}
theorem n_agg_eql {α : Type} [Enc α] [FlatV α] [DecidableEq α] {t t' : TypeId} [EqT P t α] {X Y : Operand} {x y : α} (ho : o.op = .binOp .eql t X Y t') (hx : evC st X = .agg (cells x)) (hy : evC st Y = .agg (cells y)) : NStep P o st (.v (.bool (decide (x = y)))) := fun E w a hs => by
 have e1 := (hx ▸ hs.ev X).agg_inv
 have e1 := FlatV.agg (hx ▸ hs.ev X)
 have e2 := FlatV.agg (hy ▸ hs.ev Y)
 refine ⟨_, .v rfl, fun w' => ?_⟩
 have hg := EqT.guard (P := P) (t := t) (α := α) .eql w' X Y (FlatV.vals x).toArray (FlatV.vals y).toArray
 have hq := EqT.same (P := P) (t := t) w' x y
 have hb : binOp .eql t (.agg (FlatV.vals x).toArray) (.agg (FlatV.vals y).toArray) = (do pure (.bool (← Op.equal t (.agg (FlatV.vals x).toArray) (.agg (FlatV.vals y).toArray))) : Sem Value) := rfl
 simp only [execOp, ho, e1, e2, Sem.run_bind, hg, Result.andThen_ok, hb, Op.equal, Op.maxDepth, hq]
 rfl
theorem n_agg_neq {α : Type} [Enc α] [FlatV α] [DecidableEq α] {t t' : TypeId} [EqT P t α] {X Y : Operand} {x y : α} (ho : o.op = .binOp .neq t X Y t') (hx : evC st X = .agg (cells x)) (hy : evC st Y = .agg (cells y)) : NStep P o st (.v (.bool (!decide (x = y)))) := fun E w a hs => by
 have e1 := FlatV.agg (hx ▸ hs.ev X)
 have e2 := FlatV.agg (hy ▸ hs.ev Y)
 refine ⟨_, .v rfl, fun w' => ?_⟩
 have hg := EqT.guard (P := P) (t := t) (α := α) .neq w' X Y (FlatV.vals x).toArray (FlatV.vals y).toArray
 have hq := EqT.same (P := P) (t := t) w' x y
 have hb : binOp .neq t (.agg (FlatV.vals x).toArray) (.agg (FlatV.vals y).toArray) = (do pure (.bool (!(← Op.equal t (.agg (FlatV.vals x).toArray) (.agg (FlatV.vals y).toArray)))) : Sem Value) := rfl
 simp only [execOp, ho, e1, e2, Sem.run_bind, hg, Result.andThen_ok, hb, Op.equal, Op.maxDepth, hq]
 rfl
end
instance : FlatV PlaceD := ⟨fun x => [.int .i64 x.ch, .int .i64 x.ln, .int .i64 x.wd], fun _ => rfl⟩
end Go.AB

namespace Go.Proofs.YtjjklfgpffgnfabGreatDoor
open Go Go.RowKit Go.AB
open Go.AB.Enc (cells)
open Go.PB (Chap TextD PlaceD ReadingD CopyD WayD)
theorem uf_place : Tryz.prog.underlying 49 = some (.struct (Tryz.prog.fieldsOf 49)) := by kernel_rfl
theorem sh_place : Tryz.prog.stoodInHeld 49 = false := by kernel_rfl
instance : EqT Tryz.prog 49 PlaceD where
 guard op w x y xs ys := run_eqGuard_agg w op _ x y xs ys (by kernel_rfl)
 same w x y := by
  obtain ⟨a, b, c⟩ := x
  obtain ⟨a', b', c'⟩ := y
  simp only [FlatV.vals]
  rw [run_equalIn_agg _ _ _ _ _ uf_place sh_place]
  by_cases h1 : a = a' <;> by_cases h2 : b = b' <;> by_cases h3 : c = c' <;> simp [go_sem, h1, h2, h3]
end Go.Proofs.YtjjklfgpffgnfabGreatDoor
namespace Go.Proofs.YtjjklfgpffgnfabGreatDoor
set_option maxRecDepth 10000
open Go.RowKit Go.AB
open Go.PB (Chap TextD PlaceD ReadingD CopyD WayD)



structure Small (t : TextD) : Prop where
 len : t.length ≤ 10
 lines : ∀ c ∈ t, c.lines.length ≤ 15
 words : ∀ c ∈ t, ∀ l ∈ c.lines, l.length ≤ 15
 size : ∀ c ∈ t, ∀ l ∈ c.lines, ∀ s ∈ l, s.size ≤ 40
end Go.Proofs.YtjjklfgpffgnfabGreatDoor
namespace Go.Proofs.YtjjklfgpffgnfabGreatDoor
set_option maxRecDepth 10000
open Go.RowKit Go.AB
open Go.PB (Chap TextD PlaceD ReadingD CopyD WayD)

end Go.Proofs.YtjjklfgpffgnfabGreatDoor
namespace Go.Proofs.YtjjklfgpffgnfabGreatDoor
set_option maxRecDepth 10000
open Go.RowKit Go.AB
open Go.PB (Chap TextD PlaceD ReadingD CopyD WayD)

end Go.Proofs.YtjjklfgpffgnfabGreatDoor
namespace Go.Proofs.YtjjklfgpffgnfabGreatDoor
set_option maxRecDepth 10000
open Go.RowKit Go.AB
open Go.AB.Enc (cells)
open Go.PB (Chap TextD PlaceD ReadingD CopyD WayD)

end Go.Proofs.YtjjklfgpffgnfabGreatDoor
