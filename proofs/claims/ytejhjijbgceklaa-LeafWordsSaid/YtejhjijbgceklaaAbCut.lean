/-
 A part of an own slice, ahead of which it is written anew; what a predicate strikes out of it.
-/
import Derived.Test.YtejhjijbgceklaaAbSort
import Derived.Test.YtejhjijbgceklaaAbTwin
import Derived.Shelf.SlicesE.DeleteFunc
namespace Go.AB
open Go Go.RowKit Go.Shelf Go.Proofs
open Go.AB.Enc (cells)
section
variable {P : Program} {o : Oper} {st : St} {K : St → Prop}
theorem R.okVv {E : Env} {w : World} {x v : Value} (h : R E w (.v x) v) : okV x = true := by
 cases h with
 | v h => exact h
theorem heap_putE {α : Type} [Inhabited α] (enc : α → Value) {w : World} {g n : Nat} {cur : Array Value} {e : TypeId} {fr : Nat × Nat} (F : Array α) (hb : w.heap[g]? = some (.cells cur e fr)) :
  (Sort.putRow enc (Sort.ahead w n) g 0 F).heap[g]? = some (.cells (Sort.putCells enc 0 F cur) e fr) := by
 simp [Sort.putRow, Sort.mapBlock, Sort.ahead, Array.getElem?_modify, hb, Sort.onCells]
theorem heap_putE_other {α : Type} [Inhabited α] (enc : α → Value) {w : World} {g n k : Nat} (F : Array α) (hne : k ≠ g) : (Sort.putRow enc (Sort.ahead w n) g 0 F).heap[k]? = w.heap[k]? := by
 simp [Sort.putRow, Sort.mapBlock, Sort.ahead, Array.getElem?_modify, Ne.symm hne]
theorem take_putE {α : Type} [Inhabited α] (enc : α → Value) (cur : Array Value) (F : Array α) (m : Nat) (hm : m ≤ F.size) (h : F.size ≤ cur.size) : (Sort.putCells enc 0 F cur).toList.take m = (F.toList.take m).map enc := by
 apply List.ext_getElem?
 intro j
 by_cases hj : j < m
 ·rw [List.getElem?_take_of_lt hj, List.getElem?_map, List.getElem?_take_of_lt hj, Array.getElem?_toList, Array.getElem?_toList]
  have h1 : j < F.size := by omega
  simp [Sort.putCells, h1, show j < cur.size by omega]
 ·rw [List.getElem?_take_eq_none (by omega), List.getElem?_eq_none (by simp; omega)]
end
end Go.AB
