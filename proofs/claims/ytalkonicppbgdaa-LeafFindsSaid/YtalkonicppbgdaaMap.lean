/-
  Maps: which value each key has.
-/
import Derived.Test.YtalkonicppbgdaaBase
import Derived.Maps.Keyed
import Derived.DeepKeys4
namespace Go.PB
open Go Go.RowKit
open Go.Maps (Keyed)

/-- A key's value is put in. -/
noncomputable def mput (f : Value → Option Value) (k v : Value) : Value → Option Value := fun x => by classical exact if x = k then some v else f x
theorem mput_same (f : Value → Option Value) (k v : Value) : mput f k v k = some v := by simp [mput]
theorem mput_other (f : Value → Option Value) (k v : Value) {x : Value} (h : x ≠ k) : mput f k v x = f x := by simp [mput, h]

/-- The map in a block, as a function. -/
def MapF (P : Program) (k : TypeId) (w : World) (r : Nat) (f : Value → Option Value) : Prop :=
  ∃ es clock, w.heap[r]? = some (.map es clock) ∧ (∀ e ∈ es.toList, ∃ l, keyOf P k e.key = some l) ∧ es.toList.Pairwise (fun a b => a.key ≠ b.key) ∧ (∀ e ∈ es.toList, f e.key = some e.val) ∧ ∀ x v, f x = some v → ∃ e ∈ es.toList, e.key = x

theorem MapF.nil (P : Program) (k : TypeId) (w : World) : MapF P k (w.alloc (.map #[] 0)) w.heap.size (fun _ => none) :=
  ⟨#[], 0, (MapKept.heap_alloc w _).1, by simp, by simp, by simp, by simp⟩

theorem MapF.lt {P : Program} {k : TypeId} {w : World} {r : Nat} {f : Value → Option Value} (h : MapF P k w r f) : r < w.heap.size := by
  obtain ⟨es, clock, hb, _⟩ := h
  exact (Array.getElem?_eq_some_iff.1 hb).1

theorem MapF.kept {P : Program} {k : TypeId} {w w' : World} {r : Nat} {f : Value → Option Value} (h : MapF P k w r f) (hr : w'.heap[r]? = w.heap[r]?) : MapF P k w' r f := by
  obtain ⟨es, clock, hb, r⟩ := h
  exact ⟨es, clock, hr.trans hb, r⟩
theorem MapF.below {P : Program} {k : TypeId} {w w' : World} {r B : Nat} {f : Value → Option Value} (h : MapF P k w r f) (hb : Below B w w') (hr : r < B) : MapF P k w' r f := h.kept (hb.block r hr)
theorem MapF.alloc {P : Program} {k : TypeId} {w : World} {r : Nat} {f : Value → Option Value} (h : MapF P k w r f) (o : Obj) : MapF P k (w.alloc o) r f := h.kept (Below.heap_alloc w o r h.lt)
theorem MapF.setCell {P : Program} {k : TypeId} {w : World} {r : Nat} {f : Value → Option Value} (h : MapF P k w r f) {a : Addr} (ha : r ≠ a.block) (u : Value) : MapF P k (w.setCell a u) r f := h.kept (Below.heap_setCell _ _ _ _ ha)
theorem MapF.grown {P : Program} {k : TypeId} {w w' : World} {r : Nat} {row : Option Nat} {f : Value → Option Value} (h : MapF P k w r f) (hg : w.grownBy w' row) (hr : some r ≠ row) : MapF P k w' r f := h.kept (hg.block r h.lt hr)
theorem MapF.drew {P : Program} {k : TypeId} {w : World} {r : Nat} {f : Value → Option Value} (h : MapF P k w r f) : MapF P k w.drew r f := h
theorem MapF.drewN {P : Program} {k : TypeId} {w : World} {r : Nat} {f : Value → Option Value} (h : MapF P k w r f) (n : Nat) : MapF P k (w.drewN n) r f := h

theorem MapF.lookup {P : Program} {k t e : TypeId} {w : World} {r : Nat} {f : Value → Option Value} (h : MapF P k w r f) (K : Keyed P k) (ht : P.underlying t = some (.map k e)) {z : Value} (hz : (zeroValue e).run P w = .ok z w)
    {key : Value} {kl : Lit} (hkey : keyOf P k key = some kl) : (Instr.lookup t (.map (some r)) key false).run P w = .ok ((f key).getD z) w := by
  obtain ⟨es, clock, hb, h1, h2, h3, h4⟩ := h
  rcases K.find w hkey es.toList h1 with ⟨hf, hn⟩ | ⟨j, e0, hf, hj, hk⟩
  · have hno : f key = none := by
      cases hfk : f key with
      | none => rfl
      | some v => obtain ⟨e', he, hek⟩ := h4 key v hfk; exact absurd hek (hn e' he)
    simp [Instr.lookup, run_underlying ht, MapKept.run_getObj_map hb, K.check w _ hkey, hf, hz, Result.andThen, hno]
  · have hsome : f key = some e0.val := by rw [← hk]; exact h3 e0 (List.mem_of_getElem? hj)
    simp [Instr.lookup, run_underlying ht, MapKept.run_getObj_map hb, K.check w _ hkey, hf, Result.andThen, hsome]

theorem MapF.lookupOk {P : Program} {k t e : TypeId} {w : World} {r : Nat} {f : Value → Option Value} (h : MapF P k w r f) (K : Keyed P k) (ht : P.underlying t = some (.map k e)) {z : Value} (hz : (zeroValue e).run P w = .ok z w)
    {key : Value} {kl : Lit} (hkey : keyOf P k key = some kl) : (Instr.lookup t (.map (some r)) key true).run P w = .ok (.tuple #[(f key).getD z, .bool (f key).isSome]) w := by
  obtain ⟨es, clock, hb, h1, h2, h3, h4⟩ := h
  rcases K.find w hkey es.toList h1 with ⟨hf, hn⟩ | ⟨j, e0, hf, hj, hk⟩
  · have hno : f key = none := by
      cases hfk : f key with
      | none => rfl
      | some v => obtain ⟨e', he, hek⟩ := h4 key v hfk; exact absurd hek (hn e' he)
    simp [Instr.lookup, run_underlying ht, MapKept.run_getObj_map hb, K.check w _ hkey, hf, hz, Result.andThen, hno]
  · have hsome : f key = some e0.val := by rw [← hk]; exact h3 e0 (List.mem_of_getElem? hj)
    simp [Instr.lookup, run_underlying ht, MapKept.run_getObj_map hb, K.check w _ hkey, hf, Result.andThen, hsome]

theorem MapF.update {P : Program} {k t e : TypeId} {w : World} {r : Nat} {f : Value → Option Value} (h : MapF P k w r f) (K : Keyed P k) (ht : P.underlying t = some (.map k e))
    {key : Value} {kl : Lit} (hkey : keyOf P k key = some kl) (val : Value) : ∃ w', (Instr.mapUpdate t (.map (some r)) key val).run P w = .ok () w' ∧ MapF P k w' r (mput f key val) ∧ w.grownBy w' (some r) := by
  obtain ⟨es, clock, hb, h1, h2, h3, h4⟩ := h
  rcases K.find w hkey es.toList h1 with ⟨hf, hn⟩ | ⟨j, e0, hf, hj, hk⟩
  · refine ⟨ChangeMaps.setBlock w r (.map (es.push ⟨key, val, clock⟩) (clock + 1)), ?_, ⟨_, _, ChangeMaps.heap_setBlock_same hb _, ?_, ?_, ?_, ?_⟩, ⟨rfl, rfl, rfl, by simp [ChangeMaps.setBlock], fun i _ hi => ChangeMaps.heap_setBlock_other hb _ (fun e => hi (by rw [e]))⟩⟩
    · simp [Instr.mapUpdate, run_underlying ht, MapKept.run_getObj_map hb, K.check w false hkey, hf, MapKept.run_setObj_map _ hb, Result.andThen, ChangeMaps.setBlock]
    · intro e he
      simp only [Array.toList_push, List.mem_append, List.mem_singleton] at he
      rcases he with he | rfl
      · exact h1 e he
      · exact ⟨_, hkey⟩
    · simp only [Array.toList_push]
      refine List.pairwise_append.2 ⟨h2, by simp, ?_⟩
      intro a ha b hb
      simp only [List.mem_singleton] at hb
      subst hb
      exact hn a ha
    · intro e he
      simp only [Array.toList_push, List.mem_append, List.mem_singleton] at he
      rcases he with he | rfl
      · rw [mput_other _ _ _ (hn e he)]; exact h3 e he
      · exact mput_same _ _ _
    · intro x v hx
      by_cases hxk : x = key
      · exact ⟨⟨key, val, clock⟩, by simp, hxk.symm⟩
      · rw [mput_other _ _ _ hxk] at hx
        obtain ⟨e, he, hek⟩ := h4 x v hx
        exact ⟨e, by simp [Array.mem_toList_iff.1 he], hek⟩
  · have hj' : es[j]? = some e0 := by simpa using hj
    have hjl : j < es.toList.length := (List.getElem?_eq_some_iff.1 hj).1
    have hlist : (es.modify j (fun e' => { e' with key := key, val := val })).toList = es.toList.set j { e0 with key := key, val := val } := by rw [Array.toList_modify, ChangeMaps.modify_eq_set _ _ _ _ hj]
    have hother : ∀ (i : Nat) (a : MapEntry), i ≠ j → es.toList[i]? = some a → a.key ≠ key := by
      intro i a hi ha
      rw [← hk]
      have hil : i < es.toList.length := (List.getElem?_eq_some_iff.1 ha).1
      have ea := (List.getElem?_eq_some_iff.1 ha).2
      have ej := (List.getElem?_eq_some_iff.1 hj).2
      rw [List.pairwise_iff_getElem] at h2
      rcases Nat.lt_or_gt_of_ne hi with hlt | hlt
      · have := h2 i j hil hjl hlt
        rw [ea, ej] at this
        exact this
      · have := h2 j i hjl hil hlt
        rw [ea, ej] at this
        exact this.symm
    have who : ∀ x ∈ es.toList.set j { e0 with key := key, val := val }, x = { e0 with key := key, val := val } ∨ (x ∈ es.toList ∧ x.key ≠ key) := by
      intro x hx
      obtain ⟨i, hi, ex⟩ := List.getElem_of_mem hx
      rw [List.getElem_set] at ex
      split at ex
      · exact Or.inl ex.symm
      · rename_i hne
        have hi' : i < es.toList.length := by simpa using hi
        exact Or.inr ⟨ex ▸ List.getElem_mem hi', hother i x (fun e => hne e.symm) (by rw [List.getElem?_eq_getElem hi', ex])⟩
    have hin : ∀ i a, i ≠ j → es.toList[i]? = some a → a ∈ es.toList.set j { e0 with key := key, val := val } := by
      intro i a hi ha
      have : (es.toList.set j { e0 with key := key, val := val })[i]? = some a := by rw [List.getElem?_set_ne (fun e => hi e.symm)]; exact ha
      exact List.mem_of_getElem? this
    have hinj : ({ e0 with key := key, val := val } : MapEntry) ∈ es.toList.set j { e0 with key := key, val := val } := by
      refine List.mem_of_getElem? (i := j) ?_
      rw [List.getElem?_set_self hjl]
    refine ⟨ChangeMaps.setBlock w r (.map (es.modify j (fun e' => { e' with key := key, val := val })) clock), ?_, ⟨_, _, ChangeMaps.heap_setBlock_same hb _, ?_, ?_, ?_, ?_⟩, ⟨rfl, rfl, rfl, by simp [ChangeMaps.setBlock], fun i _ hi => ChangeMaps.heap_setBlock_other hb _ (fun e => hi (by rw [e]))⟩⟩
    · simp [Instr.mapUpdate, run_underlying ht, MapKept.run_getObj_map hb, K.check w false hkey, hf, hj', hk, K.stays w hkey, MapKept.run_setObj_map _ hb, Result.andThen, ChangeMaps.setBlock]
    · intro e he
      rw [hlist] at he
      rcases who e he with rfl | ⟨h, _⟩
      · exact ⟨_, hkey⟩
      · exact h1 e h
    · rw [hlist, List.pairwise_iff_getElem]
      intro i i' hi hi' hlt
      rw [List.pairwise_iff_getElem] at h2
      have hil : i < es.toList.length := by simpa using hi
      have hil' : i' < es.toList.length := by simpa using hi'
      have hh := h2 i i' hil hil' hlt
      have ej := (List.getElem?_eq_some_iff.1 hj).2
      simp only [List.getElem_set]
      by_cases hij : j = i
      · have hij' : ¬ j = i' := by omega
        simp only [hij, if_true]
        rw [if_neg (by omega)]
        subst hij
        rw [ej, hk] at hh
        exact hh
      · rw [if_neg hij]
        by_cases hij' : j = i'
        · subst hij'
          rw [ej, hk] at hh
          simpa using hh
        · rw [if_neg hij']
          exact hh
    · intro e he
      rw [hlist] at he
      rcases who e he with rfl | ⟨h, hne⟩
      · exact mput_same _ _ _
      · rw [mput_other _ _ _ hne]; exact h3 e h
    · intro x v hx
      rw [hlist]
      by_cases hxk : x = key
      · exact ⟨_, hinj, hxk.symm⟩
      · rw [mput_other _ _ _ hxk] at hx
        obtain ⟨e, he, hek⟩ := h4 x v hx
        obtain ⟨i, hi⟩ := List.mem_iff_getElem?.1 he
        refine ⟨e, hin i e (fun hij => ?_) hi, hek⟩
        subst hij
        rw [hj] at hi
        injection hi with hi
        subst hi
        exact hxk (hek.symm.trans hk)

#print axioms MapF.update
end Go.PB
