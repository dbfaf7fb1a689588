/-
  Structs and slices that are built, append, make.
-/
import Derived.Test.YtolcenpmgmpmkaaDoorAbEight
import Derived.Great.BuildSlice
namespace Go.AB
open Go Go.RowKit
open Go.AB.Enc (cells)

/-! ### Zero values, structs -/
class ZeroC (P : Program) (t : TypeId) (zs : outParam (List C)) : Prop where
  chk : ∃ v, (P.info? t).bind (fun i => i.zero) = some v ∧ cellsC (constC v) = some zs

def bldChk (P : Program) (t : TypeId) (pl : List (Nat × Nat)) : Bool :=
  match P.underlying t with
  | some (.struct fs) => fs.toList.map (fun f => (f.offset, ((P.info? f.type).map fun i => i.size))) == pl.map fun p => (p.1, some p.2)
  | _ => false
class Bld (P : Program) (t : TypeId) (pl : outParam (List (Nat × Nat))) : Prop where
  chk : bldChk P t pl = true

def fillC (pl : List (Nat × Nat)) (cs : List C) : List (Nat × C) → Option (List C)
  | [] => some cs
  | (i, c) :: r => match pl[i]?, cellsC c with
    | some (off, size), some ds => if ds.length = size ∧ off + size ≤ cs.length then fillC pl (putAt cs off ds) r else none
    | _, _ => none

theorem foldl_splice (off : Nat) (l : List Value) (cs : Array Value) (h : off + l.length ≤ cs.size) : ((l.zipIdx 0).foldl (fun cs (x : Value × Nat) => cs.setIfInBounds (off + x.2) x.1) cs).toList = cs.toList.take off ++ l ++ cs.toList.drop (off + l.length) := by
  obtain ⟨h1, h2⟩ := Great.foldl_set off l 0 cs
  apply List.ext_getElem?
  intro k
  rw [Array.getElem?_toList, h2 k, List.append_assoc, List.getElem?_append]
  simp only [List.length_take, Array.length_toList, Nat.add_zero, Nat.min_eq_left (show off ≤ cs.size by omega)]
  by_cases hk : k < off
  · rw [if_neg (by omega), if_pos hk, List.getElem?_take, if_pos hk, Array.getElem?_toList]
  · rw [if_neg hk, List.getElem?_append]
    by_cases hk2 : k < off + l.length
    · rw [if_pos ⟨by omega, hk2, by omega⟩, if_pos (by omega)]
    · rw [if_neg (by omega), if_neg (by omega), List.getElem?_drop, Array.getElem?_toList]
      congr 1
      omega

theorem fillC_spec {E : Env} {w : World} {pl : List (Nat × Nat)} {place : Nat → Option (Nat × Nat)} (hpl : ∀ i p, pl[i]? = some p → place i = some p) : ∀ (ps : List (Nat × C)) (vs : List (Nat × Value)) (zs cs : List C) (us : Array Value),
    vs.length = ps.length → (∀ (j i : Nat) (c : C), ps[j]? = some (i, c) → ∃ v, vs[j]? = some (i, v) ∧ R E w c v) → Rs E w zs us.toList → (∀ c ∈ zs, c.one = true) → fillC pl zs ps = some cs →
    ∃ us' : Array Value, Instr.fill place us vs = some us' ∧ Rs E w cs us'.toList ∧ ∀ c ∈ cs, c.one = true
  | [], vs, zs, cs, us, hl, _, hz, h1, hf => by
    have : vs = [] := List.eq_nil_of_length_eq_zero (by simpa using hl)
    subst this
    simp only [fillC, Option.some.injEq] at hf
    subst hf
    exact ⟨us, rfl, hz, h1⟩
  | (i, c) :: ps, vs, zs, cs, us, hl, hv, hz, h1, hf => by
    obtain ⟨v, hv0, hr⟩ := hv 0 i c rfl
    cases vs with
    | nil => simp at hl
    | cons v0 vs =>
      simp only [List.getElem?_cons_zero, Option.some.injEq] at hv0
      subst hv0
      simp only [fillC] at hf
      split at hf
      · rename_i off size ds e1 e2
        split at hf
        · rename_i hc
          obtain ⟨q1, q2⟩ := hr.cells e2
          have hzl := hz.1
          have hql := q1.1
          simp only [Array.length_toList] at hzl hql
          obtain ⟨g1, _⟩ := Great.foldl_set off v.cells.toList 0 us
          have hsp := foldl_splice off v.cells.toList us (by simp; omega)
          obtain ⟨us', r1, r2, r3⟩ := fillC_spec hpl ps vs (putAt zs off ds) cs ((v.cells.toList.zipIdx 0).foldl (fun cs (x : Value × Nat) => cs.setIfInBounds (off + x.2) x.1) us) (by simpa using hl) (fun j i c hj => by simpa using hv (j + 1) i c (by simpa using hj)) (by
            rw [hsp]
            have := hz.putAt q1 (off := off) (by omega)
            simpa using this) (by
            rw [putAt_eq zs off ds (by omega)]
            intro c hc
            rcases List.mem_append.1 hc with hc | hc
            · rcases List.mem_append.1 hc with hc | hc
              · exact h1 c (List.mem_of_mem_take hc)
              · exact q2 c hc
            · exact h1 c (List.mem_of_mem_drop hc)) hf
          refine ⟨us', ?_, r2, r3⟩
          unfold Instr.fill
          simp only [hpl i _ e1]
          rw [if_neg (by simp; omega)]
          rw [← r1]
          congr 1
          rw [← Array.foldl_toList, Array.toList_zipIdx]
        · cases hf
      · cases hf

section
variable {P : Program} {o : Oper} {st : St} {K : St → Prop}

theorem ZeroC.run {t : TypeId} {zs : List C} [h : ZeroC P t zs] (E : Env) (w : World) : ∃ v, (∀ w', (zeroValue t).run P w' = .ok v w') ∧ Rs E w zs v.cells.toList ∧ ∀ c ∈ zs, c.one = true := by
  obtain ⟨v, h1, h2⟩ := h.chk
  obtain ⟨h3, h4⟩ := (R.const E w v).cells h2
  refine ⟨v, fun w' => ?_, h3, h4⟩
  cases hi : P.info? t with
  | none => rw [hi] at h1; cases h1
  | some i =>
    rw [hi] at h1
    have hz : i.zero = some v := h1
    simp [zeroValue, typeInfo, hi, hz]

theorem n_build {t : TypeId} {zs cs : List C} {pl : List (Nat × Nat)} [ZeroC P t zs] [Bld P t pl] {parts : List (Nat × Operand)} (ho : o.op = .build t parts.toArray) (hf : fillC pl zs (parts.map fun p => (p.1, evC st p.2)) = some cs) : NStep P o st (.agg cs) := fun E w a hs => by
  obtain ⟨z, hz, q1, q2⟩ := ZeroC.run (P := P) (t := t) E w
  have hb := (Bld.chk : bldChk P t pl = true)
  unfold bldChk at hb
  split at hb
  · rename_i fs hfs
    have hb := eq_of_beq hb
    have hpl : ∀ (i : Nat) (p : Nat × Nat), pl[i]? = some p → ∃ f : Field, fs[i]? = some f ∧ f.offset = p.1 ∧ (P.info? f.type).map (fun i => i.size) = some p.2 := fun i p hp => by
      have h1 : (pl.map fun p => (p.1, some p.2))[i]? = some (p.1, some p.2) := by rw [List.getElem?_map, hp]; rfl
      rw [← hb, List.getElem?_map, Array.getElem?_toList] at h1
      cases hf : fs[i]? with
      | none => rw [hf] at h1; cases h1
      | some f =>
        rw [hf] at h1
        simp only [Option.map_some, Option.some.injEq, Prod.mk.injEq] at h1
        exact ⟨f, rfl, h1.1, h1.2⟩
    have hsz : ∀ f ∈ fs, ∃ k, (P.info? f.type).map (fun i => i.size) = some k := fun f hf => by
      obtain ⟨i, hi⟩ := List.getElem?_of_mem (Array.mem_toList_iff.2 hf)
      have h1 : (fs.toList.map (fun f => (f.offset, ((P.info? f.type).map fun i => i.size))))[i]? = some (f.offset, (P.info? f.type).map fun i => i.size) := by rw [List.getElem?_map, hi]; rfl
      rw [hb, List.getElem?_map] at h1
      cases hp : pl[i]? with
      | none => rw [hp] at h1; cases h1
      | some p =>
        rw [hp] at h1
        simp only [Option.map_some, Option.some.injEq, Prod.mk.injEq] at h1
        exact ⟨p.2, h1.2.symm⟩
    -- the places
    have hmap : ∀ (l : List Field) (acc : Array (Nat × Nat)), (∀ f ∈ l, ∃ k, (P.info? f.type).map (fun i => i.size) = some k) → ∀ w', (l.foldlM (fun (bs : Array (Nat × Nat)) f => do pure (bs.push (f.offset, ← sizeOf f.type))) acc : Sem (Array (Nat × Nat))).run P w' = .ok (acc ++ (l.map fun f => (f.offset, P.cellsOf f.type)).toArray) w' := by
      intro l
      induction l with
      | nil => intro acc _ w'; simp
      | cons f l ih =>
        intro acc hl w'
        obtain ⟨k, hk⟩ := hl f (by simp)
        cases hi : P.info? f.type with
        | none => rw [hi] at hk; cases hk
        | some i =>
          have h1 : (sizeOf f.type).run P w' = .ok (P.cellsOf f.type) w' := by simp [sizeOf, typeInfo, hi, Program.cellsOf]
          have := ih (acc.push (f.offset, P.cellsOf f.type)) (fun f hf => hl f (by simp [hf])) w'
          rw [show acc.push (f.offset, P.cellsOf f.type) ++ (l.map fun f => (f.offset, P.cellsOf f.type)).toArray = acc ++ ((f :: l).map fun f => (f.offset, P.cellsOf f.type)).toArray by simp] at this
          rw [List.foldlM_cons]
          simpa [h1] using this
    obtain ⟨us', r1, r2, r3⟩ := fillC_spec (E := E) (w := w) (pl := pl) (place := fun x => Option.map (fun f => (f.offset, P.cellsOf f.type)) fs[x]?) (fun i p hp => by
      obtain ⟨f, h1, h2, h3⟩ := hpl i p hp
      simp [h1, h2, Program.cellsOf, h3]) (parts.map fun p => (p.1, evC st p.2)) (parts.map fun p => (p.1, a.eval p.2)) zs cs z.cells (by simp) (fun j i c hj => by
        rw [List.getElem?_map] at hj ⊢
        cases hp : parts[j]? with
        | none => rw [hp] at hj; cases hj
        | some p =>
          rw [hp] at hj
          simp only [Option.map_some, Option.some.injEq, Prod.mk.injEq] at hj
          obtain ⟨rfl, rfl⟩ := hj
          exact ⟨a.eval p.2, rfl, hs.ev p.2⟩) q1 q2 hf
    refine ⟨.agg us', by have := r2.agg r3; simpa using this, fun w' => ?_⟩
    have hm := hmap fs.toList #[] (fun f hf => hsz f (Array.mem_toList_iff.1 hf)) w'
    have hm' : (fs.mapM (fun f => do pure (f.offset, ← sizeOf f.type)) : Sem (Array (Nat × Nat))).run P w' = .ok (fs.toList.map fun f => (f.offset, P.cellsOf f.type)).toArray w' := by
      rw [Array.mapM_eq_foldlM, ← Array.foldlM_toList]
      simpa using hm
    simp only [execOp, ho, Instr.build, Sem.run_bind, hz w', run_underlying hfs, Result.andThen_ok, hm', List.map_toArray]
    simp [r1]
  · cases hb
end
end Go.AB
