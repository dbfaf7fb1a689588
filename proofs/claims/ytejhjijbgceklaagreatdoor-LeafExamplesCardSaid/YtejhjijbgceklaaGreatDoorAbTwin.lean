/-
 A slice that is copied: what is copied is owned.
-/
import Derived.Test.YtejhjijbgceklaaGreatDoorEngB
namespace Go.AB
open Go Go.RowKit
open Go.AB.Enc (cells)
section
variable {P : Program} {o : Oper} {st : St} {K : St → Prop}
/-- A slice that is built: owned. -/
theorem e_buildSlice_new {α : Type} [Enc α] {t e : TypeId} {bytes n : Nat} [AppT P t e (Enc.n α) bytes] {parts : List (Nat × Operand)} {rows : List (List C)} (xs : List α) (ho : o.op = .buildSlice t n parts.toArray) (hi : parts.map (·.1) = List.range n) (hr : rowsC (parts.map fun p => (p.1, evC st p.2)) = some rows) (hrx : rows = xs.map cells) (hn : n ≠ 0) (hs : 1 ≤ Enc.n α) (h24 : n * Enc.n α ≤ 16777216)
  (h : K (St.put { st with G := setG st.G st.nx (.arr 0 0 e (Enc.n α) n (flatC xs)), nx := st.nx + 1 } o.dst (.own st.nx 0 n))) : EStep P o st K :=
 estep_run fun E w a hsim => by
  obtain ⟨sz, hszE⟩ : ∃ sz, sz = Enc.n α := ⟨_, rfl⟩
  have hsz : ∀ r ∈ rows, r.length = sz := fun r hr' => by
   rw [hrx] at hr'
   obtain ⟨x, _, rfl⟩ := List.mem_map.1 hr'
   rw [hszE]; exact Enc.len x
  rw [← hszE] at hs h24
  obtain ⟨ht, i, z, hie, hz, h1, h2, h3⟩ := AppT.spec (P := P) (t := t) (e := e) (sz := Enc.n α) (bytes := bytes)
  rw [← hszE] at h1 h3
  have hpl : parts.length = n := by have := congrArg List.length hi; simpa using this
  obtain ⟨r1, r2, r3, r4⟩ := rowsC_spec (E := E) (w := w) (parts.map fun p => (p.1, evC st p.2)) (parts.map fun p => a.eval p.2) rows (by simp) (fun j i c hj => by
   rw [List.getElem?_map] at hj ⊢
   cases hp : parts[j]? with
   | none => rw [hp] at hj; cases hj
   | some p =>
    rw [hp] at hj
    simp only [Option.map_some, Option.some.injEq, Prod.mk.injEq] at hj
    obtain ⟨rfl, rfl⟩ := hj
    exact ⟨a.eval p.2, rfl, hsim.ev p.2⟩) hr
  simp only [List.length_map] at r1
  have hcs : ∀ v ∈ parts.map (fun p => a.eval p.2), v.cells.size = sz := fun v hv => by
   obtain ⟨j, hj⟩ := List.getElem?_of_mem hv
   have hlt : j < rows.length := by rw [r1]; simpa using (List.getElem?_eq_some_iff.1 hj).1
   rw [← r4 j _ v (List.getElem?_eq_getElem hlt) hj]
   exact hsz _ (List.getElem_mem hlt)
  have hpos : 0 < n * sz := Nat.mul_pos (by omega) (by omega)
  have hfill := Great.fill_whole (s := sz) (by omega) (parts.map fun p => a.eval p.2) ((Array.range (n * i.size)).map (z.cells[· % z.cells.size]!)) hcs (by simp [hpl, h1])
  have hparts : (((parts.map fun p => a.eval p.2).zipIdx 0).map fun x => (x.2, x.1)) = parts.map fun p => (p.1, a.eval p.2) := by
   apply List.ext_getElem?
   intro j
   simp only [List.getElem?_map, List.getElem?_zipIdx]
   cases hp : parts[j]? with
   | none => rfl
   | some p =>
    have h1 : (parts.map (·.1))[j]? = some p.1 := by rw [List.getElem?_map, hp]; rfl
    rw [hi] at h1
    have h2 : (List.range n)[j]? = some j := List.getElem?_range (by rw [← hpl]; exact (List.getElem?_eq_some_iff.1 hp).1)
    rw [h2] at h1
    simp only [Option.some.injEq] at h1
    simp [h1]
  rw [hparts, ← h1] at hfill
  have hrun := run_buildSlice (P := P) w t e n (parts.map fun p => (p.1, a.eval p.2)).toArray _ i z ht hie hz (by rw [h1]; omega) (by rw [h1]; omega) (by simpa using hfill)
  have hrl : rows.length = n := by omega
  have hfl := flat_len hsz
  have hul := r2.1
  obtain ⟨us, hus⟩ : ∃ us, us = (parts.map fun p => a.eval p.2).flatMap fun v => v.cells.toList := ⟨_, rfl⟩
  rw [← hus] at hrun r2 hul
  obtain ⟨ob, hob⟩ : ∃ ob, ob = Obj.cells us.toArray e := ⟨_, rfl⟩
  rw [← hob] at hrun
  have hev := Ev.laid hsim.g (o := ob) 0 (.inl rfl) (.inl rfl)
  have hg := SimG.laid hsim.g (o := ob) 0 (.inl rfl) (.inl rfl)
  have hnew : (w.alloc ob).heap[w.heap.size]? = some ob := heap_new w ob
  have hwsz : (w.alloc ob).heap.size = w.heap.size + 1 := by simp
  have hold : ∀ n tt b, (E.lay w.heap.size 0).T n = some tt → blk tt.2.2 = some b → b < w.heap.size := fun n tt b h5 h6 => (hsim.g.tb n _ _ _ b h5 h6).2
  have hnx := hsim.g.nx
  have hev2 := hev.thenName (.slice (some ⟨w.heap.size, 0, none⟩) n n) fun b o' hbk ho' => by
   simp only [blk, Option.some.injEq] at hbk
   subst hbk
   have := (Array.getElem?_eq_some_iff.1 ho').1
   omega
  have hflat : rows.flatten = flatC xs := by rw [hrx]; rfl
  have hrs : Rs ((E.lay w.heap.size 0).name (.slice (some ⟨w.heap.size, 0, none⟩) n n)) (w.alloc ob) (flatC xs) us := by rw [← hflat]; exact r2.ev hev2
  have hmx : n ≤ maxLen := by unfold maxLen; have := Nat.le_mul_of_pos_right n (show 0 < sz by omega); omega
  have hg2 := SimG.name hg (.slice (some ⟨w.heap.size, 0, none⟩) n n) (.arr 0 0 e (Enc.n α) n (flatC xs)) (fun b hbk => by
   simp only [blk, Option.some.injEq] at hbk
   subst hbk
   exact ⟨hsim.g.base, by rw [hwsz]; omega, fun n tt h5 h6 => absurd (hold n tt _ h5 h6) (by omega)⟩) (by
   refine ⟨.slice (some ⟨w.heap.size, 0, none⟩) n n, us, ?_, ⟨by rw [hul, hfl, hrl, hszE], .inr ⟨w.heap.size, n, _, rfl, hsim.g.base, hnew.trans (by rw [hob]), Nat.le_refl _, hmx, ?_, ?_⟩⟩, fun c hc => ?_, hrs, fun b hbk => ?_, by rw [← hszE]; exact hs⟩
   ·simp [Env.name, Env.lay, hnx]
   ·rw [List.size_toArray, hul, hfl, hrl, hszE]
   ·rw [List.toList_toArray, List.take_of_length_le (by rw [hul, hfl, hrl, hszE]; exact Nat.le_refl _)]
   ·obtain ⟨r, hr1, hc1⟩ := List.mem_flatten.1 hc
    obtain ⟨y, _, rfl⟩ := List.mem_map.1 hr1
    exact Enc.one y c hc1
   ·simp only [blk, Option.some.injEq] at hbk
    subst hbk
    simp [Env.name, Env.lay])
  refine ⟨.slice (some ⟨w.heap.size, 0, none⟩) n n, w.alloc ob, _, _, _, .own st.nx 0 n, ?_, hev2, ?_, hg2, h⟩
  ·simp only [execOp, ho, Sem.run_bind, List.map_toArray]
   rw [hrun]; rfl
  ·refine R.own (by simp [Env.name, Env.lay]; omega) (Nat.le_refl _) hmx fun ver wv val htt => ?_
   simp only [Env.name, Env.lay, hnx, if_true, Option.some.injEq, Prod.mk.injEq] at htt
   obtain ⟨rfl, rfl, rfl⟩ := htt
   exact ⟨Nat.le_refl _, fun _ => ⟨_, Nat.le_refl _, rfl⟩⟩
end
end Go.AB
