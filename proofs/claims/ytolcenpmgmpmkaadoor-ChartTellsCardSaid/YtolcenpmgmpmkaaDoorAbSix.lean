/-
  Operations that act: new blocks, stores, append, calls.
-/
import Derived.Test.YtolcenpmgmpmkaaDoorAbFive
import Derived.Laws.CopyRow
namespace Go.AB
open Go Go.RowKit

/-- A value's cells. -/
def cellsC : C → Option (List C)
  | .agg cs => some cs
  | .tup _ | .any => none
  | c => some [c]

theorem R.cells {E : Env} {w : World} {c : C} {v : Value} {cs : List C} (h : R E w c v) (hc : cellsC c = some cs) : Rs E w cs v.cells.toList ∧ ∀ x ∈ cs, x.one = true := by
  have one : ∀ {c : C} {v : Value}, R E w c v → c.one = true → v.cells = #[v] → cs = [c] → Rs E w cs v.cells.toList ∧ ∀ x ∈ cs, x.one = true := by
    intro c v h h1 hv hcs
    subst hcs
    rw [hv]
    exact ⟨Rs.cons h Rs.nil, by simpa using h1⟩
  have hv1 : ∀ v : Value, v.oneCell' = true → v.cells = #[v] := by intro v; cases v <;> first | (intro _; rfl) | (intro h; cases h)
  cases c with
  | agg ds =>
    simp only [cellsC, Option.some.injEq] at hc
    subst hc
    obtain ⟨vs, rfl, h1, h2⟩ := h.agg_inv
    exact ⟨by simpa [Value.cells] using h1, h2⟩
  | tup => simp [cellsC] at hc
  | any => simp [cellsC] at hc
  | _ =>
    simp only [cellsC, Option.some.injEq] at hc
    exact one h rfl (hv1 _ (h.one rfl)) hc.symm

/-- A value's cells are each one cell. -/
theorem Rs.oneCell {E : Env} {w : World} {cs : List C} {vs : List Value} (h : Rs E w cs vs) (h1 : ∀ c ∈ cs, c.one = true) : ∀ u ∈ vs, u.oneCell' = true := by
  intro u hu
  obtain ⟨j, hj⟩ := List.getElem?_of_mem hu
  have hlt : j < cs.length := by rw [← h.1]; exact (List.getElem?_eq_some_iff.1 hj).1
  exact (h.2 j _ u (List.getElem?_eq_getElem hlt) hj).one (h1 _ (List.getElem_mem hlt))

theorem cell_of_heap {w : World} {b j : Nat} {us : Array Value} {tt : TypeId} {u : Value} (h : w.heap[b]? = some (.cells us tt (0, 0))) (hj : us[j]? = some u) : w.cell? ⟨b, j, none⟩ = some u := by
  simp [World.cell?, h, hj]

theorem heap_new (w : World) (o : Obj) : (w.alloc o).heap[w.heap.size]? = some o := heap_alloc_new w o

/-- New cells, laid for good. -/
theorem lay_elem {E : Env} {w : World} {G : Nat → Option GObj} {nx : Nat} (hg : SimG E w G nx) {cs : List C} {us : Array Value} {tt : TypeId} (hr : Rs E w cs us.toList) (h1 : ∀ c ∈ cs, c.one = true) (hne : cs ≠ []) :
    R (E.lay w.heap.size us.size) (w.alloc (.cells us tt)) (.elem cs) (.pointer (some ⟨w.heap.size, 0, none⟩)) := by
  have hev := Ev.laid hg (o := .cells us tt) us.size (.inl rfl) (alloc_cell0 w us tt)
  have hr' := hr.ev hev
  refine .elem (us := fun j => us.toList.getD j undef) hne h1 (.inr ⟨w.heap.size, 0, rfl, ?_, fun j hj => ?_⟩) hr'.us.1
  · simp only [Env.lay, if_true, Nat.zero_add]
    rw [← hr.1]; simp
  · rw [Nat.zero_add]
    refine cell_of_heap (heap_new w _) ?_
    rw [← Array.getElem?_toList]
    exact hr'.us.2 j hj

/-- New cells, with a name. -/
theorem name_box {E : Env} {w : World} {st : St} {a : Act} (hs : Sim E w st a) {cs : List C} {us : Array Value} (tt : TypeId) (hr : Rs E w cs us.toList) (h1 : ∀ c ∈ cs, c.one = true) :
    ∃ E', Ev E w E' (w.alloc (.cells us tt)) ∧ R E' (w.alloc (.cells us tt)) (.box st.nx 0 0) (.pointer (some ⟨w.heap.size, 0, none⟩)) ∧ SimG E' (w.alloc (.cells us tt)) (setG st.G st.nx (.box 0 cs)) (st.nx + 1) := by
  have hev1 := Ev.laid hs.g (o := .cells us tt) 0 (.inl rfl)
  have hg1 := SimG.laid hs.g (o := .cells us tt) 0 (.inl rfl)
  have hnx := hg1.nx
  have hcl : ∀ b o, blk (.pointer (some ⟨w.heap.size, 0, none⟩)) = some b → (w.alloc (.cells us tt)).heap[b]? = some o → o.isCells = true := fun b o hb ho => by
    simp only [blk, Option.some.injEq] at hb
    subst hb
    rw [heap_new] at ho
    cases ho; rfl
  have hev2 := Ev.name hg1 (.pointer (some ⟨w.heap.size, 0, none⟩)) hcl
  refine ⟨_, hev1.trans hev2, ?_, SimG.name hg1 (.pointer (some ⟨w.heap.size, 0, none⟩)) (.box 0 cs) hcl ?_ ?_⟩
  · refine .box (by simp only [Env.name, Env.lay] at hnx ⊢; omega) fun ver' wv val ht => ?_
    simp only [Env.name] at ht
    rw [if_pos (by rw [← hnx])] at ht
    simp only [Option.some.injEq, Prod.mk.injEq] at ht
    obtain ⟨rfl, rfl, rfl⟩ := ht
    exact ⟨Nat.le_refl _, fun _ => rfl⟩
  · intro b hb
    simp only [blk, Option.some.injEq] at hb
    subst hb
    refine ⟨hs.g.base, by simp, fun n t ht hb => ?_⟩
    have := (hs.g.tb n t.1 t.2.1 t.2.2 _ ht hb).2
    omega
  · refine ⟨w.heap.size, us, tt, ?_, heap_new w _, h1, hr.ev (hev1.trans hev2), ?_⟩
    · simp only [Env.name]; rw [if_pos (by rw [← hnx])]
    · simp [Env.name, Env.lay]

section
variable {P : Program} {o : Oper} {st : St} {K : St → Prop}

theorem estep_run {K : St → Prop} (h : ∀ E w a, Sim E w st a → ∃ v w' E' G' nx' c, (execOp a.eval o).run P w = .ok (.value v) w' ∧ Ev E w E' w' ∧ R E' w' c v ∧ SimG E' w' G' nx' ∧ K (St.put { st with G := G', nx := nx' } o.dst c)) : EStep P o st K := by
  intro E w a hs Kr Q hq
  obtain ⟨v, w', E', G', nx', c, h1, h2, h3, h4, h5⟩ := h E w a hs
  unfold Oper.wp
  rw [h1]
  exact hq _ _ _ _ h2 ((hs.evd h2 h4).put o.dst h3) h5

theorem e_box {e : TypeId} {x : Operand} {cs : List C} (ho : o.op = .box e x) (hx : cellsC (evC st x) = some cs) (hne : cs ≠ []) (h : K (st.put o.dst (.elem cs))) : EStep P o st K :=
  estep_run fun E w a hs => by
    obtain ⟨hr, h1⟩ := (hs.ev x).cells hx
    exact ⟨.pointer (some ⟨w.heap.size, 0, none⟩), w.alloc (.cells (a.eval x).cells e), _, st.G, st.nx, _, by simp [execOp, ho, Instr.box, newVar, newRow, newObj, Sem.run], Ev.laid hs.g _ (.inl rfl) (alloc_cell0 _ _ _), lay_elem hs.g hr h1 hne, SimG.laid hs.g _ (.inl rfl) (alloc_cell0 _ _ _), h⟩
theorem e_box_named {e : TypeId} {x : Operand} {cs : List C} (ho : o.op = .box e x) (hx : cellsC (evC st x) = some cs) (h : K (St.put { st with G := setG st.G st.nx (.box 0 cs), nx := st.nx + 1 } o.dst (.box st.nx 0 0))) : EStep P o st K :=
  estep_run fun E w a hs => by
    obtain ⟨hr, h1⟩ := (hs.ev x).cells hx
    obtain ⟨E', h2, h3, h4⟩ := name_box hs e hr h1
    exact ⟨.pointer (some ⟨w.heap.size, 0, none⟩), w.alloc (.cells (a.eval x).cells e), E', _, _, _, by simp [execOp, ho, Instr.box, newVar, newRow, newObj, Sem.run], h2, h3, h4, h⟩

/-- A type's zero value. -/
class Zero (P : Program) (t : TypeId) (v : outParam Value) : Prop where
  chk : (P.info? t).bind (fun i => i.zero) = some v
theorem Zero.run {t : TypeId} {v : Value} [h : Zero P t v] {w : World} : (zeroValue t).run P w = .ok v w := by
  have := h.chk
  cases hi : P.info? t with
  | none => rw [hi] at this; cases this
  | some i =>
    rw [hi] at this
    have hz : i.zero = some v := this
    simp [zeroValue, typeInfo, hi, hz]

theorem e_alloc {e : TypeId} {v : Value} [Zero P e v] {cs : List C} (ho : o.op = .alloc e) (hx : cellsC (constC v) = some cs) (h : K (St.put { st with G := setG st.G st.nx (.box 0 cs), nx := st.nx + 1 } o.dst (.box st.nx 0 0))) : EStep P o st K :=
  estep_run fun E w a hs => by
    obtain ⟨hr, h1⟩ := (R.const E w v).cells hx
    obtain ⟨E', h2, h3, h4⟩ := name_box hs e hr h1
    exact ⟨.pointer (some ⟨w.heap.size, 0, none⟩), w.alloc (.cells v.cells e), E', _, _, _, by simp [execOp, ho, Instr.alloc, Zero.run (P := P) (t := e) (v := v), newVar, newRow, newObj, Sem.run], h2, h3, h4, h⟩

/-- Cells written over. -/
def putAt (cs : List C) (off : Nat) : List C → List C
  | [] => cs
  | x :: r => putAt (cs.set off x) (off + 1) r

theorem putAt_eq (cs : List C) (off : Nat) (new : List C) (h : off + new.length ≤ cs.length) : putAt cs off new = cs.take off ++ new ++ cs.drop (off + new.length) := by
  induction new generalizing cs off with
  | nil => simp [putAt]
  | cons x r ih =>
    simp only [List.length_cons] at h
    rw [putAt, ih _ _ (by simp; omega), List.take_set, List.drop_set_of_lt (by omega)]
    have e1 : (cs.take (off + 1)).set off x = cs.take off ++ [x] := by
      rw [List.set_eq_take_append_cons_drop, if_pos (by simp; omega), List.take_take, Nat.min_eq_left (by omega), List.drop_eq_nil_of_le (by simp; omega)]
    rw [e1]
    simp [Nat.add_assoc, Nat.add_comm 1]

theorem Rs.putAt {E : Env} {w : World} {cs new : List C} {vs us : List Value} (h : Rs E w cs vs) (k : Rs E w new us) {off : Nat} (hb : off + new.length ≤ cs.length) : Rs E w (putAt cs off new) (vs.take off ++ us ++ vs.drop (off + us.length)) := by
  rw [putAt_eq cs off new hb, k.1]
  exact ((h.take off).append k).append (h.dropn _)

/-- What the run of a store into a named variable leaves. -/
theorem store_box {E : Env} {w : World} {st : St} {a : Act} (hs : Sim E w st a) {t : TypeId} {ag : Bool} {sz : Nat} [Ty P t ag sz] {n off wv : Nat} {cs new : List C} {p v : Value} (hp : R E w (.box n 0 off) p) (hG : st.G n = some (.box wv cs)) (hv : Rs E w new v.cells.toList) (h1 : ∀ c ∈ new, c.one = true) (hsz : new.length = sz) (hb : off + sz ≤ cs.length) :
    ∃ w' E', (Instr.storeAt t p v).run P w = .ok () w' ∧ Ev E w E' w' ∧ SimG E' w' (setG st.G n (.box (wv + 1) (putAt cs off new))) st.nx := by
  obtain ⟨b, us, tt, hT, hh, hone, hr, hL⟩ := hs.g.obj n _ hG
  cases hp with
  | @box _ _ _ b' hn hp =>
    have hb' : b' = b := by
      have := (hp _ _ _ hT).2 rfl
      simp only [blk, Option.some.injEq] at this
      exact this.symm
    subst hb'
    have hlen := hr.1
    have hvl := hv.1
    simp only [Array.length_toList] at hlen hvl
    have h2 := Ty.size (P := P) (w := w) (t := t) (ag := ag) (n := sz)
    have hst := run_storeCells_at (P := P) b' off tt v.cells.toList 0 us w hh (by simp; omega) (hv.oneCell h1)
    have hrun : (Instr.storeAt t (.pointer (some ⟨b', off, none⟩)) v).run P w = .ok () (w.setRow b' (us.toList.take (off + 0) ++ v.cells.toList ++ us.toList.drop (off + 0 + v.cells.toList.length)).toArray) := by
      simp only [Instr.storeAt, Instr.sureAddr, storeVar, Sem.run_bind, Sem.run_pure, Result.andThen_ok, h2]
      rw [if_neg (by omega)]
      exact hst
    simp only [Nat.add_zero] at hrun
    refine ⟨_, E.chg n (0, wv + 1, .pointer (some ⟨b', 0, none⟩)) 0, hrun, ?_⟩
    have hchg : Chg E w (w.setRow b' (us.toList.take off ++ v.cells.toList ++ us.toList.drop (off + v.cells.toList.length)).toArray) 0 wv (.pointer (some ⟨b', 0, none⟩)) 0 (wv + 1) (.pointer (some ⟨b', 0, none⟩)) 0 := by
      refine ⟨?_, fun k _ hk => setRow_other w b' k _ (fun e => hk (by simp [blk, e])), fun b hb => .inl ⟨hb, ?_⟩, fun b i hb hi => ?_, .inr ⟨rfl, rfl, by omega⟩, fun b o hb ho => ?_, fun hv => absurd hv (Nat.lt_irrefl _), fun b _ hl => absurd hl (Nat.not_lt_zero _)⟩
      · have := hs.g.tb n _ _ _ b' hT rfl
        exact ⟨rfl, rfl, rfl, by simp [World.setRow], fun k hk => setRow_other w b' k _ (by omega)⟩
      · simp only [blk, Option.some.injEq] at hb; subst hb; omega
      · simp only [blk, Option.some.injEq] at hb; subst hb; omega
      · simp only [blk, Option.some.injEq] at hb; subst hb; rw [hh] at ho; cases ho; exact ⟨_, setRow_heap w b' us _ tt _ hh, rfl⟩
    refine ⟨Ev.chg hs.g hT hchg, SimG.chg hs.g hT hchg ?_⟩
    refine ⟨b', _, tt, by simp [Env.chg], setRow_heap w b' us _ tt _ hh, ?_, ?_, by simp [Env.chg, blk]⟩
    · rw [putAt_eq cs off new (by omega)]
      intro c hc
      rcases List.mem_append.1 hc with hc | hc
      · rcases List.mem_append.1 hc with hc | hc
        · exact hone c (List.mem_of_mem_take hc)
        · exact h1 c hc
      · exact hone c (List.mem_of_mem_drop hc)
    · have hev := Ev.chg hs.g hT hchg
      exact (hr.ev hev).putAt (hv.ev hev) (by omega)

theorem e_store {t : TypeId} {ag : Bool} {sz : Nat} [Ty P t ag sz] {x y : Operand} {n off wv : Nat} {cs new : List C} (ho : o.op = .store t x y) (hd : o.dst = none) (hx : evC st x = .box n 0 off) (hG : st.G n = some (.box wv cs)) (hy : cellsC (evC st y) = some new) (hsz : new.length = sz) (hb : off + sz ≤ cs.length)
    (h : K { st with G := setG st.G n (.box (wv + 1) (putAt cs off new)), nx := st.nx }) : EStep P o st K := by
  intro E w a hs Kr Q hq
  obtain ⟨hr, h1⟩ := (hs.ev y).cells hy
  obtain ⟨w', E', hrun, hev, hg⟩ := store_box (P := P) (t := t) hs (hx ▸ hs.ev x) hG hr h1 hsz hb
  unfold Oper.wp
  have : (execOp a.eval o).run P w = .ok .skip w' := by simp [execOp, ho, hrun]
  rw [this]
  have h2 := hs.evd hev hg
  refine hq _ _ _ E' hev ?_ h
  simpa [Act.put, hd] using h2

/-- What a named variable holds. -/
theorem s_load_box {D : Nat → Prop} {t : TypeId} [Ty P t false 1] {x : Operand} {n off wv : Nat} {cs : List C} {c : C} (ho : o.op = .load t x) (hx : evC st x = .box n 0 off) (hG : st.G n = some (.box wv cs)) (hD : D n) (hc : cs[off]? = some c) : SStep P D o st c := fun E w a hs => by
  obtain ⟨b, us, tt, hT, hh, hone, hr, hL⟩ := hs.g.obj n _ hG
  have hp := hx ▸ hs.ev x
  generalize hv : a.eval x = p at hp
  cases hp with
  | @box _ _ _ b' hn hp =>
    have hb' : b' = b := by
      have := (hp _ _ _ hT).2 rfl
      simp only [blk, Option.some.injEq] at this
      exact this.symm
    subst hb'
    have hlt : off < us.toList.length := by rw [hr.1]; exact (List.getElem?_eq_some_iff.1 hc).1
    refine ⟨us.toList[off], hr.2 off c _ hc (List.getElem?_eq_getElem hlt), fun w' hk => ?_⟩
    have h3 := hk.2 n hD _ _ _ b' hT rfl
    have h4 : w'.cell? ⟨b', off, none⟩ = some us.toList[off] := cell_of_heap (h3.trans hh) (by rw [← Array.getElem?_toList]; exact List.getElem?_eq_getElem hlt)
    simp [execOp, ho, hv, run_load_cell (P := P) (t := t) h4]
theorem s_load_box_agg {D : Nat → Prop} {t : TypeId} {sz : Nat} [Ty P t true sz] {x : Operand} {n off wv : Nat} {cs : List C} (ho : o.op = .load t x) (hx : evC st x = .box n 0 off) (hG : st.G n = some (.box wv cs)) (hD : D n) (hc : off + sz ≤ cs.length) : SStep P D o st (.agg ((cs.drop off).take sz)) := fun E w a hs => by
  obtain ⟨b, us, tt, hT, hh, hone, hr, hL⟩ := hs.g.obj n _ hG
  have hp := hx ▸ hs.ev x
  generalize hv : a.eval x = p at hp
  cases hp with
  | @box _ _ _ b' hn hp =>
    have hb' : b' = b := by
      have := (hp _ _ _ hT).2 rfl
      simp only [blk, Option.some.injEq] at this
      exact this.symm
    subst hb'
    have hr2 := (hr.dropn off).take sz
    refine ⟨.agg ((us.toList.drop off).take sz).toArray, hr2.agg (fun c hc => hone c (List.mem_of_mem_drop (List.mem_of_mem_take hc))), fun w' hk => ?_⟩
    have h3 := hk.2 n hD _ _ _ b' hT rfl
    have hrun := run_load_cells (P := P) (t := t) (n := sz) (b := b') (off := off) (us := (us.toList.drop off).take sz) (w' := w') (by rw [hr2.1]; simp; omega) fun j v hj => by
      rw [List.getElem?_take] at hj
      split at hj
      · rw [List.getElem?_drop] at hj
        exact cell_of_heap (h3.trans hh) (by rw [← Array.getElem?_toList]; exact hj)
      · cases hj
    simp only [execOp, ho, hv, Sem.run_bind, hrun, Result.andThen_ok]
    rfl

/-- A text's type; a slice that may be appended to: its element's cells and bytes. -/
class StrT (P : Program) (t : TypeId) : Prop where
  chk : (match P.underlying t with | some .string => true | _ => false) = true
theorem StrT.spec {t : TypeId} [h : StrT P t] : P.underlying t = some .string := by
  have := h.chk
  split at this
  · assumption
  · cases this
def appChk (P : Program) (t e : TypeId) (sz bytes : Nat) : Bool :=
  match P.underlying t, P.info? e with
  | some (.slice e'), some i => e' == e && i.size == sz && i.bytes == bytes && (match i.zero with | some z => z.cells.size == sz | none => false)
  | _, _ => false
class AppT (P : Program) (t : TypeId) (e : outParam TypeId) (sz bytes : outParam Nat) : Prop where
  chk : appChk P t e sz bytes = true
theorem AppT.spec {t e : TypeId} {sz bytes : Nat} [h : AppT P t e sz bytes] : P.underlying t = some (.slice e) ∧ ∃ i z, P.info? e = some i ∧ i.zero = some z ∧ i.size = sz ∧ i.bytes = bytes ∧ z.cells.size = sz := by
  have := h.chk
  unfold appChk at this
  split at this
  · rename_i e' i h1 h2
    simp only [Bool.and_eq_true, beq_iff_eq] at this
    obtain ⟨⟨⟨q1, q2⟩, q3⟩, q4⟩ := this
    split at q4
    · rename_i z hz
      exact ⟨q1 ▸ h1, i, z, h2, hz, q2, q3, by simpa using q4⟩
    · cases q4
  · cases this

theorem s_load_box_all {D : Nat → Prop} {t : TypeId} {sz : Nat} [Ty P t true sz] {x : Operand} {n wv : Nat} {cs : List C} (ho : o.op = .load t x) (hx : evC st x = .box n 0 0) (hG : st.G n = some (.box wv cs)) (hD : D n) (hc : cs.length = sz) : SStep P D o st (.agg cs) := by
  have := s_load_box_agg (P := P) (D := D) ho hx hG hD (by omega)
  rwa [List.drop_zero, List.take_of_length_le (by omega)] at this

/-! ### Calls -/
/-- A function with a body. -/
def funChk (P : Program) (f : FuncId) : Bool := match P.funcs[f]? with | some fn => fn.body.isSome && !(fn.name == "runtime.NumGoroutine") | none => false
class Fun (P : Program) (f : FuncId) : Prop where
  chk : funChk P f = true
theorem run_callFunc {f : FuncId} [h : Fun P f] (args : Array Value) (w : World) : (callFunc f args).run P w = .ok (.enter f args) w := by
  have := h.chk
  unfold funChk at this
  split at this
  · rename_i fn hf
    simp only [Bool.and_eq_true, Bool.not_eq_true'] at this
    obtain ⟨h1, h2⟩ := this
    have h3 : fn.body.isNone = false := by cases hb : fn.body <;> simp_all
    have h4 : ¬ fn.name = "runtime.NumGoroutine" := by simpa using h2
    have h5 : ¬ fn.body = none := by intro e; rw [e] at h1; cases h1
    simp [callFunc, program, Sem.run, hf, h4, h5]
  · cases this

theorem e_call {f : FuncId} [Fun P f] {fv : Operand} {args : List Operand} {ats : Array TypeId} {caps as : List C} (ho : o.op = .call { callee := .value fv, args := args.toArray, argTypes := ats }) (hf : evC st fv = .fn (.func f) caps) (has : args.map (evC st) ++ caps = as)
    (h : PC P f as st.G st.nx fun r G' nx' => K (St.put { st with G := G', nx := nx' } o.dst r)) : EStep P o st K := by
  intro E w a hs Kr Q hq
  obtain ⟨vs, e, hr⟩ := (hf ▸ hs.ev fv).fn_inv
  subst has
  have hra : Rs E w (args.map (evC st)) (args.map a.eval) := by
    refine ⟨by simp, fun j c v h1 h2 => ?_⟩
    rw [List.getElem?_map] at h1 h2
    cases hx : args[j]? with
    | none => rw [hx] at h1; cases h1
    | some x =>
      rw [hx] at h1 h2
      simp only [Option.map_some, Option.some.injEq] at h1 h2
      subst h1; subst h2
      exact hs.ev x
  have hall := hra.append hr
  unfold Oper.wp
  have hrun : (execOp a.eval o).run P w = .ok (.enter f (args.map a.eval ++ vs).toArray) w := by
    simp only [execOp, ho, resolve, e]
    simp [Deferred.ofValue, invoke, run_callFunc]
  rw [hrun]
  refine (h E w _ hall hs.g).mono ?_
  rintro e' w' ⟨r, v, E', G', nx', rfl, h1, h2, h3, h4⟩
  exact hq _ _ _ _ h1 ((hs.evd h1 h3).put o.dst h2) h4

theorem e_call_pure {f : FuncId} [Fun P f] {fv : Operand} {args : List Operand} {ats : Array TypeId} {caps as : List C} {r : C} (ho : o.op = .call { callee := .value fv, args := args.toArray, argTypes := ats }) (hf : evC st fv = .fn (.func f) caps) (has : args.map (evC st) ++ caps = as)
    (hp : Pure P f as r) (h : K (st.put o.dst r)) : EStep P o st K :=
  e_call ho hf has ((hp st.G st.nx).mono fun r' G' nx' ⟨e1, e2, e3⟩ => by subst e1; subst e2; subst e3; exact h)
end
end Go.AB
