/-
  More operations: slices of slices, elements of arrays, the greater of two, what is known of a place by a fact.
-/
import Derived.Test.YtolcenpmgmpmkaaDoorAbOwn
namespace Go.AB
open Go Go.RowKit
open Go.AB.Enc (cells)
variable {ρ : Option Nat}
section
variable {P : Program} {o : Oper} {st : St} {c c' : C} {v : Value}
theorem know_sim {E : Env} {w : World} {a : Act} {i n : Nat} (h : st.at i = .v v) (hG : st.G n = some (.fact v c)) (hs : Sim E w st a) : Sim E w { st with r := (i, c) :: st.r } a := by
  refine ⟨hs.d, hs.sz, fun j x hj => ?_, hs.g⟩
  simp only [getA]
  cases hb : Nat.beq i j
  · exact hs.t j x hj
  · have hij := Nat.eq_of_beq_eq_true hb
    subst hij
    have h1 := (h ▸ hs.at i).v_inv
    rw [Array.getD_eq_getD_getElem?, hj] at h1
    have h2 : x = v := h1
    subst h2
    exact (hs.g.obj n _ hG).2
theorem nstep_know (i n : Nat) (h : st.at i = .v v) (hG : st.G n = some (.fact v c)) (k : NStep P o { st with r := (i, c) :: st.r } c') : NStep P o st c' := fun E w a hs => k E w a (know_sim h hG hs)
theorem sstep_know {D : Nat → Prop} (i n : Nat) (h : st.at i = .v v) (hG : st.G n = some (.fact v c)) (k : SStep P D o { st with r := (i, c) :: st.r } c') : SStep P D o st c' := fun E w a hs => k E w a (know_sim h hG hs)
/-- A package's variable, of which a fact is known. -/
theorem s_load_fact {D : Nat → Prop} {t : TypeId} {x : Operand} {n m : Nat} {cs : List C} [Ty P t true n] (ho : o.op = .load t x) (hx : evC st x = .v v) (hG : st.G m = some (.fact v (.elem cs))) (hn : cs.length = n) : SStep P D o st (.agg cs) := fun E w a hs => by
  have h1 := (hx ▸ hs.ev x).v_inv
  obtain ⟨b, off, us, hv, _, hc, hr, h1c, _⟩ := (hs.g.obj m _ hG).2.elem_inv
  subst hn
  have hrs : Rs E w cs ((List.range cs.length).map us) := ⟨by simp, fun j c v hcj hv => by
    rw [List.getElem?_map] at hv
    have hlt := (List.getElem?_eq_some_iff.1 hcj).1
    rw [List.getElem?_range hlt] at hv
    simp only [Option.map_some, Option.some.injEq] at hv
    subst hv
    exact hr j c hcj⟩
  have hL := hs.g.obj m _ hG
  refine ⟨.agg ((List.range cs.length).map us).toArray, hrs.agg h1c, fun w' hk => ?_⟩
  obtain ⟨b', off', us', hv', hL', hc', _, _, _⟩ := (hs.g.obj m _ hG).2.elem_inv
  rw [hv] at hv'
  simp only [Value.pointer.injEq, Option.some.injEq, Addr.mk.injEq] at hv'
  obtain ⟨rfl, rfl, _⟩ := hv'
  have hrun := run_load_cells (P := P) (t := t) (n := cs.length) (b := b) (off := off) (us := (List.range cs.length).map us) (w' := w') (by simp) fun j u hj => by
    rw [List.getElem?_map] at hj
    by_cases hlt : j < cs.length
    · rw [List.getElem?_range hlt] at hj
      simp only [Option.map_some, Option.some.injEq] at hj
      subst hj
      rw [hk.1 b (off + j) (by omega)]
      exact hc j hlt
    · rw [List.getElem?_eq_none (by simp; omega)] at hj; cases hj
  simp only [execOp, ho, h1, hv, Sem.run_bind, hrun, Result.andThen_ok]
  rfl
theorem n_max {x y : Operand} {ts : Array TypeId} {k k' : IntKind} {p q : Int} (ho : o.op = .call { callee := .builtin .max, args := #[x, y], argTypes := ts }) (hx : evC st x = .v (.int k p)) (hy : evC st y = .v (.int k' q)) (hk : k = k') : NStep P o st (.v (.int k (max p q))) := fun E w a hs => by
  subst hk
  have e1 := (hx ▸ hs.ev x).v_inv
  have e2 := (hy ▸ hs.ev y).v_inv
  have r1 := (hx ▸ hs.ev x)
  have r2 := (hy ▸ hs.ev y)
  rw [e1] at r1
  rw [e2] at r2
  refine ⟨.int k (max p q), ?_, fun w' => ?_⟩
  · cases r1 with
    | v h1 =>
      cases r2 with
      | v h2 =>
        refine .v ?_
        rcases Int.le_total p q with h | h
        · rw [Int.max_eq_right h]; exact h2
        · rw [Int.max_eq_left h]; exact h1
  · have e3 : (if q > p then q else p) = max p q := by
      split
      · rw [Int.max_eq_right (by omega)]
      · rw [Int.max_eq_left (by omega)]
    simp [execOp, ho, resolve, invoke, builtin, e1, e2, run_max_int2, e3]
theorem Rs.extract {E : Env} {w : World} {cs : List C} {vs : List Value} (h : Rs E w cs vs) (h1 : ∀ c ∈ cs, c.one = true) (off sz : Nat) : R E w (.agg ((cs.drop off).take sz)) (.agg (vs.toArray.extract off (off + sz))) := by
  have := ((h.dropn off).take sz).agg fun c hc => h1 c (List.mem_of_mem_drop (List.mem_of_mem_take hc))
  have e : (vs.toArray.extract off (off + sz)) = ((vs.drop off).take sz).toArray := by
    rw [List.extract_toArray]
    congr 1
    simp only [List.extract_eq_take_drop, List.drop_take]
    congr 1
    omega
  rw [e]; exact this
/-- An element of an array, by value. -/
theorem n_index_arrA {t : TypeId} {x i : Operand} {cs ds : List C} {e : TypeId} {m sz k : Nat} {ik : IntKind} {n : Int} [ArrT P t m e] [Ty P e true sz] (ho : o.op = .index t x i) (hx : evC st x = .agg cs) (hi : evC st i = .v (.int ik n)) (hn : n = (k : Int)) (hk : k < m) (hd : (cs.drop (k * sz)).take sz = ds) : NStep P o st (.agg ds) := fun E w a hs => by
  subst hn; subst hd
  obtain ⟨vs, e1, hr, h1⟩ := (hx ▸ hs.ev x).agg_inv
  have e2 := (hi ▸ hs.ev i).v_inv
  refine ⟨_, hr.extract h1 (k * sz) sz, fun w' => ?_⟩
  have q1 := ArrT.spec (P := P) (t := t) (n := m) (e := e)
  have q2 := Ty.size (P := P) (w := w') (t := e) (ag := true) (n := sz)
  have q3 := Ty.row (P := P) (w := w') (t := e) (ag := true) (n := sz)
  have q4 : (k : Int) < (m : Int) := by omega
  simp [execOp, ho, Instr.index, e1, e2, asIntOf, run_underlying q1, q2, q3, q4, part]
  intro h; omega
theorem n_index_arr1 {t : TypeId} {x i : Operand} {cs : List C} {e : TypeId} {m k : Nat} {ik : IntKind} {n : Int} [ArrT P t m e] [Ty P e false 1] (ho : o.op = .index t x i) (hx : evC st x = .agg cs) (hi : evC st i = .v (.int ik n)) (hn : n = (k : Int)) (hk : k < m) (hc : cs[k]? = some c) : NStep P o st c := fun E w a hs => by
  subst hn
  obtain ⟨vs, e1, hr, h1⟩ := (hx ▸ hs.ev x).agg_inv
  have e2 := (hi ▸ hs.ev i).v_inv
  have hlt : k < vs.length := by rw [hr.1]; exact (List.getElem?_eq_some_iff.1 hc).1
  refine ⟨vs[k], hr.2 k c _ hc (List.getElem?_eq_getElem hlt), fun w' => ?_⟩
  have q1 := ArrT.spec (P := P) (t := t) (n := m) (e := e)
  have q2 := Ty.size (P := P) (w := w') (t := e) (ag := false) (n := 1)
  have q3 := Ty.row (P := P) (w := w') (t := e) (ag := false) (n := 1)
  have q4 : (k : Int) < (m : Int) := by omega
  simp [execOp, ho, Instr.index, e1, e2, asIntOf, run_underlying q1, q2, q3, q4, part, hlt]
  intro h; omega
/-- An element's place in an array that is a variable. -/
theorem n_indexAddr_avar {t : TypeId} {x i : Operand} {b ver off m : Nat} {e : TypeId} {ik : IntKind} {n : Int} {k sz : Nat} {ag : Bool} [ArrT P t m e] [Ty P e ag sz] (ho : o.op = .indexAddr t x i) (hx : evC st x = .box b ver off) (hi : evC st i = .v (.int ik n)) (hn : n = (k : Int)) (hk : k < m) : NStep P o st (.box b ver (off + k * sz)) := fun E w a hs => by
  subst hn
  have hr := hx ▸ hs.ev x
  have e1 := (hi ▸ hs.ev i).v_inv
  generalize hv : a.eval x = v at hr
  cases hr with
  | @box _ _ _ bb h1 h2 =>
  refine ⟨.pointer (some ⟨bb, off + k * sz, none⟩), .box h1 h2, fun w' => ?_⟩
  have q1 := ArrT.spec (P := P) (t := t) (n := m) (e := e)
  have q2 := Ty.size (P := P) (w := w') (t := e) (ag := ag) (n := sz)
  have q3 : (k : Int) < (m : Int) := by omega
  simp [execOp, ho, Instr.indexAt, Instr.sureAddr, hv, e1, asIntOf, run_underlying q1, q2, q3, addr_add]
  intro h; omega
/-- .. that is laid for good. -/
theorem n_indexAddr_aelem {t : TypeId} {x i : Operand} {m : Nat} {cs : List C} {d : C} {ds : List C} {e : TypeId} {ik : IntKind} {n : Int} {k sz : Nat} {ag : Bool} [ArrT P t m e] [Ty P e ag sz] (ho : o.op = .indexAddr t x i) (hx : evC st x = .elem cs) (hi : evC st i = .v (.int ik n)) (hn : n = (k : Int)) (hk : k < m) (hd : cs.drop (k * sz) = d :: ds) : NStep P o st (.elem (d :: ds)) := fun E w a hs => by
  subst hn
  have e1 := (hi ▸ hs.ev i).v_inv
  obtain ⟨b, off, us, hv, h1, h2, h3, h4, _⟩ := (hx ▸ hs.ev x).elem_inv
  refine ⟨.pointer (some ⟨b, off + k * sz, none⟩), hd ▸ R.elem_drop h1 h2 h3 h4 (k * sz) (by rw [hd]; simp), fun w' => ?_⟩
  have q1 := ArrT.spec (P := P) (t := t) (n := m) (e := e)
  have q2 := Ty.size (P := P) (w := w') (t := e) (ag := ag) (n := sz)
  have q3 : (k : Int) < (m : Int) := by omega
  simp [execOp, ho, Instr.indexAt, Instr.sureAddr, hv, e1, asIntOf, run_underlying q1, q2, q3, addr_add]
  intro h; omega
/-- A part of a slice that is only read. -/
theorem R.cut {E : Env} {w : World} {rows : List (List C)} {tok : Tok} {a : Option Addr} {n cap : Nat} (h : R E w (.list rows tok) (.slice a n cap)) (k : Nat) (hk : k ≤ rows.length) : R E w (.list (rows.take k) .none) (.slice a k cap) := by
  obtain ⟨a', cap', sz, us, e, h1, h2, h3, h4, h5, h6, h7, _⟩ := R.list_inv h
  simp only [Value.slice.injEq] at e
  obtain ⟨rfl, rfl, rfl⟩ := e
  have hl : (rows.take k).length = k := by rw [List.length_take]; omega
  have hfl : (rows.take k).flatten = rows.flatten.take (k * sz) := by
    have e1 : rows.flatten = (rows.take k).flatten ++ (rows.drop k).flatten := by rw [← List.flatten_append, List.take_append_drop]
    have e2 : (rows.take k).flatten.length = k * sz := by rw [flat_len fun r hr => h4 r (List.mem_of_mem_take hr), hl]
    rw [e1, ← e2, List.take_left]
  have := R.mk_list (E := E) (w := w) (rows := rows.take k) (a := a) (cap := cap) (sz := sz) (us := us.take (k * sz)) (tok := .none) (by omega) h2 h3 (fun r hr => h4 r (List.mem_of_mem_take hr)) (fun r hr => h5 r (List.mem_of_mem_take hr)) (by rw [hfl]; exact h6.take _) (by
    rcases h7 with rfl | ⟨b, off, e, k1, k2⟩
    · exact .inl (by simp)
    · refine .inr ⟨b, off, e, by rw [List.length_take]; omega, fun j u hu => ?_⟩
      rw [List.getElem?_take] at hu
      split at hu
      · exact k2 j u hu
      · cases hu) (by simp) (by simp) (by simp)
  rwa [hl] at this
theorem n_slice_h {t e : TypeId} {sz : Nat} {ag : Bool} [Elt P t e] [Ty P e ag sz] {x y : Operand} {rows : List (List C)} {tok : Tok} {ik : IntKind} {n : Int} {k : Nat} (ho : o.op = .slice t x none (some y) none) (hx : evC st x = .list rows tok) (hy : evC st y = .v (.int ik n)) (hn : n = (k : Int)) (hk : k ≤ rows.length) : NStep P o st (.list (rows.take k) .none) := fun E w a hs => by
  subst hn
  have hr := hx ▸ hs.ev x
  have e1 := (hy ▸ hs.ev y).v_inv
  obtain ⟨ad, cap, _, _, hv, h1, _, _, _, _, _, h7, _⟩ := R.list_inv hr
  have q1 := Elt.spec (P := P) (t := t) (e := e)
  have hel : P.elem t = e := by simp [Program.elem, q1]
  have q2 := fun w => Ty.size (P := P) (w := w) (t := e) (ag := ag) (n := sz)
  have e3 : (if cap = 0 then ad else ad.map (·.add (0 * sz))) = ad := by
    split
    · rfl
    · cases ad with
      | none => rfl
      | some ad => obtain ⟨b, off, sp⟩ := ad; simp [Addr.add]
  refine ⟨.slice ad k cap, ?_, fun w' => ?_⟩
  · rw [hv] at hr; exact hr.cut k hk
  · have hs1 := run_slice_h (P := P) (w := w') t ad rows.length cap (by rw [hel]; exact q1) ik (k : Int) (by omega) (by omega)
    have hs2 := run_sliceAt_slice (P := P) (w := w') t (.slice ad rows.length cap) none (some (.int ik (k : Int))) none (by rw [hel]; exact q1)
    simp only [execOp, ho, hv, e1, Option.map_none, Option.map_some, Sem.run_bind, hs2, hs1, hel, q2, Result.andThen_ok, sliced, Int.toNat_natCast, e3, Nat.sub_zero]
    rfl
/-- One operation by a contract under a condition on the objects. -/
theorem e_call_one {f : FuncId} [Fun P f] {fv : Operand} {args : List Operand} {ats : Array TypeId} {caps as : List C} {K : St → Prop} {r : C} (ho : o.op = .call { callee := .value fv, args := args.toArray, argTypes := ats }) (hf : evC st fv = .fn (.func f) caps) (has : args.map (evC st) ++ caps = as)
    (hp : PC P f as st.G st.nx fun r' G' nx' => r' = r ∧ G' = st.G ∧ nx' = st.nx) (h : K (st.put o.dst r)) : EStep P o st K :=
  e_call ho hf has (hp.mono fun r' G' nx' ⟨e1, e2, e3⟩ => by subst e1; subst e2; subst e3; exact h)
end
/-- A call that leaves all as it was, where a fact is known by the first name. -/
def PureF (F : GObj) (P : Program) (f : FuncId) (args : List C) (r : C) : Prop := ∀ G nx, G 0 = some F → PC P f args G nx fun r' G' nx' => r' = r ∧ G' = G ∧ nx' = nx
theorem Pure.f {F : GObj} {P : Program} {f : FuncId} {args : List C} {r : C} (h : Pure P f args r) : PureF F P f args r := fun G nx _ => h G nx
theorem e_call_f {F : GObj} {P : Program} {o : Oper} {st : St} {f : FuncId} [Fun P f] {fv : Operand} {args : List Operand} {ats : Array TypeId} {caps as : List C} {K : St → Prop} {r : C} (ho : o.op = .call { callee := .value fv, args := args.toArray, argTypes := ats }) (hf : evC st fv = .fn (.func f) caps) (has : args.map (evC st) ++ caps = as)
    (hp : PureF F P f as r) (hF : st.G 0 = some F) (h : K (st.put o.dst r)) : EStep P o st K := e_call_one ho hf has (hp _ _ hF) h

/-! ### Own slices that are read by what only reads -/
/-- What bears no names stands, whatever is laid besides. -/
theorem R.to0 {E : Env} {w : World} {c : C} {v : Value} (h : R E w c v) (hl : c.low 0) {E0 : Env} (hL : ∀ b i u, w.cell? ⟨b, i, none⟩ = some u → i < E0.L b) : R E0 w c v := by
  induction h with
  | v hx => exact .v hx
  | @list rows tok a cap sz us h1 h2 h3 h4 h5 h6 _ z1 z2 h8 ih =>
    cases hl with
    | list l1 l2 =>
    refine .list h1 h2 h3 h4 h5 ?_ (fun j c hj => ih j c hj ?_) z1 z2 fun n hn => absurd (l2 n hn) (Nat.not_lt_zero _)
    · rcases h6 with h0 | ⟨b, off, e, k1, k2⟩
      · exact .inl h0
      · rcases Nat.eq_zero_or_pos rows.flatten.length with h0 | h0
        · exact .inl h0
        · refine .inr ⟨b, off, e, ?_, k2⟩
          have := hL b _ _ (k2 (rows.flatten.length - 1) (by omega))
          omega
    · obtain ⟨r, hr, hc⟩ := List.mem_flatten.1 (List.mem_of_getElem? hj)
      exact l1 r hr c hc
  | @elem cs b off us h1 h2 h3 _ ih =>
    cases hl with
    | elem l1 =>
    refine .elem h1 h2 ?_ fun j c hj => ih j c hj (l1 c (List.mem_of_getElem? hj))
    rcases h3 with h0 | ⟨b', off', e, k1, k2⟩
    · exact .inl h0
    · have h0 : 0 < cs.length := List.length_pos_iff.2 h1
      refine .inr ⟨b', off', e, ?_, k2⟩
      have := hL b' _ _ (k2 (cs.length - 1) (by omega))
      omega
  | box _ _ => cases hl with | box l => omega
  | arr _ _ _ _ => cases hl with | arr l => omega
  | own _ _ _ _ => cases hl with | own l => omega
  | fn h1 _ h3 ih => cases hl with | fn l => exact .fn h1 (fun j c hj => ih j c hj (l c (List.mem_of_getElem? hj))) h3
  | map _ _ => cases hl with | map l => omega
  | agg h1 h2 _ h4 ih => cases hl with | agg l => exact .agg h1 h2 (fun j c hj => ih j c hj (l c (List.mem_of_getElem? hj))) h4
  | tup h1 _ h3 ih => cases hl with | tup l => exact .tup h1 (fun j c hj => ih j c hj (l c (List.mem_of_getElem? hj))) h3
  | any => exact .any
end Go.AB
