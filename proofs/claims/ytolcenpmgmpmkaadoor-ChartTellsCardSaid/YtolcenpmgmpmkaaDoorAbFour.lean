/-
  Operations that change nothing, as rules of the abstract logic.
-/
import Derived.Test.YtolcenpmgmpmkaaDoorAbThree
import Derived.Deep.MidRow
import Derived.KernelRfl
namespace Go.AB
open Go Go.RowKit

/-! ### Facts on types -/
def tyChk (P : Program) (t : TypeId) (agg : Bool) (n : Nat) : Bool :=
  match P.underlying t, P.info? t with
  | some d, some i => (d.isRow == agg) && (i.size == n)
  | _, _ => false
class Ty (P : Program) (t : TypeId) (agg : outParam Bool) (n : outParam Nat) : Prop where
  chk : tyChk P t agg n = true
def fldChk (P : Program) (t : TypeId) (f off : Nat) (ft : TypeId) : Bool :=
  match P.underlying t with
  | some (.struct fs) => match fs[f]? with
    | some fd => fd.offset == off && fd.type == ft && (match P.info? ft with | some i => i.size != 0 | none => false)
    | none => false
  | _ => false
class Fld (P : Program) (t : TypeId) (f : Nat) (off : outParam Nat) (ft : outParam TypeId) : Prop where
  chk : fldChk P t f off ft = true
def eltChk (P : Program) (t e : TypeId) : Bool := match P.underlying t with | some (.slice e') => e' == e | _ => false
class Elt (P : Program) (t : TypeId) (e : outParam TypeId) : Prop where
  chk : eltChk P t e = true
def arrChk (P : Program) (t : TypeId) (n : Nat) (e : TypeId) : Bool := match P.underlying t with | some (.array n' e') => n' == n && e' == e | _ => false
class ArrT (P : Program) (t : TypeId) (n : outParam Nat) (e : outParam TypeId) : Prop where
  chk : arrChk P t n e = true

section
variable {P : Program} {w : World} {t e ft : TypeId} {n f off : Nat} {ag : Bool}
theorem Ty.size [h : Ty P t ag n] : (sizeOf t).run P w = .ok n w := by
  have := h.chk
  unfold tyChk at this
  split at this
  · rename_i d i hd hi
    simp only [Bool.and_eq_true, beq_iff_eq] at this
    simp [sizeOf, typeInfo, hi, this.2]
  · cases this
theorem Ty.row [h : Ty P t ag n] : (isAgg t).run P w = .ok ag w := by
  have := h.chk
  unfold tyChk at this
  split at this
  · rename_i d i hd hi
    simp only [Bool.and_eq_true, beq_iff_eq] at this
    unfold isAgg
    rw [Sem.run_bind, run_underlying hd w]
    cases d <;> simp_all
  · cases this
theorem Fld.spec [h : Fld P t f off ft] : ∃ fs fd, P.underlying t = some (.struct fs) ∧ fs[f]? = some fd ∧ fd.offset = off ∧ fd.type = ft ∧ ∀ w : World, ∃ k, (sizeOf ft).run P w = .ok (k + 1) w := by
  have := h.chk
  unfold fldChk at this
  split at this
  · rename_i fs hfs
    split at this
    · rename_i fd hfd
      simp only [Bool.and_eq_true, beq_iff_eq] at this
      obtain ⟨⟨h1, h2⟩, h3⟩ := this
      refine ⟨fs, fd, hfs, hfd, h1, h2, fun w => ?_⟩
      split at h3
      · rename_i i hi
        refine ⟨i.size - 1, ?_⟩
        simp only [bne_iff_ne, ne_eq] at h3
        rw [show i.size - 1 + 1 = i.size by omega]
        simp [sizeOf, typeInfo, hi]
      · cases h3
    · cases this
  · cases this
theorem Elt.spec [h : Elt P t e] : P.underlying t = some (.slice e) := by
  have := h.chk
  unfold eltChk at this
  split at this
  · rename_i hd; rw [hd]; simp only [beq_iff_eq] at this; rw [this]
  · cases this
theorem ArrT.spec [h : ArrT P t n e] : P.underlying t = some (.array n e) := by
  have := h.chk
  unfold arrChk at this
  split at this
  · rename_i hd; rw [hd]; simp only [Bool.and_eq_true, beq_iff_eq] at this; rw [this.1, this.2]
  · cases this
end

/-! ### Values -/
section
variable {E : Env} {w : World}
theorem R.v_inv {x v : Value} (h : R E w (.v x) v) : v = x := by cases h; rfl
theorem R.agg_inv {cs : List C} {v : Value} (h : R E w (.agg cs) v) : ∃ vs : List Value, v = .agg vs.toArray ∧ Rs E w cs vs ∧ ∀ c ∈ cs, c.one = true := by
  cases h with
  | @agg _ us vs h1 h2 h3 h4 =>
    refine ⟨vs.toList, by simp, ⟨by simpa using h1, fun j c v hc hv => ?_⟩, h2⟩
    have hlt := (List.getElem?_eq_some_iff.1 hc).1
    have := h4 j hlt
    rw [Array.getElem?_toList, this] at hv
    simp only [Option.some.injEq] at hv
    exact hv ▸ h3 j c hc
theorem R.tup_inv {cs : List C} {v : Value} (h : R E w (.tup cs) v) : ∃ vs : List Value, v = .tuple vs.toArray ∧ Rs E w cs vs := by
  cases h with
  | @tup _ us vs h1 h3 h4 =>
    refine ⟨vs.toList, by simp, ⟨by simpa using h1, fun j c v hc hv => ?_⟩⟩
    have hlt := (List.getElem?_eq_some_iff.1 hc).1
    have := h4 j hlt
    rw [Array.getElem?_toList, this] at hv
    simp only [Option.some.injEq] at hv
    exact hv ▸ h3 j c hc
theorem R.fn_inv {f : Fn} {cs : List C} {v : Value} (h : R E w (.fn f cs) v) : ∃ vs : List Value, v = .func f #[] vs.toArray ∧ Rs E w cs vs := by
  cases h with
  | @fn _ _ us vs h1 h3 h4 =>
    refine ⟨vs.toList, by simp, ⟨by simpa using h1, fun j c v hc hv => ?_⟩⟩
    have hlt := (List.getElem?_eq_some_iff.1 hc).1
    have := h4 j hlt
    rw [Array.getElem?_toList, this] at hv
    simp only [Option.some.injEq] at hv
    exact hv ▸ h3 j c hc

theorem Rs.us {cs : List C} {vs : List Value} (h : Rs E w cs vs) : (∀ j c, cs[j]? = some c → R E w c (vs.getD j undef)) ∧ ∀ j, j < cs.length → vs[j]? = some (vs.getD j undef) := by
  refine ⟨fun j c hc => ?_, fun j hj => ?_⟩
  · have hlt : j < vs.length := by rw [h.1]; exact (List.getElem?_eq_some_iff.1 hc).1
    rw [List.getD_eq_getElem?_getD, List.getElem?_eq_getElem hlt]
    exact h.2 j c _ hc (List.getElem?_eq_getElem hlt)
  · have hlt : j < vs.length := by rw [h.1]; exact hj
    rw [List.getD_eq_getElem?_getD, List.getElem?_eq_getElem hlt]
    rfl
theorem Rs.agg {cs : List C} {vs : List Value} (h : Rs E w cs vs) (h1 : ∀ c ∈ cs, c.one = true) : R E w (.agg cs) (.agg vs.toArray) :=
  .agg (us := fun j => vs.getD j undef) (by simp [h.1]) h1 h.us.1 (fun j hj => by simpa using h.us.2 j hj)
theorem Rs.tup {cs : List C} {vs : List Value} (h : Rs E w cs vs) : R E w (.tup cs) (.tuple vs.toArray) :=
  .tup (us := fun j => vs.getD j undef) (by simp [h.1]) h.us.1 (fun j hj => by simpa using h.us.2 j hj)
theorem Rs.fn {f : Fn} {cs : List C} {vs : List Value} (h : Rs E w cs vs) : R E w (.fn f cs) (.func f #[] vs.toArray) :=
  .fn (us := fun j => vs.getD j undef) (by simp [h.1]) h.us.1 (fun j hj => by simpa using h.us.2 j hj)

theorem R.one {c : C} {v : Value} (h : R E w c v) (h1 : c.one = true) : v.oneCell' = true := by
  cases h <;> first | (apply okV_one; assumption) | rfl | cases h1

theorem Rs.take {cs : List C} {vs : List Value} (h : Rs E w cs vs) (n : Nat) : Rs E w (cs.take n) (vs.take n) := by
  refine ⟨by simp [h.1], fun j c v hc hv => ?_⟩
  rw [List.getElem?_take] at hc hv
  split at hc
  · rename_i hj; rw [if_pos hj] at hv; exact h.2 j c v hc hv
  · cases hc
theorem Rs.dropn {cs : List C} {vs : List Value} (h : Rs E w cs vs) (n : Nat) : Rs E w (cs.drop n) (vs.drop n) := by
  refine ⟨by simp [h.1], fun j c v hc hv => ?_⟩
  rw [List.getElem?_drop] at hc hv
  exact h.2 _ c v hc hv
theorem Rs.append {cs ds : List C} {vs us : List Value} (h : Rs E w cs vs) (k : Rs E w ds us) : Rs E w (cs ++ ds) (vs ++ us) := by
  refine ⟨by simp [h.1, k.1], fun j c v hc hv => ?_⟩
  rw [List.getElem?_append] at hc hv
  rw [h.1] at hv
  split at hc
  · rename_i hj; rw [if_pos hj] at hv; exact h.2 j c v hc hv
  · rename_i hj; rw [if_neg hj] at hv; exact k.2 _ c v hc hv
theorem Rs.nil : Rs E w [] [] := ⟨rfl, fun j c v h => by simp at h⟩
theorem Rs.cons {c : C} {v : Value} {cs : List C} {vs : List Value} (h : R E w c v) (k : Rs E w cs vs) : Rs E w (c :: cs) (v :: vs) := by
  refine ⟨by simp [k.1], fun j d u hd hu => ?_⟩
  cases j with
  | zero => simp at hd hu; subst hd; subst hu; exact h
  | succ j => simp at hd hu; exact k.2 j d u hd hu

/-- An address in what is laid. -/
theorem R.elem_inv {cs : List C} {v : Value} (h : R E w (.elem cs) v) : ∃ (b off : Nat) (us : Nat → Value), v = .pointer (some ⟨b, off, none⟩) ∧ off + cs.length ≤ E.L b ∧ (∀ j, j < cs.length → w.cell? ⟨b, off + j, none⟩ = some (us j)) ∧ (∀ j c, cs[j]? = some c → R E w c (us j)) ∧ (∀ c ∈ cs, c.one = true) ∧ cs ≠ [] := by
  cases h with
  | @elem _ b off us h1 h2 h3 h4 =>
    rcases h3 with h3 | ⟨b', off', e, h3, h5⟩
    · exact (h1 (List.eq_nil_of_length_eq_zero h3)).elim
    · simp only [Option.some.injEq, Addr.mk.injEq, and_true] at e
      obtain ⟨rfl, rfl⟩ := e
      exact ⟨b, off, us, rfl, h3, h5, h4, h2, h1⟩
theorem R.elem_drop {cs : List C} {b off : Nat} {us : Nat → Value} (h1 : off + cs.length ≤ E.L b) (h2 : ∀ j, j < cs.length → w.cell? ⟨b, off + j, none⟩ = some (us j)) (h3 : ∀ j c, cs[j]? = some c → R E w c (us j)) (h4 : ∀ c ∈ cs, c.one = true) (n : Nat) (h5 : cs.drop n ≠ []) :
    R E w (.elem (cs.drop n)) (.pointer (some ⟨b, off + n, none⟩)) := by
  have hn : n < cs.length := by
    rcases Nat.lt_or_ge n cs.length with h | h
    · exact h
    · exact (h5 (List.drop_eq_nil_of_le h)).elim
  refine .elem (us := fun j => us (n + j)) h5 (fun c hc => h4 c (List.mem_of_mem_drop hc)) (.inr ⟨b, off + n, rfl, by simp; omega, fun j hj => ?_⟩) fun j c hc => ?_
  · simp only [List.length_drop] at hj
    have := h2 (n + j) (by omega)
    rwa [← Nat.add_assoc] at this
  · rw [List.getElem?_drop] at hc; exact h3 _ c hc
theorem addr_add (b o j : Nat) : (⟨b, o, none⟩ : Addr).add j = ⟨b, o + j, none⟩ := by unfold Addr.add; split <;> simp_all
end

section
variable {P : Program} {o : Oper} {st : St} {D : Nat → Prop}

theorem n_move {x : Operand} (ho : o.op = .move x ∨ o.op = .assign x) : NStep P o st (evC st x) := fun E w a hs =>
  ⟨_, hs.ev x, fun w' => by rcases ho with ho | ho <;> simp [execOp, ho]⟩
theorem n_pick {c a b : Operand} {k : Bool} (ho : o.op = .pick c a b) (hc : evC st c = .v (.bool k)) : NStep P o st (bif k then evC st a else evC st b) := fun E w ac hs => by
  have hr := hs.ev c
  rw [hc] at hr
  have e := hr.v_inv
  refine ⟨if k = true then ac.eval a else ac.eval b, ?_, fun w' => ?_⟩
  · cases k
    · exact hs.ev b
    · exact hs.ev a
  · cases k <;> simp [execOp, ho, e, asBool]
theorem n_pick_and {c a b : Operand} {k j : Bool} (ho : o.op = .pick c a b) (hc : evC st c = .v (.bool k)) (ha : evC st a = .v (.bool j)) (hb : evC st b = .v (.bool false)) : NStep P o st (.v (.bool (k && j))) := fun E w ac hs => by
  obtain ⟨v, h1, h2⟩ := n_pick (P := P) ho hc E w ac hs
  refine ⟨v, ?_, h2⟩
  cases k
  · simpa [hb] using h1
  · simpa [ha] using h1
theorem n_pick_or {c a b : Operand} {k j : Bool} (ho : o.op = .pick c a b) (hc : evC st c = .v (.bool k)) (ha : evC st a = .v (.bool true)) (hb : evC st b = .v (.bool j)) : NStep P o st (.v (.bool (k || j))) := fun E w ac hs => by
  obtain ⟨v, h1, h2⟩ := n_pick (P := P) ho hc E w ac hs
  refine ⟨v, ?_, h2⟩
  cases k
  · simpa [hb] using h1
  · simpa [ha] using h1

/-- Two integers. -/
theorem n_int {op : BinOp} {xt yt : TypeId} {x y : Operand} {k : IntKind} {m n : Int} {r : Value} (ho : o.op = .binOp op xt x y yt) (hx : evC st x = .v (.int k m)) (hy : evC st y = .v (.int k n))
    (h1 : okV r = true) (h : ∀ w, (do eqGuard op xt x y (.int k m) (.int k n); binOp op xt (.int k m) (.int k n)).run P w = .ok r w) : NStep P o st (.v r) := fun E w a hs => by
  have e1 := (hx ▸ hs.ev x).v_inv
  have e2 := (hy ▸ hs.ev y).v_inv
  refine ⟨r, .v h1, fun w' => ?_⟩
  have := h w'
  simp only [execOp, ho, e1, e2, Sem.run_bind] at this ⊢
  rw [this]
  rfl
theorem n_lss {xt yt : TypeId} {x y : Operand} {k : IntKind} {m n : Int} (ho : o.op = .binOp .lss xt x y yt) (hx : evC st x = .v (.int k m)) (hy : evC st y = .v (.int k n)) : NStep P o st (.v (.bool (decide (m < n)))) :=
  n_int ho hx hy rfl fun w => by cases k <;> simp [eqGuard, binOp, Op.intCmp]
theorem n_leq {xt yt : TypeId} {x y : Operand} {k : IntKind} {m n : Int} (ho : o.op = .binOp .leq xt x y yt) (hx : evC st x = .v (.int k m)) (hy : evC st y = .v (.int k n)) : NStep P o st (.v (.bool (decide (m ≤ n)))) :=
  n_int ho hx hy rfl fun w => by cases k <;> simp [eqGuard, binOp, Op.intCmp]
theorem n_gtr {xt yt : TypeId} {x y : Operand} {k : IntKind} {m n : Int} (ho : o.op = .binOp .gtr xt x y yt) (hx : evC st x = .v (.int k m)) (hy : evC st y = .v (.int k n)) : NStep P o st (.v (.bool (decide (n < m)))) :=
  n_int ho hx hy rfl fun w => by cases k <;> simp [eqGuard, binOp, Op.intCmp]
theorem n_geq {xt yt : TypeId} {x y : Operand} {k : IntKind} {m n : Int} (ho : o.op = .binOp .geq xt x y yt) (hx : evC st x = .v (.int k m)) (hy : evC st y = .v (.int k n)) : NStep P o st (.v (.bool (decide (n ≤ m)))) :=
  n_int ho hx hy rfl fun w => by cases k <;> simp [eqGuard, binOp, Op.intCmp]
theorem n_eql {xt yt : TypeId} {x y : Operand} {k : IntKind} {m n : Int} (ho : o.op = .binOp .eql xt x y yt) (hx : evC st x = .v (.int k m)) (hy : evC st y = .v (.int k n)) : NStep P o st (.v (.bool (decide (m = n)))) :=
  n_int ho hx hy rfl fun w => by cases k <;> simp [eqGuard, binOp, Op.intCmp] <;> rfl
theorem n_neq {xt yt : TypeId} {x y : Operand} {k : IntKind} {m n : Int} (ho : o.op = .binOp .neq xt x y yt) (hx : evC st x = .v (.int k m)) (hy : evC st y = .v (.int k n)) : NStep P o st (.v (.bool (!decide (m = n)))) :=
  n_int ho hx hy rfl fun w => by cases k <;> simp [eqGuard, binOp, Op.intCmp] <;> rfl
/-- .. whose outcome is known -/
theorem n_bool {b c : Bool} (h : NStep P o st (.v (.bool b))) (e : b = c) : NStep P o st (.v (.bool c)) := e ▸ h
theorem n_add {xt yt : TypeId} {x y : Operand} {m n : Int} (ho : o.op = .binOp .add xt x y yt) (hx : evC st x = .v (.int .i64 m)) (hy : evC st y = .v (.int .i64 n)) (hb : -9223372036854775808 ≤ m + n ∧ m + n ≤ 9223372036854775807) : NStep P o st (.v (.int .i64 (m + n))) :=
  n_int ho hx hy (okV_i64 hb) fun w => by
    have : IntKind.i64.wrap (m + n) = m + n := by rw [IntKind.wrap_i64]; omega
    simp [eqGuard, binOp, Op.intArith, this]
theorem n_sub {xt yt : TypeId} {x y : Operand} {m n : Int} (ho : o.op = .binOp .sub xt x y yt) (hx : evC st x = .v (.int .i64 m)) (hy : evC st y = .v (.int .i64 n)) (hb : -9223372036854775808 ≤ m - n ∧ m - n ≤ 9223372036854775807) : NStep P o st (.v (.int .i64 (m - n))) :=
  n_int ho hx hy (okV_i64 hb) fun w => by
    have : IntKind.i64.wrap (m - n) = m - n := by rw [IntKind.wrap_i64]; omega
    simp [eqGuard, binOp, Op.intArith, this]
theorem n_addw {xt yt : TypeId} {x y : Operand} {k : IntKind} {m n : Int} (ho : o.op = .binOp .add xt x y yt) (hx : evC st x = .v (.int k m)) (hy : evC st y = .v (.int k n)) : NStep P o st (.v (.int k (k.wrap (m + n)))) :=
  n_int ho hx hy (okV_wrap _ _) fun w => by simp [eqGuard, binOp, Op.intArith]
theorem n_subw {xt yt : TypeId} {x y : Operand} {k : IntKind} {m n : Int} (ho : o.op = .binOp .sub xt x y yt) (hx : evC st x = .v (.int k m)) (hy : evC st y = .v (.int k n)) : NStep P o st (.v (.int k (k.wrap (m - n)))) :=
  n_int ho hx hy (okV_wrap _ _) fun w => by simp [eqGuard, binOp, Op.intArith]
theorem n_mulw {xt yt : TypeId} {x y : Operand} {k : IntKind} {m n : Int} (ho : o.op = .binOp .mul xt x y yt) (hx : evC st x = .v (.int k m)) (hy : evC st y = .v (.int k n)) : NStep P o st (.v (.int k (k.wrap (m * n)))) :=
  n_int ho hx hy (okV_wrap _ _) fun w => by simp [eqGuard, binOp, Op.intArith]

/-- Two strings. -/
theorem n_str {op : BinOp} {xt yt : TypeId} {x y : Operand} {m n : ByteArray} {r : Value} (ho : o.op = .binOp op xt x y yt) (hx : evC st x = .v (.string m)) (hy : evC st y = .v (.string n))
    (h1 : okV r = true) (h : ∀ w, (Op.stringOp op m n).run P w = .ok r w) : NStep P o st (.v r) := fun E w a hs => by
  have e1 := (hx ▸ hs.ev x).v_inv
  have e2 := (hy ▸ hs.ev y).v_inv
  refine ⟨r, .v h1, fun w' => ?_⟩
  have h2 : (eqGuard op xt x y (.string m) (.string n)).run P w' = .ok () w' := by cases op <;> rfl
  have h3 : binOp op xt (.string m) (.string n) = Op.stringOp op m n := by cases op <;> rfl
  simp only [execOp, ho, e1, e2, Sem.run_bind, h2, h3, h w', Result.andThen_ok]
  rfl
theorem toList_inj {x y : ByteArray} (h : x.toList = y.toList) : x = y := by
  rw [ByteArray.toList_eq, ByteArray.toList_eq] at h
  exact _root_.ByteArray.ext (Array.toList_inj.1 h)
theorem toList_beq (x y : ByteArray) : (x.toList == y.toList) = decide (x = y) := by
  by_cases h : x = y
  · subst h; simp
  · have : ¬ x.toList = y.toList := fun e => h (toList_inj e)
    simp [h, this]
theorem n_streq {xt yt : TypeId} {x y : Operand} {m n : ByteArray} (ho : o.op = .binOp .eql xt x y yt) (hx : evC st x = .v (.string m)) (hy : evC st y = .v (.string n)) : NStep P o st (.v (.bool (decide (m = n)))) :=
  n_str ho hx hy rfl fun w => by simp only [Op.stringOp, toList_beq]; rfl
theorem n_strne {xt yt : TypeId} {x y : Operand} {m n : ByteArray} (ho : o.op = .binOp .neq xt x y yt) (hx : evC st x = .v (.string m)) (hy : evC st y = .v (.string n)) : NStep P o st (.v (.bool (!decide (m = n)))) :=
  n_str ho hx hy rfl fun w => by simp only [Op.stringOp, toList_beq]; rfl
/-- the order of texts -/
def sLess (x y : ByteArray) : Bool := Op.bytesLess x.toList y.toList
theorem n_strlt {xt yt : TypeId} {x y : Operand} {m n : ByteArray} (ho : o.op = .binOp .lss xt x y yt) (hx : evC st x = .v (.string m)) (hy : evC st y = .v (.string n)) : NStep P o st (.v (.bool (sLess m n))) :=
  n_str ho hx hy rfl fun w => by simp only [Op.stringOp]; rfl
theorem n_strge {xt yt : TypeId} {x y : Operand} {m n : ByteArray} (ho : o.op = .binOp .geq xt x y yt) (hx : evC st x = .v (.string m)) (hy : evC st y = .v (.string n)) : NStep P o st (.v (.bool (!sLess m n))) :=
  n_str ho hx hy rfl fun w => by simp only [Op.stringOp]; rfl

theorem n_not {xt : TypeId} {x : Operand} {b : Bool} (ho : o.op = .unOp .not xt x) (hx : evC st x = .v (.bool b)) : NStep P o st (.v (.bool (!b))) := fun E w a hs => by
  have e1 := (hx ▸ hs.ev x).v_inv
  exact ⟨_, .v rfl, fun w' => by simp [execOp, ho, e1, Op.unary]⟩
theorem n_neg {xt : TypeId} {x : Operand} {k : IntKind} {m : Int} (ho : o.op = .unOp .neg xt x) (hx : evC st x = .v (.int k m)) : NStep P o st (.v (.int k (k.wrap (0 - m)))) := fun E w a hs => by
  have e1 := (hx ▸ hs.ev x).v_inv
  exact ⟨_, .v (okV_wrap _ _), fun w' => by simp [execOp, ho, e1, Op.unary, Op.intArith]⟩
theorem n_extract {x : Operand} {i : Nat} {cs : List C} {c : C} (ho : o.op = .extract x i) (hx : evC st x = .tup cs) (hc : cs[i]? = some c) : NStep P o st c := fun E w a hs => by
  obtain ⟨vs, e, hr⟩ := (hx ▸ hs.ev x).tup_inv
  have hlt : i < vs.length := by rw [hr.1]; exact (List.getElem?_eq_some_iff.1 hc).1
  refine ⟨vs[i], hr.2 i c _ hc (List.getElem?_eq_getElem hlt), fun w' => by simp [execOp, ho, e, Instr.extract, hlt]⟩
theorem n_nilCheck {x : Operand} {cs : List C} (ho : o.op = .nilCheck x) (hx : evC st x = .elem cs) : NStep P o st (.elem cs) := fun E w a hs => by
  have hr := hx ▸ hs.ev x
  obtain ⟨b, off, us, e, _⟩ := hr.elem_inv
  exact ⟨_, hr, fun w' => by simp [execOp, ho, e]⟩
theorem n_nilCheck_box {x : Operand} {n ver off : Nat} (ho : o.op = .nilCheck x) (hx : evC st x = .box n ver off) : NStep P o st (.box n ver off) := fun E w a hs => by
  have hr := hx ▸ hs.ev x
  refine ⟨_, hr, fun w' => ?_⟩
  generalize hv : a.eval x = v at hr
  cases hr
  simp [execOp, ho, hv]
theorem n_nilCheck_fn {x : Operand} {f : FuncId} {cs : List C} (ho : o.op = .nilCheck x) (hx : evC st x = .fn (.func f) cs) : NStep P o st (.fn (.func f) cs) := fun E w a hs => by
  have hr := hx ▸ hs.ev x
  obtain ⟨vs, e, _⟩ := hr.fn_inv
  exact ⟨_, hr, fun w' => by simp [execOp, ho, e]⟩
theorem n_makeFunc {f : Fn} {caps : List Operand} {cs : List C} (ho : o.op = .makeFunc f #[] caps.toArray) (hc : caps.map (evC st) = cs) : NStep P o st (.fn f cs) := fun E w a hs => by
  subst hc
  refine ⟨.func f #[] (caps.map a.eval).toArray, Rs.fn ⟨by simp, fun j c v h1 h2 => ?_⟩, fun w' => by simp [execOp, ho, Instr.makeFunc]⟩
  rw [List.getElem?_map] at h1 h2
  cases hx : caps[j]? with
  | none => rw [hx] at h1; cases h1
  | some x =>
    rw [hx] at h1 h2
    simp only [Option.map_some, Option.some.injEq] at h1 h2
    subst h1; subst h2
    exact hs.ev x

/-- A field's address. -/
theorem run_fieldAt {t : TypeId} {f off : Nat} {ft : TypeId} [Fld P t f off ft] (b o' : Nat) (w : World) : (Instr.fieldAt t (.pointer (some ⟨b, o', none⟩)) f).run P w = .ok (.pointer (some ⟨b, o' + off, none⟩)) w := by
  obtain ⟨fs, fd, h1, h2, h3, h4, h5⟩ := Fld.spec (P := P) (t := t) (f := f) (off := off) (ft := ft)
  obtain ⟨k, hk⟩ := h5 w
  subst h3; subst h4
  simp [Instr.fieldAt, run_underlying h1, h2, Instr.sureAddr, fieldPlace, hk, addr_add]
theorem n_fieldAddr {t : TypeId} {x : Operand} {f off : Nat} {ft : TypeId} [Fld P t f off ft] {cs : List C} (ho : o.op = .fieldAddr t x f) (hx : evC st x = .elem cs) (hne : cs.drop off ≠ []) : NStep P o st (.elem (cs.drop off)) := fun E w a hs => by
  obtain ⟨b, o', us, e, h1, h2, h3, h4, _⟩ := (hx ▸ hs.ev x).elem_inv
  exact ⟨_, R.elem_drop h1 h2 h3 h4 off hne, fun w' => by simp [execOp, ho, e, run_fieldAt (P := P) (t := t) (f := f) (off := off) (ft := ft)]⟩
theorem n_fieldAddr_box {t : TypeId} {x : Operand} {f off : Nat} {ft : TypeId} [Fld P t f off ft] {n ver p : Nat} (ho : o.op = .fieldAddr t x f) (hx : evC st x = .box n ver p) : NStep P o st (.box n ver (p + off)) := fun E w a hs => by
  have hr := hx ▸ hs.ev x
  generalize hv : a.eval x = v at hr
  cases hr with
  | box h1 h2 => exact ⟨_, .box h1 h2, fun w' => by simp [execOp, ho, hv, run_fieldAt (P := P) (t := t) (f := f) (off := off) (ft := ft)]⟩

theorem n_len {t ty : TypeId} {x : Operand} {rows : List (List C)} {tok : Tok} {e : TypeId} [Elt P t e] (ho : o.op = .call { callee := .builtin .len, args := #[x], argTypes := #[t] }) (_ht : ty = ty) (hx : evC st x = .list rows tok) : NStep P o st (.v (.int .i64 rows.length)) := fun E w a hs => by
  have hr := hx ▸ hs.ev x
  generalize hv : a.eval x = v at hr
  have hlen : rows.length ≤ 9223372036854775807 := by
    cases hr with
    | list h1 h2 => unfold maxLen at h2; omega
  cases hr
  refine ⟨_, .v (okV_i64 (by omega)), fun w' => ?_⟩
  have := Elt.spec (P := P) (t := t) (e := e)
  simp [execOp, ho, resolve, invoke, builtin, Builtin.len_, run_underlying this, hv, goInt]
theorem n_lenstr {t : TypeId} {x : Operand} {s : ByteArray} (ho : o.op = .call { callee := .builtin .len, args := #[x], argTypes := #[t] }) (ht : P.underlying t = some .string) (hx : evC st x = .v (.string s)) : NStep P o st (.v (.int .i64 s.size)) := fun E w a hs => by
  have e1 := (hx ▸ hs.ev x).v_inv
  have hr := hx ▸ hs.ev x
  have hsz : s.size ≤ 9223372036854775807 := by
    generalize a.eval x = v at hr
    cases hr with
    | v h => exact okV_str.1 h
  exact ⟨_, .v (okV_i64 (by omega)), fun w' => by simp [execOp, ho, resolve, invoke, builtin, Builtin.len_, run_underlying ht, e1, goInt]⟩

/-- What is laid reads so. -/
theorem run_load_cells {t : TypeId} {n : Nat} {b off : Nat} {us : List Value} {w' : World} [Ty P t true n] (hn : us.length = n) (hc : ∀ j v, us[j]? = some v → w'.cell? ⟨b, off + j, none⟩ = some v) :
    (Instr.loadAt t (.pointer (some ⟨b, off, none⟩))).run P w' = .ok (.agg us.toArray) w' := by
  have h1 := Ty.row (P := P) (w := w') (t := t) (ag := true) (n := n)
  have h2 := Ty.size (P := P) (w := w') (t := t) (ag := true) (n := n)
  have hl : (loadCells ⟨b, off, none⟩ us.length).run P w' = .ok us.toArray w' :=
    run_loadCells_list (P := P) w' ⟨b, off, none⟩ us (fun j v hv => by rw [Addr.add_mid]; exact hc j v hv)
  subst hn
  simp [Instr.loadAt, Instr.sureAddr, loadVar, h1, h2, hl]
theorem run_load_cell {t : TypeId} {b off : Nat} {u : Value} {w' : World} [Ty P t false 1] (hc : w'.cell? ⟨b, off, none⟩ = some u) :
    (Instr.loadAt t (.pointer (some ⟨b, off, none⟩))).run P w' = .ok u w' := by
  have h1 := Ty.row (P := P) (w := w') (t := t) (ag := false) (n := 1)
  simp [Instr.loadAt, Instr.sureAddr, loadVar, h1, load, Sem.run, hc]

theorem s_load {t : TypeId} {x : Operand} {c : C} {cs : List C} [Ty P t false 1] (ho : o.op = .load t x) (hx : evC st x = .elem (c :: cs)) : SStep P D o st c := fun E w a hs => by
  obtain ⟨b, off, us, e, h1, h2, h3, _⟩ := (hx ▸ hs.ev x).elem_inv
  refine ⟨us 0, h3 0 c rfl, fun w' hk => ?_⟩
  have h4 := h2 0 (by simp)
  have h5 := hk.1 b off (by simp at h1; omega)
  simp [execOp, ho, e, run_load_cell (P := P) (t := t) (h5.trans h4)]
theorem s_load_agg {t : TypeId} {x : Operand} {n : Nat} {cs : List C} [Ty P t true n] (ho : o.op = .load t x) (hx : evC st x = .elem cs) (hn : n ≤ cs.length) : SStep P D o st (.agg (cs.take n)) := fun E w a hs => by
  obtain ⟨b, off, us, e, h1, h2, h3, h4, _⟩ := (hx ▸ hs.ev x).elem_inv
  have hlen : ((List.range n).map us).length = n := by simp
  refine ⟨.agg ((List.range n).map us).toArray, Rs.agg ⟨by simp; omega, fun j c v hc hv => ?_⟩ (fun c hc => h4 c (List.mem_of_mem_take hc)), fun w' hk => ?_⟩
  · rw [List.getElem?_take] at hc
    split at hc
    · rename_i hj
      rw [List.getElem?_map, List.getElem?_range hj] at hv
      simp only [Option.map_some, Option.some.injEq] at hv
      exact hv ▸ h3 j c hc
    · cases hc
  · have hrun := run_load_cells (P := P) (t := t) (n := n) (b := b) (off := off) (us := (List.range n).map us) (w' := w') hlen fun j v hv => by
      have hj : j < n := by have := (List.getElem?_eq_some_iff.1 hv).1; simpa using this
      rw [List.getElem?_map, List.getElem?_range hj] at hv
      simp only [Option.map_some, Option.some.injEq] at hv
      subst hv
      exact (hk.1 b (off + j) (by omega)).trans (h2 j (by omega))
    simp only [execOp, ho, e, Sem.run_bind, hrun, Result.andThen_ok]
    rfl

theorem flat_len {α : Type} {rows : List (List α)} {s : Nat} (h : ∀ r ∈ rows, r.length = s) : rows.flatten.length = rows.length * s := by
  induction rows with
  | nil => simp
  | cons r rs ih =>
    rw [List.flatten_cons, List.length_append, h r (by simp), ih (fun r hr => h r (by simp [hr])), List.length_cons, Nat.add_mul]
    omega
theorem flat_get {α : Type} {rows : List (List α)} {s k j : Nat} {row : List α} {c : α} (h : ∀ r ∈ rows, r.length = s) (hrow : rows[k]? = some row) (hj : row[j]? = some c) : rows.flatten[k * s + j]? = some c := by
  induction rows generalizing k with
  | nil => simp at hrow
  | cons r rs ih =>
    cases k with
    | zero =>
      simp at hrow
      subst hrow
      rw [List.flatten_cons, Nat.zero_mul, Nat.zero_add, List.getElem?_append_left (List.getElem?_eq_some_iff.1 hj).1]
      exact hj
    | succ k =>
      simp at hrow
      rw [List.flatten_cons]
      have hl := h r (by simp)
      rw [List.getElem?_append_right (by rw [hl, Nat.add_mul]; omega)]
      rw [show (k + 1) * s + j - r.length = k * s + j by rw [hl, Nat.add_mul]; omega]
      exact ih (fun r hr => h r (by simp [hr])) hrow

/-- An element's address. -/
theorem n_indexAddr {t : TypeId} {x i : Operand} {rows : List (List C)} {tok : Tok} {row : List C} {e : TypeId} {ik : IntKind} {n : Int} {k sz : Nat} {ag : Bool} [Elt P t e] [Ty P e ag sz] (ho : o.op = .indexAddr t x i) (hx : evC st x = .list rows tok) (hi : evC st i = .v (.int ik n)) (hn : n = (k : Int)) (hrow : rows[k]? = some row) (hsz : row.length = sz) : NStep P o st (.elem row) := fun E w a hs => by
  subst hn
  have hr := hx ▸ hs.ev x
  have e1 := (hi ▸ hs.ev i).v_inv
  generalize hv : a.eval x = v at hr
  cases hr with
  | @list _ _ ad cap s us h1 h2 h3 h4 h5 h6 h7 _ _ h8 =>
    have hk : k < rows.length := (List.getElem?_eq_some_iff.1 hrow).1
    have hs' : s = sz := by rw [← hsz]; exact (h4 row (List.mem_of_getElem? hrow)).symm
    subst hs'
    have hflat := flat_len h4
    have hcell : ∀ j c, row[j]? = some c → rows.flatten[k * s + j]? = some c := fun j c hj => flat_get h4 hrow hj
    rcases h6 with h6 | ⟨b, off, rfl, h6, h9⟩
    · rw [hflat] at h6
      have := Nat.mul_pos (show 0 < rows.length by omega) (show 0 < s by omega)
      omega
    · have hle : k * s + s ≤ rows.length * s := by rw [← Nat.succ_mul]; exact Nat.mul_le_mul_right _ hk
      refine ⟨.pointer (some ⟨b, off + k * s, none⟩), .elem (us := fun j => us (k * s + j)) (by intro h0; rw [h0] at hsz; simp at hsz; omega) (fun c hc => h5 row (List.mem_of_getElem? hrow) c hc) (.inr ⟨b, off + k * s, rfl, by omega, fun j hj => ?_⟩) (fun j c hj => h7 _ c (hcell j c hj)), fun w' => ?_⟩
      · rw [Nat.add_assoc]; exact h9 _ (by omega)
      · have q1 := Elt.spec (P := P) (t := t) (e := e)
        have q2 := Ty.size (P := P) (w := w') (t := e) (ag := ag) (n := s)
        have q3 : (k : Int) < (rows.length : Int) := by omega
        simp [execOp, ho, Instr.indexAt, hv, e1, asIntOf, run_underlying q1, q2, q3, addr_add]
        intro h; omega

/-- A byte of a text. -/
theorem n_index_str {t : TypeId} {x i : Operand} {s : ByteArray} {ik : IntKind} {n : Int} {k : Nat} (ho : o.op = .index t x i) (ht : P.underlying t = some .string) (hx : evC st x = .v (.string s)) (hi : evC st i = .v (.int ik n)) (hn : n = (k : Int)) (hk : k < s.size) : NStep P o st (.v (.int .u8 (s[k].toNat : Int))) := fun E w a hs => by
  subst hn
  have e1 := (hx ▸ hs.ev x).v_inv
  have e2 := (hi ▸ hs.ev i).v_inv
  have hb : s[k].toNat < 256 := s[k].toNat_lt
  refine ⟨_, .v (okV_u8 (by omega)), fun w' => ?_⟩
  simp [execOp, ho, Instr.index, e1, e2, asIntOf, run_underlying ht, hk]
end
end Go.AB
