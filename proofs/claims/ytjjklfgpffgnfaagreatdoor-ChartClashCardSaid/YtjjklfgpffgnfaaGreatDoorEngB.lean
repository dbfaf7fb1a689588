/-
  What the walks through the program rest on: values, states, steps, calls (AbMore, AbMap, AbScope, AbRange, AbIter, AbYield, AbGive, AbMix, AbNamed, AbConv, AbWords, AbDrawn, AbDrawnB).
-/
import Derived.Test.YtjjklfgpffgnfaaGreatDoorEngA
import Derived.Maps.Keyed
import Derived.DeepKeys4
import Derived.LoopNIn
import Derived.Laws.IdiomRangeMap
import Derived.RangeFuncWrites
import Derived.Laws.IdiomStrings
import Derived.WalkKit
namespace Go.AB
open Go Go.RowKit
open Go.AB.Enc (cells)
variable {ρ : Option Nat}
section
variable {P : Program} {o : Oper} {st : St} {c c' : C} {v : Value}
theorem ua1 {E : Env} {w : World} {a : Act} {i n : Nat} (h : st.at i = .v v) (hG : st.G n = some (.fact v c)) (hs : Sim E w st a) : Sim E w { st with r := (i, c) :: st.r } a := by
 refine ⟨hs.d, hs.sz, fun j x hj => ?_, hs.g⟩
 simp only [bq]
 cases hb : Nat.beq i j
 ·exact hs.t j x hj
 ·have hij := Nat.eq_of_beq_eq_true hb
  subst hij
  have h1 := (h ▸ hs.at i).v_inv
  rw [Array.getD_eq_getD_getElem?, hj] at h1
  have h2 : x = v := h1
  subst h2
  exact (hs.g.obj n _ hG).2
theorem qz (i n : Nat) (h : st.at i = .v v) (hG : st.G n = some (.fact v c)) (k : NStep P o { st with r := (i, c) :: st.r } c') : NStep P o st c' := fun E w a hs => k E w a (ua1 h hG hs)
theorem uex {D : Nat → Prop} (i n : Nat) (h : st.at i = .v v) (hG : st.G n = some (.fact v c)) (k : SStep P D o { st with r := (i, c) :: st.r } c') : SStep P D o st c' := fun E w a hs => k E w a (ua1 h hG hs)
/-- A package's variable, of which a fact is known. -/
theorem eo {D : Nat → Prop} {t : TypeId} {x : Operand} {n m : Nat} {cs : List C} [Ty P t true n] (ho : o.op = .load t x) (hx : evC st x = .v v) (hG : st.G m = some (.fact v (.elem cs))) (hn : cs.length = n) : SStep P D o st (.agg cs) := fun E w a hs => by
 have h1 := (hx ▸ hs.ev x).v_inv
 obtain ⟨b, off, us, hv, _, hc, hr, h1c, _⟩ := (hs.g.obj m _ hG).2.elem_inv
 subst hn
 have hrs : Rs E w cs ((List.range cs.length).map us) := ⟨by simp, fun j c v hcj hv => by
  rw [List.getElem?_map] at hv
  have hlt := (List.getElem?_eq_some_iff.1 hcj).1
  rw [List.getElem?_range hlt] at hv
  simp only [Option.map_some, Option.some.injEq] at hv
  subst hv
  exact hr j c hcj⟩
 have hL := hs.g.obj m _ hG
 refine ⟨.agg ((List.range cs.length).map us).toArray, hrs.agg h1c, fun w' hk => ?_⟩
 obtain ⟨b', off', us', hv', hL', hc', _, _, _⟩ := (hs.g.obj m _ hG).2.elem_inv
 rw [hv] at hv'
 simp only [Value.pointer.injEq, Option.some.injEq, Addr.mk.injEq] at hv'
 obtain ⟨rfl, rfl, _⟩ := hv'
 have hrun := qs (P := P) (t := t) (n := cs.length) (b := b) (off := off) (us := (List.range cs.length).map us) (w' := w') (by simp) fun j u hj => by
  rw [List.getElem?_map] at hj
  by_cases hlt : j < cs.length
  ·rw [List.getElem?_range hlt] at hj
   simp only [Option.map_some, Option.some.injEq] at hj
   subst hj
   rw [hk.1 b (off + j) (by omega)]
   exact hc j hlt
  ·rw [List.getElem?_eq_none (by simp; omega)] at hj; cases hj
 simp only [execOp, ho, h1, hv, Sem.run_bind, hrun, Result.andThen_ok]
 rfl
theorem sw {x y : Operand} {ts : Array TypeId} {k k' : IntKind} {p q : Int} (ho : o.op = .call { callee := .builtin .max, args := #[x, y], argTypes := ts }) (hx : evC st x = .v (.int k p)) (hy : evC st y = .v (.int k' q)) (hk : k = k') : NStep P o st (.v (.int k (max p q))) := fun E w a hs => by
 subst hk
 have e1 := (hx ▸ hs.ev x).v_inv
 have e2 := (hy ▸ hs.ev y).v_inv
 have r1 := (hx ▸ hs.ev x)
 have r2 := (hy ▸ hs.ev y)
 rw [e1] at r1
 rw [e2] at r2
 refine ⟨.int k (max p q), ?_, fun w' => ?_⟩
 ·cases r1 with
  | v h1 =>
   cases r2 with
   | v h2 =>
    refine .v ?_
    rcases Int.le_total p q with h | h
    ·rw [Int.max_eq_right h]; exact h2
    ·rw [Int.max_eq_left h]; exact h1
 ·have e3 : (if q > p then q else p) = max p q := by
   split
   ·rw [Int.max_eq_right (by omega)]
   ·rw [Int.max_eq_left (by omega)]
  simp [execOp, ho, resolve, invoke, builtin, e1, e2, run_max_int2, e3]
theorem Rs.extract {E : Env} {w : World} {cs : List C} {vs : List Value} (h : Rs E w cs vs) (h1 : ∀ c ∈ cs, c.one = true) (off sz : Nat) : R E w (.agg ((cs.drop off).take sz)) (.agg (vs.toArray.extract off (off + sz))) := by
 have := ((h.dropn off).take sz).agg fun c hc => h1 c (List.mem_of_mem_drop (List.mem_of_mem_take hc))
 have e : (vs.toArray.extract off (off + sz)) = ((vs.drop off).take sz).toArray := by
  rw [List.extract_toArray]
  congr 1
  simp only [List.extract_eq_take_drop, List.drop_take]
  congr 1
  omega
 rw [e]; exact this
/-- An element of an array, by value. -/
theorem ug0 {t : TypeId} {x i : Operand} {cs ds : List C} {e : TypeId} {m sz k : Nat} {ik : IntKind} {n : Int} [ArrT P t m e] [Ty P e true sz] (ho : o.op = .index t x i) (hx : evC st x = .agg cs) (hi : evC st i = .v (.int ik n)) (hn : n = (k : Int)) (hk : k < m) (hd : (cs.drop (k * sz)).take sz = ds) : NStep P o st (.agg ds) := fun E w a hs => by
 subst hn; subst hd
 obtain ⟨vs, e1, hr, h1⟩ := (hx ▸ hs.ev x).agg_inv
 have e2 := (hi ▸ hs.ev i).v_inv
 refine ⟨_, hr.extract h1 (k * sz) sz, fun w' => ?_⟩
 have q1 := ArrT.spec (P := P) (t := t) (n := m) (e := e)
 have q2 := Ty.size (P := P) (w := w') (t := e) (ag := true) (n := sz)
 have q3 := Ty.row (P := P) (w := w') (t := e) (ag := true) (n := sz)
 have q4 : (k : Int) < (m : Int) := by omega
 simp [execOp, ho, Instr.index, e1, e2, asIntOf, run_underlying q1, q2, q3, q4, part]
 intro h; omega
/-- An element's place in an array that is a variable. -/
theorem uad {t : TypeId} {x i : Operand} {b ver off m : Nat} {e : TypeId} {ik : IntKind} {n : Int} {k sz : Nat} {ag : Bool} [ArrT P t m e] [Ty P e ag sz] (ho : o.op = .indexAddr t x i) (hx : evC st x = .box b ver off) (hi : evC st i = .v (.int ik n)) (hn : n = (k : Int)) (hk : k < m) : NStep P o st (.box b ver (off + k * sz)) := fun E w a hs => by
 subst hn
 have hr := hx ▸ hs.ev x
 have e1 := (hi ▸ hs.ev i).v_inv
 generalize hv : a.eval x = v at hr
 cases hr with
 | @box _ _ _ bb h1 h2 =>
 refine ⟨.pointer (some ⟨bb, off + k * sz, none⟩), .box h1 h2, fun w' => ?_⟩
 have q1 := ArrT.spec (P := P) (t := t) (n := m) (e := e)
 have q2 := Ty.size (P := P) (w := w') (t := e) (ag := ag) (n := sz)
 have q3 : (k : Int) < (m : Int) := by omega
 simp [execOp, ho, Instr.indexAt, Instr.sureAddr, hv, e1, asIntOf, run_underlying q1, q2, q3, mw]
 intro h; omega
/-- .. that is laid for good. -/
theorem fb {t : TypeId} {x i : Operand} {m : Nat} {cs : List C} {d : C} {ds : List C} {e : TypeId} {ik : IntKind} {n : Int} {k sz : Nat} {ag : Bool} [ArrT P t m e] [Ty P e ag sz] (ho : o.op = .indexAddr t x i) (hx : evC st x = .elem cs) (hi : evC st i = .v (.int ik n)) (hn : n = (k : Int)) (hk : k < m) (hd : cs.drop (k * sz) = d :: ds) : NStep P o st (.elem (d :: ds)) := fun E w a hs => by
 subst hn
 have e1 := (hi ▸ hs.ev i).v_inv
 obtain ⟨b, off, us, hv, h1, h2, h3, h4, _⟩ := (hx ▸ hs.ev x).elem_inv
 refine ⟨.pointer (some ⟨b, off + k * sz, none⟩), hd ▸ R.elem_drop h1 h2 h3 h4 (k * sz) (by rw [hd]; simp), fun w' => ?_⟩
 have q1 := ArrT.spec (P := P) (t := t) (n := m) (e := e)
 have q2 := Ty.size (P := P) (w := w') (t := e) (ag := ag) (n := sz)
 have q3 : (k : Int) < (m : Int) := by omega
 simp [execOp, ho, Instr.indexAt, Instr.sureAddr, hv, e1, asIntOf, run_underlying q1, q2, q3, mw]
 intro h; omega
/-- A part of a slice that is only read. -/
theorem R.cut {E : Env} {w : World} {rows : List (List C)} {tok : Tok} {a : Option Addr} {n cap : Nat} (h : R E w (.list rows tok) (.slice a n cap)) (k : Nat) (hk : k ≤ rows.length) : R E w (.list (rows.take k) .none) (.slice a k cap) := by
 obtain ⟨a', cap', sz, us, e, h1, h2, h3, h4, h5, h6, h7, _⟩ := R.list_inv h
 simp only [Value.slice.injEq] at e
 obtain ⟨rfl, rfl, rfl⟩ := e
 have hl : (rows.take k).length = k := by rw [List.length_take]; omega
 have hfl : (rows.take k).flatten = rows.flatten.take (k * sz) := by
  have e1 : rows.flatten = (rows.take k).flatten ++ (rows.drop k).flatten := by rw [← List.flatten_append, List.take_append_drop]
  have e2 : (rows.take k).flatten.length = k * sz := by rw [ka fun r hr => h4 r (List.mem_of_mem_take hr), hl]
  rw [e1, ← e2, List.take_left]
 have := R.mk_list (E := E) (w := w) (rows := rows.take k) (a := a) (cap := cap) (sz := sz) (us := us.take (k * sz)) (tok := .none) (by omega) h2 h3 (fun r hr => h4 r (List.mem_of_mem_take hr)) (fun r hr => h5 r (List.mem_of_mem_take hr)) (by rw [hfl]; exact h6.take _) (by
  rcases h7 with rfl | ⟨b, off, e, k1, k2⟩
  ·exact .inl (by simp)
  ·refine .inr ⟨b, off, e, by rw [List.length_take]; omega, fun j u hu => ?_⟩
   rw [List.getElem?_take] at hu
   split at hu
   ·exact k2 j u hu
   ·cases hu) (by simp) (by simp) (by simp)
 rwa [hl] at this
theorem z8 {t e : TypeId} {sz : Nat} {ag : Bool} [Elt P t e] [Ty P e ag sz] {x y : Operand} {rows : List (List C)} {tok : Tok} {ik : IntKind} {n : Int} {k : Nat} (ho : o.op = .slice t x none (some y) none) (hx : evC st x = .list rows tok) (hy : evC st y = .v (.int ik n)) (hn : n = (k : Int)) (hk : k ≤ rows.length) : NStep P o st (.list (rows.take k) .none) := fun E w a hs => by
 subst hn
 have hr := hx ▸ hs.ev x
 have e1 := (hy ▸ hs.ev y).v_inv
 obtain ⟨ad, cap, _, _, hv, h1, _, _, _, _, _, h7, _⟩ := R.list_inv hr
 have q1 := Elt.spec (P := P) (t := t) (e := e)
 have hel : P.elem t = e := by simp [Program.elem, q1]
 have q2 := fun w => Ty.size (P := P) (w := w) (t := e) (ag := ag) (n := sz)
 have e3 : (if cap = 0 then ad else ad.map (·.add (0 * sz))) = ad := by
  split
  ·rfl
  ·cases ad with
   | none => rfl
   | some ad => obtain ⟨b, off, sp⟩ := ad; simp [Addr.add]
 refine ⟨.slice ad k cap, ?_, fun w' => ?_⟩
 ·rw [hv] at hr; exact hr.cut k hk
 ·have hs1 := run_slice_h (P := P) (w := w') t ad rows.length cap (by rw [hel]; exact q1) ik (k : Int) (by omega) (by omega)
  have hs2 := run_sliceAt_slice (P := P) (w := w') t (.slice ad rows.length cap) none (some (.int ik (k : Int))) none (by rw [hel]; exact q1)
  simp only [execOp, ho, hv, e1, Option.map_none, Option.map_some, Sem.run_bind, hs2, hs1, hel, q2, Result.andThen_ok, sliced, Int.toNat_natCast, e3, Nat.sub_zero]
  rfl
/-- One operation by a contract under a condition on the objects. -/
theorem f8 {f : FuncId} [Fun P f] {fv : Operand} {args : List Operand} {ats : Array TypeId} {caps as : List C} {K : St → Prop} {r : C} (ho : o.op = .call { callee := .value fv, args := args.toArray, argTypes := ats }) (hf : evC st fv = .fn (.func f) caps) (has : args.map (evC st) ++ caps = as)
  (hp : PC P f as st.G st.nx fun r' G' nx' => r' = r ∧ G' = st.G ∧ nx' = st.nx) (h : K (st.put o.dst r)) : EStep P o st K :=
 rn ho hf has (hp.mono fun r' G' nx' ⟨e1, e2, e3⟩ => by subst e1; subst e2; subst e3; exact h)
end
/-- A call that leaves all as it was, where a fact is known by the first name. -/
def da (F : GObj) (P : Program) (f : FuncId) (args : List C) (r : C) : Prop := ∀ G nx, G 0 = some F → PC P f args G nx fun r' G' nx' => r' = r ∧ G' = G ∧ nx' = nx
theorem eb {F : GObj} {P : Program} {o : Oper} {st : St} {f : FuncId} [Fun P f] {fv : Operand} {args : List Operand} {ats : Array TypeId} {caps as : List C} {K : St → Prop} {r : C} (ho : o.op = .call { callee := .value fv, args := args.toArray, argTypes := ats }) (hf : evC st fv = .fn (.func f) caps) (has : args.map (evC st) ++ caps = as)
  (hp : da F P f as r) (hF : st.G 0 = some F) (h : K (st.put o.dst r)) : EStep P o st K := f8 ho hf has (hp _ _ hF) h

/-! ### Own slices that are read by what only reads -/
end Go.AB
namespace Go.AB
open Go Go.RowKit
open Go.Maps (Keyed)
open Go.AB.Enc (cells)
variable {ρ : Option Nat}
/-- Keys as plain data. -/
class KeyV (α : Type) where
 kv : α → Value
 kc : α → C
 inv : ∀ {E : Env} {w : World} {x : α} {v : Value}, R E w (kc x) v → v = kv x
 inj : ∀ {x y : α}, kv x = kv y → x = y
 any : ∀ {E : Env} {w : World} {x : α} {v : Value}, R E w (kc x) v → ∀ (E' : Env) (w' : World), R E' w' (kc x) (kv x)
def uam (P : Program) (t k e : TypeId) : Bool := match P.underlying t with | some (.map k' e') => k' == k && e' == e | _ => false
class MapT (P : Program) (t : TypeId) (k e : outParam TypeId) : Prop where
 chk : uam P t k e = true
theorem MapT.spec {P : Program} {t k e : TypeId} [h : MapT P t k e] : P.underlying t = some (.map k e) := by
 have := h.chk
 unfold uam at this
 split at this
 ·rename_i k' e' he
  simp only [Bool.and_eq_true, beq_iff_eq] at this
  rw [he, this.1, this.2]
 ·cases this
class KeyT (P : Program) (k : TypeId) (α : Type) [KeyV α] : Prop where
 keyed : Keyed P k
 has : ∀ {E : Env} {w : World} {x : α} {v : Value}, R E w (KeyV.kc x) v → ∃ l, keyOf P k (KeyV.kv x) = some l
def okK1 (P : Program) (k : TypeId) (α : Type) [KeyV α] : MapEntry → Prop := fun e => ∃ (x : α) (l : Lit), e.key = KeyV.kv x ∧ keyOf P k e.key = some l ∧ ∀ (E : Env) (w : World), R E w (KeyV.kc x) e.key
def okK (P : Program) (k : TypeId) (α : Type) [KeyV α] : List MapEntry → Nat → Prop := fun es _ => ∀ e ∈ es, okK1 P k α e
open Classical in
noncomputable def i3 {α : Type} [KeyV α] (m : α → Option C) : Value → Option C := fun v => if h : ∃ x : α, v = KeyV.kv x then m h.choose else none
theorem g4 {α : Type} [KeyV α] (m : α → Option C) (x : α) : i3 m (KeyV.kv x) = m x := by
 have h : ∃ y : α, KeyV.kv x = KeyV.kv y := ⟨x, rfl⟩
 unfold i3
 rw [dif_pos h]
 exact congrArg m (KeyV.inj h.choose_spec).symm
theorem ou {α : Type} [KeyV α] (m : α → Option C) {v : Value} (h : ¬ ∃ x : α, v = KeyV.kv x) : i3 m v = none := by
 unfold i3
 rw [dif_neg h]
/-- A map whose keys are data. -/
noncomputable def bo (P : Program) (k : TypeId) {α : Type} [KeyV α] (wv : Nat) (m : α → Option C) : GObj := .map wv (okK P k α) (i3 m)
def f7 {α : Type} [DecidableEq α] (m : α → Option C) (x : α) (c : C) : α → Option C := fun y => if y = x then some c else m y
def rb {α : Type} [DecidableEq α] (m : α → Option C) (x : α) : α → Option C := fun y => if y = x then none else m y

/-- What the run of an update leaves. -/
theorem uai {P : Program} {k t e : TypeId} {w : World} {r : Nat} {es : Array MapEntry} {clock : Nat} (K : Keyed P k) (ht : P.underlying t = some (.map k e)) (hb : w.heap[r]? = some (.map es clock))
  (h1 : ∀ e ∈ es.toList, ∃ l, keyOf P k e.key = some l) (h2 : es.toList.Pairwise (fun a b => a.key ≠ b.key)) {key : Value} {kl : Lit} (hkey : keyOf P k key = some kl) (val : Value) (hcl : es.all (·.born < clock) = true) :
  ∃ es' clock', (Instr.mapUpdate t (.map (some r)) key val).run P w = .ok () (ChangeMaps.setBlock w r (.map es' clock')) ∧ (∀ e ∈ es'.toList, (e.key = key ∧ e.val = val ∧ ((∃ e0 ∈ es.toList, e0.key = key ∧ e0.born = e.born) ∨ ((∀ e0 ∈ es.toList, e0.key ≠ key) ∧ e.born = clock))) ∨ (e ∈ es.toList ∧ e.key ≠ key)) ∧ es'.toList.Pairwise (fun a b => a.key ≠ b.key) ∧
   (∃ e ∈ es'.toList, e.key = key) ∧ (∀ e ∈ es.toList, e.key ≠ key → e ∈ es'.toList) ∧ es'.all (·.born < clock') = true ∧ (es.toList.Pairwise (fun a b => a.born ≠ b.born) → es'.toList.Pairwise fun a b => a.born ≠ b.born) ∧ ((∃ e0 ∈ es.toList, e0.key = key) → clock' = clock) := by
 have hcl' : ∀ e ∈ es.toList, e.born < clock := fun e he => by simpa using Array.all_eq_true_iff_forall_mem.1 hcl e (by simpa using he)
 rcases K.find w hkey es.toList h1 with ⟨hf, hn⟩ | ⟨j, e0, hf, hj, hk⟩
 ·refine ⟨es.push ⟨key, val, clock⟩, clock + 1, ?_, fun e he => ?_, ?_, ⟨⟨key, val, clock⟩, by simp, rfl⟩, fun e he _ => by simp [Array.mem_toList_iff.1 he], ?_, fun hb => ?_, fun ⟨e0, h1, h2⟩ => absurd h2 (hn e0 h1)⟩
  ·simp [Instr.mapUpdate, run_underlying ht, MapKept.run_getObj_map hb, K.check w false hkey, hf, MapKept.run_setObj_map _ hb, Result.andThen, ChangeMaps.setBlock]
  ·simp only [Array.toList_push, List.mem_append, List.mem_singleton] at he
   rcases he with he | rfl
   ·exact .inr ⟨he, hn e he⟩
   ·exact .inl ⟨rfl, rfl, .inr ⟨fun e0 he0 => hn e0 he0, rfl⟩⟩
  ·simp only [Array.toList_push]
   refine List.pairwise_append.2 ⟨h2, by simp, ?_⟩
   intro a ha b hb
   simp only [List.mem_singleton] at hb
   subst hb
   exact hn a ha
  ·refine Array.all_eq_true_iff_forall_mem.2 fun e he => ?_
   rcases Array.mem_push.1 he with he | rfl
   ·have := hcl' e (by simpa using he)
    simp; omega
   ·simp
  ·simp only [Array.toList_push]
   refine List.pairwise_append.2 ⟨hb, by simp, ?_⟩
   intro a ha b hb
   simp only [List.mem_singleton] at hb
   subst hb
   have := hcl' a ha
   show a.born ≠ clock
   omega
 ·have hj' : es[j]? = some e0 := by simpa using hj
  have hjl : j < es.toList.length := (List.getElem?_eq_some_iff.1 hj).1
  have hlist : (es.modify j (fun e' => { e' with key := key, val := val })).toList = es.toList.set j { e0 with key := key, val := val } := by rw [Array.toList_modify, ChangeMaps.modify_eq_set _ _ _ _ hj]
  have hother : ∀ (i : Nat) (a : MapEntry), i ≠ j → es.toList[i]? = some a → a.key ≠ key := by
   intro i a hi ha
   rw [← hk]
   have hil : i < es.toList.length := (List.getElem?_eq_some_iff.1 ha).1
   have ea := (List.getElem?_eq_some_iff.1 ha).2
   have ej := (List.getElem?_eq_some_iff.1 hj).2
   rw [List.pairwise_iff_getElem] at h2
   rcases Nat.lt_or_gt_of_ne hi with hlt | hlt
   ·have := h2 i j hil hjl hlt
    rw [ea, ej] at this
    exact this
   ·have := h2 j i hjl hil hlt
    rw [ea, ej] at this
    exact this.symm
  have who : ∀ x ∈ es.toList.set j { e0 with key := key, val := val }, x = { e0 with key := key, val := val } ∨ (x ∈ es.toList ∧ x.key ≠ key) := by
   intro x hx
   obtain ⟨i, hi, ex⟩ := List.getElem_of_mem hx
   rw [List.getElem_set] at ex
   split at ex
   ·exact Or.inl ex.symm
   ·rename_i hne
    have hi' : i < es.toList.length := by simpa using hi
    exact Or.inr ⟨ex ▸ List.getElem_mem hi', hother i x (fun e => hne e.symm) (by rw [List.getElem?_eq_getElem hi', ex])⟩
  have hin : ∀ i a, i ≠ j → es.toList[i]? = some a → a ∈ es.toList.set j { e0 with key := key, val := val } := by
   intro i a hi ha
   have : (es.toList.set j { e0 with key := key, val := val })[i]? = some a := by rw [List.getElem?_set_ne (fun e => hi e.symm)]; exact ha
   exact List.mem_of_getElem? this
  have hinj : ({ e0 with key := key, val := val } : MapEntry) ∈ es.toList.set j { e0 with key := key, val := val } := by
   refine List.mem_of_getElem? (i := j) ?_
   rw [List.getElem?_set_self hjl]
  refine ⟨es.modify j (fun e' => { e' with key := key, val := val }), clock, ?_, ?_, ?_, ⟨_, hlist ▸ hinj, rfl⟩, ?_, ?_, fun hb => ?_, fun _ => rfl⟩
  ·simp [Instr.mapUpdate, run_underlying ht, MapKept.run_getObj_map hb, K.check w false hkey, hf, hj', hk, K.stays w hkey, MapKept.run_setObj_map _ hb, Result.andThen, ChangeMaps.setBlock]
  ·intro e he
   rw [hlist] at he
   rcases who e he with rfl | h
   ·exact .inl ⟨rfl, rfl, .inl ⟨e0, List.mem_of_getElem? hj, hk, rfl⟩⟩
   ·exact .inr h
  ·rw [hlist, List.pairwise_iff_getElem]
   intro i i' hi hi' hlt
   rw [List.pairwise_iff_getElem] at h2
   have hil : i < es.toList.length := by simpa using hi
   have hil' : i' < es.toList.length := by simpa using hi'
   have hh := h2 i i' hil hil' hlt
   have ej := (List.getElem?_eq_some_iff.1 hj).2
   simp only [List.getElem_set]
   by_cases hij : j = i
   ·have hij' : ¬ j = i' := by omega
    simp only [hij, if_true]
    rw [if_neg (by omega)]
    subst hij
    rw [ej, hk] at hh
    exact hh
   ·rw [if_neg hij]
    by_cases hij' : j = i'
    ·subst hij'
     rw [ej, hk] at hh
     simpa using hh
    ·rw [if_neg hij']
     exact hh
  ·intro e he hne
   rw [hlist]
   obtain ⟨i, hi⟩ := List.mem_iff_getElem?.1 he
   refine hin i e (fun hij => ?_) hi
   subst hij
   rw [hj] at hi
   injection hi with hi
   subst hi
   exact hne hk
  ·refine Array.all_eq_true_iff_forall_mem.2 fun e he => ?_
   have he' : e ∈ es.toList.set j { e0 with key := key, val := val } := by rw [← hlist]; exact Array.mem_toList_iff.2 he
   rcases who e he' with rfl | ⟨h, _⟩
   ·have := hcl' e0 (List.mem_of_getElem? hj)
    simpa using this
   ·simpa using hcl' e h
  ·rw [hlist]
   have e1 : (es.toList.set j { e0 with key := key, val := val }).map (·.born) = es.toList.map (·.born) := by
    rw [List.map_set]
    have : (es.toList.map (·.born))[j]? = some e0.born := by rw [List.getElem?_map, hj]; rfl
    exact List.ext_getElem? fun i => by
     rw [List.getElem?_set]
     split
     ·rename_i hij
      subst hij
      split
      ·exact this.symm
      ·rename_i h0; rw [List.getElem?_eq_none (by omega)]
     ·rfl
   exact List.pairwise_map.1 (e1 ▸ List.pairwise_map.2 hb)

theorem pq (w : World) (r b : Nat) (o : Obj) (h : b ≠ r) : (ChangeMaps.setBlock w r o).heap[b]? = w.heap[b]? := by
 simp [ChangeMaps.setBlock, Ne.symm h]
section
variable {P : Program} {o : Oper} {st : St} {K : St → Prop} {α : Type} [KeyV α]
theorem n1 {E : Env} {w : World} {v : Value} {n wv : Nat} {r : Option Nat} (hp : R E w (.map n) v) (hT : E.T n = some (0, wv, .map r)) : v = .map r := by
 cases hp with
 | map h1 h2 =>
  have := h2 _ _ _ hT rfl
  exact this.symm
theorem vq {D : Nat → Prop} {t k e : TypeId} [MapT P t k e] [KeyT P k α] {x i : Operand} {n wv : Nat} {ok : List MapEntry → Nat → Prop} {m : α → Option C} {key : α} {z : Value} [Zero P e z] (hx : evC st x = .map n) (hG : st.G n = some (.map wv ok (i3 m))) (hk0 : ∀ es cl, ok es cl → okK P k α es cl) (hD : D n) (hi : evC st i = KeyV.kc key) :
  ∀ E w a, Sim E w st a → ∃ v, R E w ((m key).getD (iw z)) v ∧ ∀ w', Keeps E D w w' → (Instr.lookup t (a.eval x) (a.eval i) true).run P w' = .ok (.tuple #[v, .bool (m key).isSome]) w' ∧ (Instr.lookup t (a.eval x) (a.eval i) false).run P w' = .ok v w' := by
 intro E w a hs
 obtain ⟨r, es, clock, hT, hh, hok, _⟩ := hs.g.obj n _ hG
 have e1 := n1 (hx ▸ hs.ev x) hT
 have hkr := hi ▸ hs.ev i
 have e2 := KeyV.inv hkr
 obtain ⟨kl, hkey⟩ := KeyT.has (P := P) (k := k) hkr
 have ht := MapT.spec (P := P) (t := t) (k := k) (e := e)
 have Kd := KeyT.keyed (P := P) (k := k) (α := α)
 have hz := fun w' => Zero.run (P := P) (t := e) (v := z) (w := w')
 have hk1 : ∀ e ∈ es.toList, ∃ l, keyOf P k e.key = some l := fun e he => let ⟨_, l, _, h, _⟩ := hk0 _ _ hok.ok e he; ⟨l, h⟩
 rw [e1, e2]
 cases hm : m key with
 | none =>
  refine ⟨z, R.const E w z, fun w' hk => ?_⟩
  have hb := (hk.2 n hD _ _ _ r hT rfl).trans hh
  rcases Kd.find w' hkey es.toList hk1 with ⟨hf, _⟩ | ⟨j, e0, hf, hj, hke⟩
  ·simp [Instr.lookup, run_underlying ht, MapKept.run_getObj_map hb, Kd.check w' _ hkey, hf, hz, Result.andThen]
  ·obtain ⟨c, hc, _⟩ := hok.val e0 (List.mem_of_getElem? hj)
   rw [hke, g4, hm] at hc
   cases hc
 | some c =>
  obtain ⟨e0, he0, hke0⟩ := hok.has (KeyV.kv key) c (by rw [g4, hm])
  obtain ⟨c', hc', hr'⟩ := hok.val e0 he0
  rw [hke0, g4, hm] at hc'
  cases hc'
  refine ⟨e0.val, hr', fun w' hk => ?_⟩
  have hb := (hk.2 n hD _ _ _ r hT rfl).trans hh
  rcases Kd.find w' hkey es.toList hk1 with ⟨hf, hn⟩ | ⟨j, e1', hf, hj, hke⟩
  ·exact absurd hke0 (hn e0 he0)
  ·have : e1' = e0 := Go.entry_eq_of_key hok.pw (List.mem_of_getElem? hj) he0 (hke.trans hke0.symm)
   subst this
   simp [Instr.lookup, run_underlying ht, MapKept.run_getObj_map hb, Kd.check w' _ hkey, hf, Result.andThen]
theorem ufm {D : Nat → Prop} {t k e : TypeId} [MapT P t k e] [KeyT P k α] {x i : Operand} {n wv : Nat} {m : α → Option C} {r : Option C} {z : Value} [Zero P e z] (key : α) (ho : o.op = .lookup t x i true) (hx : evC st x = .map n) (hG : st.G n = some (bo P k wv m)) (hD : D n) (hi : evC st i = KeyV.kc key) (hm : m key = r) : SStep P D o st (.tup [r.getD (iw z), .v (.bool r.isSome)]) := fun E w a hs => by
 subst hm
 obtain ⟨v, h1, h2⟩ := vq (P := P) (t := t) (e := e) (z := z) hx hG (fun _ _ h => h) hD hi E w a hs
 refine ⟨_, (Rs.cons h1 (Rs.cons (.v rfl) Rs.nil)).tup, fun w' hk => ?_⟩
 simp only [execOp, ho, Sem.run_bind, (h2 w' hk).1, Result.andThen_ok]
 rfl
theorem ufn {D : Nat → Prop} {t k e : TypeId} [MapT P t k e] [KeyT P k α] {x i : Operand} {n wv : Nat} {m : α → Option C} {r : Option C} {z : Value} [Zero P e z] (key : α) (ho : o.op = .lookup t x i false) (hx : evC st x = .map n) (hG : st.G n = some (bo P k wv m)) (hD : D n) (hi : evC st i = KeyV.kc key) (hm : m key = r) : SStep P D o st (r.getD (iw z)) := fun E w a hs => by
 subst hm
 obtain ⟨v, h1, h2⟩ := vq (P := P) (t := t) (e := e) (z := z) hx hG (fun _ _ h => h) hD hi E w a hs
 refine ⟨v, h1, fun w' hk => ?_⟩
 simp only [execOp, ho, Sem.run_bind, (h2 w' hk).2, Result.andThen_ok]
 rfl
theorem uaj [DecidableEq α] {t k e : TypeId} [MapT P t k e] [KeyT P k α] {x i y : Operand} {n wv : Nat} {ok ok' : List MapEntry → Nat → Prop} {m m' : α → Option C} (key : α) (ho : o.op = .mapUpdate t x i y) (hd : o.dst = none) (hx : evC st x = .map n) (hG : st.G n = some (.map wv ok (i3 m))) (hk0 : ∀ es cl, ok es cl → okK P k α es cl)
  (hnw : ∀ (E : Env) (w : World) (es es' : List MapEntry) (clock clock' : Nat), MapOk E w ok (i3 m) es clock → (∀ e ∈ es', (okK1 P k α e ∧ e.key = KeyV.kv key ∧ ((∃ e0 ∈ es, e0.key = KeyV.kv key ∧ e0.born = e.born) ∨ ((∀ e0 ∈ es, e0.key ≠ KeyV.kv key) ∧ e.born = clock))) ∨ (e ∈ es ∧ e.key ≠ KeyV.kv key)) → ((∃ e0 ∈ es, e0.key = KeyV.kv key) → clock' = clock) → ok' es' clock') (hi : evC st i = KeyV.kc key) (hm : f7 m key (evC st y) = m')
  (h : K { st with G := ak st.G n (.map (wv + 1) ok' (i3 m')) }) : EStep P o st K := fun E w a hs Kr Q hq => by
 subst hm
 obtain ⟨r, es, clock, hT, hh, hok, hcl⟩ := hs.g.obj n _ hG
 have e1 := n1 (hx ▸ hs.ev x) hT
 have hkr := hi ▸ hs.ev i
 have e2 := KeyV.inv hkr
 obtain ⟨kl, hkey⟩ := KeyT.has (P := P) (k := k) hkr
 have ht := MapT.spec (P := P) (t := t) (k := k) (e := e)
 have Kd := KeyT.keyed (P := P) (k := k) (α := α)
 obtain ⟨es', clock', hrun, h1, h2, h3, h4, h5, h6, h7⟩ := uai (w := w) Kd ht hh (fun e he => let ⟨_, l, _, h, _⟩ := hk0 _ _ hok.ok e he; ⟨l, h⟩) hok.pw hkey (a.eval y) hcl
 have hnew : (ChangeMaps.setBlock w r (.map es' clock')).heap[r]? = some (.map es' clock') := ChangeMaps.heap_setBlock_same hh _
 have hchg : Chg E w (ChangeMaps.setBlock w r (.map es' clock')) 0 wv (.map (some r)) 0 (wv + 1) (.map (some r)) (E.L r) := by
  have hbn := hs.g.tb n _ _ _ r hT rfl
  refine ⟨⟨rfl, rfl, rfl, by simp [ChangeMaps.setBlock], fun k hk => pq w r k _ (by omega)⟩, fun k _ hk => pq w r k _ (fun e => hk (by simp [blk, e])), fun b hb => .inl ⟨hb, ?_⟩, fun b i hb hi => ?_, .inr ⟨rfl, rfl, by omega⟩, fun b o hb ho => ?_, fun hv => absurd hv (Nat.lt_irrefl _), fun b hb hl => ?_⟩
  ·simp only [blk, Option.some.injEq] at hb; subst hb; exact Nat.le_refl _
  ·simp only [blk, Option.some.injEq] at hb; subst hb
   simp [World.cell?, hh, hnew]
  ·simp only [blk, Option.some.injEq] at hb; subst hb; rw [hh] at ho; cases ho; exact ⟨_, hnew, rfl⟩
  ·simp only [blk, Option.some.injEq] at hb; subst hb; omega
 have hev := Ev.chg hs.g hT hchg
 have hobj : ObjOk (E.chg n (0, wv + 1, .map (some r)) (E.L r)) (ChangeMaps.setBlock w r (.map es' clock')) n (.map (wv + 1) ok' (i3 (f7 m key (evC st y)))) := by
  refine ⟨r, es', clock', by simp [Env.chg], hnew, ⟨?_, h2, h6 hok.pb, fun e he => ?_, fun x c hx => ?_⟩, h5⟩
  ·refine hnw E w es.toList es'.toList clock clock' hok (fun e he => ?_) h7
   rcases h1 e he with ⟨h, _, hb⟩ | ⟨h, hne⟩
   ·exact .inl ⟨⟨key, kl, h, h ▸ hkey, fun E' w' => h ▸ KeyV.any hkr E' w'⟩, h, hb⟩
   ·exact .inr ⟨h, hne⟩
  ·rcases h1 e he with ⟨hk, hv, _⟩ | ⟨hm, hne⟩
   ·refine ⟨evC st y, by rw [hk, g4]; simp [f7], ?_⟩
    rw [hv]
    exact (hs.ev y).ev hev
   ·obtain ⟨c, hc, hr⟩ := hok.val e hm
    refine ⟨c, ?_, hr.ev hev⟩
    obtain ⟨y, l, hy, _⟩ := hk0 _ _ hok.ok e hm
    rw [hy, g4] at hc ⊢
    have : y ≠ key := fun e2 => hne (by rw [hy, e2])
    simp [f7, this, hc]
  ·by_cases hex : ∃ y : α, x = KeyV.kv y
   ·obtain ⟨y, rfl⟩ := hex
    rw [g4] at hx
    by_cases hyk : y = key
    ·subst hyk; exact h3
    ·simp only [f7, hyk, if_false] at hx
     obtain ⟨e, he, hek⟩ := hok.has (KeyV.kv y) c (by rw [g4]; exact hx)
     exact ⟨e, h4 e he (by rw [hek]; exact fun e2 => hyk (KeyV.inj e2)), hek⟩
   ·rw [ou _ hex] at hx; cases hx
 have hg := SimG.chg hs.g hT hchg hobj
 unfold Oper.wp
 have hex : (execOp a.eval o).run P w = .ok .skip (ChangeMaps.setBlock w r (.map es' clock')) := by simp [execOp, ho, e1, e2, hrun]
 rw [hex]
 refine hq _ _ _ _ hev ?_ h
 have h8 := hs.evd hev hg
 simpa [Act.put, hd] using h8
theorem w9 [DecidableEq α] {t k e : TypeId} [MapT P t k e] [KeyT P k α] {x i y : Operand} {n wv : Nat} {m m' : α → Option C} (key : α) (ho : o.op = .mapUpdate t x i y) (hd : o.dst = none) (hx : evC st x = .map n) (hG : st.G n = some (bo P k wv m)) (hi : evC st i = KeyV.kc key) (hm : f7 m key (evC st y) = m')
  (h : K { st with G := ak st.G n (bo P k (wv + 1) m') }) : EStep P o st K :=
 uaj key ho hd hx hG (fun _ _ h => h) (fun _ _ es es' _ _ hk he _ e h => by
  rcases he e h with h | h
  ·exact h.1
  ·exact hk.ok e h.1) hi hm h
/-- A new map. -/
theorem ub4 {t k e : TypeId} [MapT P t k e] {ok : List MapEntry → Nat → Prop} (h0 : ok [] 0) (ho : o.op = .makeMap t none) (h : K (St.put { st with G := ak st.G st.nx (.map 0 ok (i3 (α := α) fun _ => none)), nx := st.nx + 1 } o.dst (.map st.nx))) : EStep P o st K := mf fun E w a hs => by
 have hnx := hs.g.nx
 have hold : ∀ b, b < w.heap.size → (w.alloc (.map #[] 0)).heap[b]? = w.heap[b]? := fun b hb => Below.heap_alloc w _ b hb
 have hnew : (w.alloc (.map #[] 0)).heap[w.heap.size]? = some (.map #[] 0) := heap_alloc_new w _
 have hTn : ∀ n t, E.T n = some t → (E.name (.map (some w.heap.size))).T n = some t := fun n t ht => by
  have := hs.g.lt n t ht
  simp only [Env.name]; rw [if_neg (by omega)]; exact ht
 have hTo : ∀ n t, (E.name (.map (some w.heap.size))).T n = some t → (n = E.nx ∧ t = (0, 0, .map (some w.heap.size))) ∨ E.T n = some t := fun n t ht => by
  simp only [Env.name] at ht
  split at ht
  ·rename_i e; exact .inl ⟨e, by simpa using ht.symm⟩
  ·exact .inr ht
 have hev : Ev E w (E.name (.map (some w.heap.size))) (w.alloc (.map #[] 0)) := by
  refine ⟨(Below.refl _ _).alloc hs.g.base _, rfl, fun _ => Nat.le_refl _, fun b i hi => ?_, Nat.le_succ _, fun n hn ver wv val ht => ?_, fun n ver wv wv' val h1 h2 hn => ?_, ?_⟩
  ·have hb : b < w.heap.size := Nat.lt_of_not_le fun hle => by have := hs.g.fresh b hle; omega
   exact World.cell?_of_block (w := w) (hold b hb)
  ·rcases hTo n _ ht with ⟨e, _⟩ | ht
   ·omega
   ·exact ⟨ver, wv, val, ht, Nat.le_refl _, fun _ => ⟨rfl, fun _ b hb => hold b (hs.g.tb n ver wv val b ht hb).2⟩⟩
  ·rcases hTo n _ h2 with ⟨e, _⟩ | h2
   ·omega
   ·rw [h1] at h2; simp at h2; omega
  ·refine ⟨rfl, fun b hb => absurd hb (Nat.lt_irrefl _), fun b o ho _ => (hold b (Array.getElem?_eq_some_iff.1 ho).1).trans ho, fun b o ho => ⟨o, (hold b (Array.getElem?_eq_some_iff.1 ho).1).trans ho, rfl⟩, fun n t' b o ht hb ho => ?_, fun n t t' b hn h1 h2 hv _ => ?_⟩
   ·rcases hTo n _ ht with ⟨_, rfl⟩ | ht
    ·simp only [blk, Option.some.injEq] at hb
     subst hb
     have := (Array.getElem?_eq_some_iff.1 ho).1
     omega
    ·exact ⟨t', ht, hb⟩
   ·rcases hTo n _ h2 with ⟨e, _⟩ | h2
    ·omega
    ·rw [h1] at h2; cases h2; omega
 refine ⟨.map (some w.heap.size), w.alloc (.map #[] 0), _, _, _, .map st.nx, ?_, hev, ?_, ?_, h⟩
 ·simp [execOp, ho, Instr.makeMap]
 ·refine .map (by simp [Env.name]; omega) fun ver wv val ht _ => ?_
  simp only [Env.name] at ht
  rw [if_pos hnx.symm] at ht
  simp only [Option.some.injEq, Prod.mk.injEq] at ht
  exact ht.2.2.symm
 ·refine ⟨by simp [Env.name, hnx], fun n o ho => ?_, fun n t ht => ?_, fun n ver wv val b ht hb => ?_, fun n m t t' b h1 h2 hne hb => ?_, fun b hb => ?_, ?_⟩
  ·simp only [ak] at ho
   split at ho
   ·rename_i en
    subst en
    simp only [Option.some.injEq] at ho
    subst ho
    exact ⟨w.heap.size, #[], 0, by simp [Env.name, hnx], hnew, ⟨h0, by simp, by simp, by simp, fun x c hx => by
     by_cases hex : ∃ y : α, x = KeyV.kv y
     ·obtain ⟨y, rfl⟩ := hex
      rw [g4] at hx; cases hx
     ·rw [ou _ hex] at hx; cases hx⟩, by simp⟩
   ·rename_i en
    refine (hs.g.obj n o ho).keep hev (by simp only [Env.name]; rw [if_neg (by omega)]) fun ver wv val b h1 h2 => ⟨hold b (hs.g.tb n ver wv val b h1 h2).2, rfl⟩
  ·rcases hTo n _ ht with ⟨e, _⟩ | ht
   ·simp [Env.name]; omega
   ·have := hs.g.lt n t ht
    simp [Env.name]; omega
  ·rcases hTo n _ ht with ⟨_, e⟩ | ht
   ·simp only [Prod.mk.injEq] at e
    obtain ⟨rfl, rfl, rfl⟩ := e
    simp only [blk, Option.some.injEq] at hb
    subst hb
    exact ⟨hs.g.base, by simp⟩
   ·have := hs.g.tb n ver wv val b ht hb
    exact ⟨this.1, by simp; omega⟩
  ·rcases hTo n _ h1 with ⟨e, rfl⟩ | h1 <;> rcases hTo m _ h2 with ⟨e', rfl⟩ | h2
   ·omega
   ·intro hb'
    simp only [blk, Option.some.injEq] at hb
    subst hb
    have := hs.g.tb m _ _ _ w.heap.size h2 hb'
    omega
   ·intro hb'
    simp only [blk, Option.some.injEq] at hb'
    subst hb'
    have := hs.g.tb n _ _ _ w.heap.size h1 hb
    omega
   ·exact hs.g.ap n m t t' b h1 h2 hne hb
  ·exact hs.g.fresh b (by simp at hb; omega)
  ·have := hs.g.base
   simp [Env.name]; omega
theorem xa {t k e : TypeId} [MapT P t k e] (ho : o.op = .makeMap t none) (h : K (St.put { st with G := ak st.G st.nx (bo P k (α := α) 0 fun _ => none), nx := st.nx + 1 } o.dst (.map st.nx))) : EStep P o st K :=
 ub4 (ok := okK P k α) (fun e he => by simp at he) ho h
end
/-- Two numbers. -/
instance : KeyV (Int × Int) where
 kv x := .agg #[.int .i64 x.1, .int .i64 x.2]
 kc x := .agg [.v (.int .i64 x.1), .v (.int .i64 x.2)]
 inv h := by
  obtain ⟨vs, rfl, h1, _⟩ := h.agg_inv
  match vs, h1 with
  | [a, b], h1 =>
   have e1 := (h1.2 0 _ _ rfl rfl).v_inv
   have e2 := (h1.2 1 _ _ rfl rfl).v_inv
   subst e1; subst e2; rfl
  | [], h => exact absurd h.1 (by simp)
  | [_], h => exact absurd h.1 (by simp)
  | _ :: _ :: _ :: _, h => exact absurd h.1 (by simp)
 inj h := by
  rename_i x y
  obtain ⟨a, b⟩ := x
  obtain ⟨c, d⟩ := y
  simpa using h
 any {E w x v} h E' w' := by
  obtain ⟨vs, rfl, h1, _⟩ := h.agg_inv
  match vs, h1 with
  | [a, b], h1 =>
   have e1 := h1.2 0 _ _ rfl rfl
   have e2 := h1.2 1 _ _ rfl rfl
   cases e1 with | v e1 =>
   cases e2 with | v e2 =>
   exact (Rs.cons (.v e1) (Rs.cons (.v e2) Rs.nil)).agg (by intro c hc; simp only [List.mem_cons, List.not_mem_nil, or_false] at hc; rcases hc with rfl | rfl <;> rfl)
  | [], h => exact absurd h.1 (by simp)
  | [_], h => exact absurd h.1 (by simp)
  | _ :: _ :: _ :: _, h => exact absurd h.1 (by simp)
end Go.AB
namespace Go.AB
open Go Go.RowKit
open Go.AB.Enc (cells)
theorem po {P : Program} {b : Frame} {a : Act} {k : List Item} {cs : List Frame} {w : World} {c : Code} : step P (lone (b.atR a (.code (.scope c) :: k)) cs w) = .next (lone (b.atR a (.code c :: .inScope c :: k)) cs w) :=
 step_lone_go (by simp [stepG, stepG.exec, Frame.atR])
theorem uep {P : Program} {b : Frame} {a : Act} {k : List Item} {cs : List Frame} {w : World} {c : Code} : step P (lone (b.atR a (.inScope c :: k)) cs w) = .next (lone (b.atR a k) cs w) :=
 step_lone_go (by simp [stepG, stepG.exec, Frame.atR])
def ugp (Q : Exit → Act → World → Prop) : Exit → Act → World → Prop
 | .goto _, _, _ => False
 | e, a, w => Q e a w
theorem udk {F : Fence} {n : Nat} {P : Program} {Q : Exit → Act → World → Prop} {a : Act} {w : World} {c : Code} (h : c.wpIn F n P (ugp Q) a w) : (Code.scope c).wpIn F n P Q a w := by
 intro b k cs hro hb hr
 have h0 : (lone (b.atR a (.code (.scope c) :: k)) cs w).fenced P F := fenced_calm hb hr rfl
 obtain ⟨e, a₁, w₁, hq, harr⟩ := h b (.inScope c :: k) cs hro hb hr
 cases e with
 | normal => exact ⟨.normal, a₁, w₁, hq, .head h0 po (StepsIn.trans harr (.one (fenced_calm hb hr rfl) uep))⟩
 | exit id' =>
  have hx : exitTo id' (.inScope c :: k) = exitTo id' k := by simp [exitTo]
  exact ⟨.exit id', a₁, w₁, hq, fun k' hk => .head h0 po (harr.1 k' (by rw [hx]; exact hk)),
   fun hr' hk => let ⟨k₁, h1, h2⟩ := harr.2 hr' (by rw [hx]; exact hk); ⟨k₁, h1, .head h0 po h2⟩⟩
 | goto l => exact hq.elim
 | ret => exact ⟨_, a₁, w₁, hq, .of_steps (.one h0 po) harr⟩
 | panic ch => exact ⟨_, a₁, w₁, hq, .of_steps (.one h0 po) harr⟩
 | outgrown => exact ⟨_, a₁, w₁, hq, .of_steps (.one h0 po) harr⟩
section
variable {ρ : Option Nat} {P : Program} {Q : Exit → St → Prop} {st : St}
def um8 (Q : Exit → St → Prop) : Exit → St → Prop
 | .goto _, _ => False
 | e, st => Q e st
theorem uc3 {c : Code} (h : AW ρ P c (um8 Q) st) : AW ρ P (.scope c) Q st := by
 intro E w a hs
 refine udk (i6 ?_ (h E w a hs))
 rintro e a' w' ⟨st', E', h1, h2, h3⟩
 cases e with
 | goto l => exact h3
 | _ => exact ⟨st', E', h1, h2, h3⟩
/-- Round by round. -/
def rz (ρ : Option Nat) (P : Program) (c : Code) (Q : Exit → St → Prop) : Nat → St → Prop
 | 0, _ => False
 | m + 1, st => AW ρ P c (l6 (rz ρ P c Q m) Q) st
theorem k9 {c : Code} (m : Nat) (h : rz ρ P c Q m st) : AW ρ P (.loop c) Q st := by
 intro E w a hs
 refine wpIn_loop_rounds m ?_
 have key : ∀ m st E1 w1 a1, Ev E w E1 w1 → Sim E1 w1 st a1 → rz ρ P c Q m st → Code.roundsIn (fen ρ) 1 P c (nf E w Q) m a1 w1 := by
  intro m
  induction m with
  | zero => intro st E1 w1 a1 _ _ h; exact h.elim
  | succ m ih =>
   intro st E1 w1 a1 hev hs1 h
   refine i6 ?_ (h E1 w1 a1 hs1)
   rintro e a' w' ⟨st', E', h1, h2, h3⟩
   cases e with
   | normal => exact ih st' E' w' a' (hev.trans h1) h2 h3
   | _ => exact ⟨st', E', hev.trans h1, h2, h3⟩
 exact key m st E w a (Ev.refl E w) hs h
theorem g8 {c : Code} {m : Nat} (h : ∀ K : St → Prop, (∀ st', rz ρ P c Q m st' → K st') → AW ρ P c (l6 K Q) st) : rz ρ P c Q (m + 1) st := h _ fun _ h => h
theorem uf4 {fn : Func} {r1 r2 r3 : ResultVar} {c1 c2 c3 : C} (hf : fn.results = #[r1, r2, r3]) (h1 : RV P st r1 c1) (h2 : RV P st r2 c2) (h3 : RV P st r3 c3) : m4 P fn st (.tup [c1, c2, c3]) := fun E w a hs => by
 obtain ⟨v1, e1, q1⟩ := h1 E w a hs
 obtain ⟨v2, e2, q2⟩ := h2 E w a hs
 obtain ⟨v3, e3, q3⟩ := h3 E w a hs
 refine ⟨.tuple #[v1, v2, v3], ?_, (Rs.cons q1 (Rs.cons q2 (Rs.cons q3 Rs.nil))).tup⟩
 rw [sk, hf]
 simp [e1, e2, e3, Result.andThen]
theorem uf3 {fn : Func} {r1 r2 r3 r4 : ResultVar} {c1 c2 c3 c4 : C} (hf : fn.results = #[r1, r2, r3, r4]) (h1 : RV P st r1 c1) (h2 : RV P st r2 c2) (h3 : RV P st r3 c3) (h4 : RV P st r4 c4) : m4 P fn st (.tup [c1, c2, c3, c4]) := fun E w a hs => by
 obtain ⟨v1, e1, q1⟩ := h1 E w a hs
 obtain ⟨v2, e2, q2⟩ := h2 E w a hs
 obtain ⟨v3, e3, q3⟩ := h3 E w a hs
 obtain ⟨v4, e4, q4⟩ := h4 E w a hs
 refine ⟨.tuple #[v1, v2, v3, v4], ?_, (Rs.cons q1 (Rs.cons q2 (Rs.cons q3 (Rs.cons q4 Rs.nil)))).tup⟩
 rw [sk, hf]
 simp [e1, e2, e3, e4, Result.andThen]
end
/-- A contract where a fact is known, out of the body's walk. -/
theorem fy {F : GObj} {P : Program} {f : FuncId} {fn : Func} {c : Code} {args : List C} {r : C} (hf : P.funcs[f]? = some fn) (hb : fn.body = some c) (hl : ∀ m, r.low m)
  (h : ∀ (G : Nat → Option GObj) (nx : Nat), G 0 = some F → AW none P c (kx P fn r G nx) { n := args.length + (fn.ntmps - args.length), l := args, r := [], G := G, nx := nx }) : da F P f args r :=
 fun G nx hF => ze hf hb hl (h G nx hF)
end Go.AB
namespace Go.AB
open Go Go.RowKit
open Go.Maps (Keyed)
variable {ρ : Option Nat}

theorem ufq {P : Program} (w : World) (ty : TypeId) (b bm since c0 : Nat) (seen : Array Nat) (es : Array MapEntry) (clock : Nat) (hi : w.heap[b]? = some (.mapIter (some bm) since seen c0)) (hb : w.heap[bm]? = some (.map es clock)) (hold : ∀ x ∈ es.toList, x.born < since) (hsc : since ≤ c0) :
  ((leftOf es seen).size = 0 ∧ (Instr.next (.pointer (some ⟨b, 0, none⟩)) false ty).run P w = .ok (.tuple #[.bool false]) w) ∨
  ∃ e ∈ (leftOf es seen).toList, ∃ w1 : World, (w1 = w ∨ w1 = w.drew) ∧ (Instr.next (.pointer (some ⟨b, 0, none⟩)) false ty).run P w = .ok (.tuple #[.bool true, e.key, e.val]) (w1.putObj b (.mapIter (some bm) since (seen.push e.born) clock)) := by
 simp only [Instr.next, getObj, Sem.run_bind, Sem.run, hi, hb, Result.andThen, next_test_false seen es since c0 hold hsc, Bool.false_eq_true, if_false]
 unfold leftOf
 have hmem : ∀ x ∈ (Array.filter (fun e => !seen.contains e.born) es).toList, x.born < since := fun x hx => hold x (by simp at hx ⊢; exact hx.1)
 generalize Array.filter (fun e => !seen.contains e.born) es = L at hmem ⊢
 have e1 : L.filter (fun x => decide (x.born < since)) = L := Array.filter_eq_self.2 (fun x hx => by simpa using hmem x (by simpa using hx))
 have e2 : L.filter (fun x => decide (x.born ≥ since)) = #[] := by
  rw [Array.filter_eq_empty_iff]
  intro x hx
  have := hmem x (by simpa using hx)
  simp
  omega
 simp only [e1, e2, Array.append_empty]
 by_cases h0 : L.size = 0
 ·left
  have : L = #[] := Array.eq_empty_of_size_eq_zero h0
  subst this
  refine ⟨rfl, ?_⟩
  simp [choose, Sem.run, Question.forced]
 ·right
  have hne : L.isEmpty = false := by simp [Array.isEmpty, h0]
  simp only [hne, Bool.false_eq_true, if_false, Array.empty_append, Array.size_map]
  have hch : ∃ (j : Nat) (w1 : World), j < L.size ∧ (w1 = w ∨ w1 = w.drew) ∧ (choose (Question.mapNext L.size)).run P w = .ok j w1 := by
   by_cases hf : L.size ≤ 1
   ·exact ⟨0, w, by omega, .inl rfl, by simp [choose, Sem.run, Question.forced, hf]⟩
   ·exact ⟨_, w.drew, Nat.mod_lt _ (by omega), .inr rfl, by
     simp only [choose, Sem.run, Question.forced, decide_eq_true_eq, hf, if_false, Question.cut]
     rfl⟩
  obtain ⟨j, w1, hj, hal, hrun⟩ := hch
  refine ⟨L[j], by simp, w1, hal, ?_⟩
  have hi1 : w1.heap[b]? = some (.mapIter (some bm) since seen c0) := by rcases hal with rfl | rfl <;> exact hi
  have hset : ∀ (o' : Obj), (setObj b o').run P w1 = .ok () (w1.putObj b o') := fun o' => by
   simp only [setObj, Sem.run, hi1]
   rfl
  simp only [hrun, Array.getElem?_map, Array.getElem?_eq_getElem hj, Option.map_some, Sem.run_bind, hset, Result.andThen]
  rfl

/-- A map over which a range runs: what was there when it began; the stamps of its keys. -/
def okB (P : Program) (k : TypeId) (α : Type) [KeyV α] (β : Value → Nat) (cl : Nat) : List MapEntry → Nat → Prop := fun es clock => okK P k α es clock ∧ clock = cl ∧ ∀ e ∈ es, e.born = β e.key
noncomputable def ko (P : Program) (k : TypeId) {α : Type} [KeyV α] (wv : Nat) (m : α → Option C) (β : Value → Nat) (cl : Nat) : GObj := .map wv (okB P k α β cl) (i3 m)
/-- The stamps of what has come. -/
def i2 {α : Type} [KeyV α] (β : Value → Nat) (done : List α) : Array Nat := (done.map fun x => β (KeyV.kv x)).toArray

section
variable {P : Program} {o : Oper} {st : St} {K : St → Prop} {α : Type} [KeyV α]
/-- A new object that is no cells. -/
theorem uf8 {E : Env} {w : World} {G : Nat → Option GObj} {nx : Nat} (hg : SimG E w G nx) (ob : Obj) (hob : ob.isCells = false) :
  ∃ E', Ev E w E' (w.alloc ob) ∧ SimG E' (w.alloc ob) (ak G nx (.raw 0 ob)) (nx + 1) ∧ R E' (w.alloc ob) (.box nx 0 0) (.pointer (some ⟨w.heap.size, 0, none⟩)) ∧ ∀ n, n < nx → E'.T n = E.T n := by
 have hnx := hg.nx
 have hold : ∀ b, b < w.heap.size → (w.alloc ob).heap[b]? = w.heap[b]? := fun b hb => Below.heap_alloc w _ b hb
 have hnew : (w.alloc ob).heap[w.heap.size]? = some ob := heap_alloc_new w _
 have hTo : ∀ n t, (E.name (.pointer (some ⟨w.heap.size, 0, none⟩))).T n = some t → (n = E.nx ∧ t = (0, 0, .pointer (some ⟨w.heap.size, 0, none⟩))) ∨ E.T n = some t := fun n t ht => by
  simp only [Env.name] at ht
  split at ht
  ·rename_i e; exact .inl ⟨e, by simpa using ht.symm⟩
  ·exact .inr ht
 have hev : Ev E w (E.name (.pointer (some ⟨w.heap.size, 0, none⟩))) (w.alloc ob) := by
  refine ⟨(Below.refl _ _).alloc hg.base _, rfl, fun _ => Nat.le_refl _, fun b i hi => ?_, Nat.le_succ _, fun n hn ver wv val ht => ?_, fun n ver wv wv' val h1 h2 hn => ?_, ?_⟩
  ·have hb : b < w.heap.size := Nat.lt_of_not_le fun hle => by have := hg.fresh b hle; omega
   exact World.cell?_of_block (w := w) (hold b hb)
  ·rcases hTo n _ ht with ⟨e, _⟩ | ht
   ·omega
   ·exact ⟨ver, wv, val, ht, Nat.le_refl _, fun _ => ⟨rfl, fun _ b hb => hold b (hg.tb n ver wv val b ht hb).2⟩⟩
  ·rcases hTo n _ h2 with ⟨e, _⟩ | h2
   ·omega
   ·rw [h1] at h2; simp at h2; omega
  ·refine ⟨rfl, fun b hb => absurd hb (Nat.lt_irrefl _), fun b o ho _ => (hold b (Array.getElem?_eq_some_iff.1 ho).1).trans ho, fun b o ho => ⟨o, (hold b (Array.getElem?_eq_some_iff.1 ho).1).trans ho, rfl⟩, fun n t' b o ht hb ho => ?_, fun n t t' b hn h1 h2 hv _ => ?_⟩
   ·rcases hTo n _ ht with ⟨_, rfl⟩ | ht
    ·simp only [blk, Option.some.injEq] at hb
     subst hb
     have := (Array.getElem?_eq_some_iff.1 ho).1
     omega
    ·exact ⟨t', ht, hb⟩
   ·rcases hTo n _ h2 with ⟨e, _⟩ | h2
    ·omega
    ·rw [h1] at h2; cases h2; omega
 refine ⟨_, hev, ⟨by simp [Env.name, hnx], fun n o ho => ?_, fun n t ht => ?_, fun n ver wv val b ht hb => ?_, fun n m t t' b h1 h2 hne hb => ?_, fun b hb => ?_, ?_⟩, ?_, fun n hn => ?_⟩
 ·simp only [ak] at ho
  split at ho
  ·rename_i en
   subst en
   simp only [Option.some.injEq] at ho
   subst ho
   exact ⟨w.heap.size, by simp [Env.name, hnx], hnew, hob⟩
  ·rename_i en
   refine (hg.obj n o ho).keep hev (by simp only [Env.name]; rw [if_neg (by omega)]) fun ver wv val b h1 h2 => ⟨hold b (hg.tb n ver wv val b h1 h2).2, rfl⟩
 ·rcases hTo n _ ht with ⟨e, _⟩ | ht
  ·simp [Env.name]; omega
  ·have := hg.lt n t ht
   simp [Env.name]; omega
 ·rcases hTo n _ ht with ⟨_, e⟩ | ht
  ·simp only [Prod.mk.injEq] at e
   obtain ⟨rfl, rfl, rfl⟩ := e
   simp only [blk, Option.some.injEq] at hb
   subst hb
   exact ⟨hg.base, by simp⟩
  ·have := hg.tb n ver wv val b ht hb
   exact ⟨this.1, by simp; omega⟩
 ·rcases hTo n _ h1 with ⟨e, rfl⟩ | h1 <;> rcases hTo m _ h2 with ⟨e', rfl⟩ | h2
  ·omega
  ·intro hb'
   simp only [blk, Option.some.injEq] at hb
   subst hb
   have := hg.tb m _ _ _ w.heap.size h2 hb'
   omega
  ·intro hb'
   simp only [blk, Option.some.injEq] at hb'
   subst hb'
   have := hg.tb n _ _ _ w.heap.size h1 hb
   omega
  ·exact hg.ap n m t t' b h1 h2 hne hb
 ·exact hg.fresh b (by simp at hb; omega)
 ·have := hg.base
  simp [Env.name]; omega
 ·refine .box (by simp [Env.name]; omega) fun ver wv val ht => ⟨Nat.zero_le _, fun _ => ?_⟩
  simp only [Env.name] at ht
  rw [if_pos hnx.symm] at ht
  simp only [Option.some.injEq, Prod.mk.injEq] at ht
  rw [← ht.2.2]; rfl
 ·simp only [Env.name]
  rw [if_neg (by omega)]

/-- A fact among the named objects. -/
theorem ubr {E : Env} {w : World} {G : Nat → Option GObj} {nx : Nat} (hg : SimG E w G nx) {v : Value} {c : C} (hr : R E w c v) :
  ∃ E', Ev E w E' w ∧ SimG E' w (ak G nx (.fact v c)) (nx + 1) := by
 refine ⟨_, Ev.name hg undef (fun b o hb => by cases hb), hg.name undef _ (fun b hb => by cases hb) ⟨by simp [Env.name, hg.nx], hr.ev (Ev.name hg undef (fun b o hb => by cases hb))⟩⟩

/-- The stamps of a map's keys. -/
theorem sf {E : Env} {w : World} {k : TypeId} {m : α → Option C} {es : List MapEntry} {clock : Nat} (h : MapOk E w (okK P k α) (i3 m) es clock) (hall : ∀ e ∈ es, e.born < clock) :
  ∃ (β : Value → Nat) (ks : List α), MapOk E w (okB P k α β clock) (i3 m) es clock ∧ ks.Nodup ∧ (∀ x, m x ≠ none ↔ x ∈ ks) ∧ (∀ x ∈ ks, ∀ y ∈ ks, β (KeyV.kv x) = β (KeyV.kv y) → x = y) := by
 classical
 have hkey : ∀ e ∈ es, ∃ x : α, e.key = KeyV.kv x := fun e he => let ⟨x, _, hx, _⟩ := h.ok e he; ⟨x, hx⟩
 let β : Value → Nat := fun v => if hv : ∃ e ∈ es, e.key = v then hv.choose.born else 0
 have hβ : ∀ e ∈ es, e.born = β e.key := fun e he => by
  have hv : ∃ e' ∈ es, e'.key = e.key := ⟨e, he, rfl⟩
  show e.born = if hv : ∃ e' ∈ es, e'.key = e.key then hv.choose.born else 0
  rw [dif_pos hv]
  have h1 := hv.choose_spec
  have : hv.choose = e := Go.entry_eq_of_key h.pw h1.1 he h1.2
  rw [this]
 let f : MapEntry → Option α := fun e => if hx : ∃ x : α, e.key = KeyV.kv x then some hx.choose else none
 have hf : ∀ e ∈ es, ∀ x : α, e.key = KeyV.kv x → f e = some x := fun e he x hx => by
  have h1 : ∃ x : α, e.key = KeyV.kv x := ⟨x, hx⟩
  show (if hx : ∃ x : α, e.key = KeyV.kv x then some hx.choose else none) = some x
  rw [dif_pos h1]
  congr 1
  exact KeyV.inj (h1.choose_spec.symm.trans hx)
 have hmem : ∀ x, x ∈ es.filterMap f ↔ ∃ e ∈ es, e.key = KeyV.kv x := fun x => by
  rw [List.mem_filterMap]
  constructor
  ·rintro ⟨e, he, hx⟩
   obtain ⟨y, hy⟩ := hkey e he
   rw [hf e he y hy] at hx
   cases hx
   exact ⟨e, he, hy⟩
  ·rintro ⟨e, he, hx⟩
   exact ⟨e, he, hf e he x hx⟩
 refine ⟨β, es.filterMap f, ⟨⟨h.ok, rfl, hβ⟩, h.pw, h.pb, h.val, h.has⟩, ?_, fun x => ?_, fun x hx y hy e => ?_⟩
 ·have : ∀ l : List MapEntry, (∀ e ∈ l, e ∈ es) → l.Pairwise (fun a b => a.key ≠ b.key) → (l.filterMap f).Nodup := by
   intro l
   induction l with
   | nil => intro _ _; exact List.nodup_nil
   | cons a l ih =>
    intro hs hp
    obtain ⟨x, hx⟩ := hkey a (hs a (List.mem_cons_self ..))
    rw [List.filterMap_cons_some (hf a (hs a (List.mem_cons_self ..)) x hx), List.nodup_cons]
    rw [List.pairwise_cons] at hp
    refine ⟨fun hm => ?_, ih (fun e he => hs e (List.mem_cons_of_mem _ he)) hp.2⟩
    rw [List.mem_filterMap] at hm
    obtain ⟨e, he, h1⟩ := hm
    obtain ⟨y, hy⟩ := hkey e (hs e (List.mem_cons_of_mem _ he))
    rw [hf e (hs e (List.mem_cons_of_mem _ he)) y hy] at h1
    cases h1
    exact hp.1 e he (hx.trans hy.symm)
  exact this es (fun _ h => h) h.pw
 ·rw [hmem]
  constructor
  ·intro hx
   obtain ⟨c, hc⟩ := Option.ne_none_iff_exists'.1 hx
   exact h.has (KeyV.kv x) c (by rw [g4, hc])
  ·rintro ⟨e, he, hx⟩
   obtain ⟨c, hc, _⟩ := h.val e he
   rw [hx, g4] at hc
   rw [hc]; simp
 ·obtain ⟨e1, h1, k1⟩ := (hmem x).1 hx
  obtain ⟨e2, h2, k2⟩ := (hmem y).1 hy
  have q : e1.born = e2.born := by rw [hβ e1 h1, hβ e2 h2, k1, k2, e]
  have : e1 = e2 := by
   obtain ⟨i, hi⟩ := List.getElem?_of_mem h1
   obtain ⟨j, hj⟩ := List.getElem?_of_mem h2
   rcases Nat.lt_trichotomy i j with hij | hij | hij
   ·exact absurd q (List.pairwise_iff_getElem.1 h.pb i j (List.getElem?_eq_some_iff.1 hi).1 (List.getElem?_eq_some_iff.1 hj).1 hij |> fun hh => by
     rw [(List.getElem?_eq_some_iff.1 hi).2, (List.getElem?_eq_some_iff.1 hj).2] at hh; exact hh)
   ·subst hij; rw [hi] at hj; cases hj; rfl
   ·exact absurd q.symm (List.pairwise_iff_getElem.1 h.pb j i (List.getElem?_eq_some_iff.1 hj).1 (List.getElem?_eq_some_iff.1 hi).1 hij |> fun hh => by
     rw [(List.getElem?_eq_some_iff.1 hi).2, (List.getElem?_eq_some_iff.1 hj).2] at hh; exact hh)
  subst this
  exact KeyV.inj (k1.symm.trans k2)

/-- A map is known better. -/
theorem SimG.remap {E : Env} {w : World} {G : Nat → Option GObj} {nx : Nat} (hg : SimG E w G nx) {n wv : Nat} {ok ok' : List MapEntry → Nat → Prop} {f : Value → Option C} (hG : G n = some (.map wv ok f))
  (h : ∀ es clock, MapOk E w ok f es clock → (∀ r, E.T n = some (0, wv, .map (some r)) → ∀ es', w.heap[r]? = some (.map es' clock) → es'.toList = es → es'.all (·.born < clock) = true → MapOk E w ok' f es clock)) : SimG E w (ak G n (.map wv ok' f)) nx := by
 refine ⟨hg.nx, fun k ob hk => ?_, hg.lt, hg.tb, hg.ap, hg.fresh, hg.base⟩
 simp only [ak] at hk
 split at hk
 ·rename_i e
  subst e
  cases hk
  obtain ⟨r, es, clock, h1, h2, h3, h4⟩ := hg.obj k _ hG
  exact ⟨r, es, clock, h1, h2, h _ _ h3 r h1 es h2 rfl h4, h4⟩
 ·exact hg.obj k ob hk

/-- A range over a map begins. -/
theorem w7 {t k e : TypeId} [MapT P t k e] {x : Operand} {n wv : Nat} {m : α → Option C} (ho : o.op = .range t x) (hx : evC st x = .map n) (hG : st.G n = some (bo P k wv m))
  (h : ∀ (r : Nat) (β : Value → Nat) (cl : Nat) (ks : List α), ks.Nodup → (∀ x, m x ≠ none ↔ x ∈ ks) → (∀ x ∈ ks, ∀ y ∈ ks, β (KeyV.kv x) = β (KeyV.kv y) → x = y) →
   K (St.put { st with G := ak (ak (ak st.G n (ko P k wv m β cl)) st.nx (.raw 0 (.mapIter (some r) cl (i2 β ([] : List α)) cl))) (st.nx + 1) (.fact (.map (some r)) (.map n)), nx := st.nx + 1 + 1 } o.dst (.box st.nx 0 0))) : EStep P o st K := mf fun E w a hs => by
 obtain ⟨r, es, clock, hT, hh, hok, hcl⟩ := hs.g.obj n _ hG
 have e1 := n1 (hx ▸ hs.ev x) hT
 have ht := MapT.spec (P := P) (t := t) (k := k) (e := e)
 have hcl' : ∀ e ∈ es.toList, e.born < clock := fun e he => by simpa using Array.all_eq_true_iff_forall_mem.1 hcl e (by simpa using he)
 obtain ⟨β, ks, hB, q1, q2, q3⟩ := sf hok hcl'
 have hg1 : SimG E w (ak st.G n (ko P k wv m β clock)) st.nx := by
  refine hs.g.remap hG fun es' clock' h3 r' h1 es2 h2 h5 _ => ?_
  rw [hT] at h1
  simp only [Option.some.injEq, Prod.mk.injEq, Value.map.injEq, true_and] at h1
  subst h1
  rw [hh] at h2
  cases h2
  subst h5
  exact hB
 obtain ⟨E1, v1, g1, r1, t1⟩ := uf8 hg1 (.mapIter (some r) clock #[] clock) rfl
 have hlt : n < st.nx := by have := hs.g.lt n _ hT; have := hs.g.nx; omega
 have hT1 : E1.T n = some (0, wv, .map (some r)) := (t1 n hlt).trans hT
 have hmr : R E1 (w.alloc (.mapIter (some r) clock #[] clock)) (.map n) (.map (some r)) := .map (by have := g1.nx; omega) fun ver wv' val hv _ => by
  rw [hT1] at hv; cases hv; rfl
 obtain ⟨E2, v2, g2⟩ := ubr g1 hmr
 refine ⟨.pointer (some ⟨w.heap.size, 0, none⟩), w.alloc (.mapIter (some r) clock #[] clock), E2, _, _, .box st.nx 0 0, ?_, v1.trans v2, r1.ev v2, g2, h r β clock ks q1 q2 q3⟩
 simp [execOp, ho, e1, run_range_map w t k e r es clock ht hh]

theorem seenOf_contains {β : Value → Nat} {done : List α} {b : Nat} : (i2 β done).contains b = true ↔ ∃ x ∈ done, β (KeyV.kv x) = b := by
 simp [i2]

/-- The range goes on, or ends. -/
theorem w8 {k : TypeId} {x : Operand} {i fx n wv wn r cl : Nat} {β : Value → Nat} {m : α → Option C} {ks done : List α} (ho : o.op = .next x false) (hx : evC st x = .box i 0 0) (hI : st.G i = some (.raw wv (.mapIter (some r) cl (i2 β done) cl))) (hF : st.G fx = some (.fact (.map (some r)) (.map n))) (hG : st.G n = some (ko P k wn m β cl))
  (hks : ∀ x, m x ≠ none ↔ x ∈ ks) (hinj : ∀ x ∈ ks, ∀ y ∈ ks, β (KeyV.kv x) = β (KeyV.kv y) → x = y) (hd : ∀ y ∈ done, y ∈ ks)
  (hend : (∀ y ∈ ks, y ∈ done) → K (st.put o.dst (.tup [.v (.bool false)])))
  (hmore : ∀ y c, m y = some c → y ∈ ks → y ∉ done → K (St.put { st with G := ak st.G i (.raw (wv + 1) (.mapIter (some r) cl (i2 β (done ++ [y])) cl)) } o.dst (.tup [.v (.bool true), KeyV.kc y, c]))) : EStep P o st K := fun E w a hs Kr Q hq => by
 obtain ⟨r', es, clock, hT, hh, hok, hcl⟩ := hs.g.obj n _ hG
 obtain ⟨b, hTi, hi, _⟩ := hs.g.obj i _ hI
 have hfact := (hs.g.obj fx _ hF).2
 have hr' : r' = r := by
  have := n1 hfact hT
  simpa using this.symm
 subst hr'
 obtain ⟨hokK, hclk, hβ⟩ := hok.ok
 subst hclk
 have hcl' : ∀ e ∈ es.toList, e.born < clock := fun e he => by simpa using Array.all_eq_true_iff_forall_mem.1 hcl e (by simpa using he)
 have e1 : a.eval x = .pointer (some ⟨b, 0, none⟩) := by
  have hp := hx ▸ hs.ev x
  generalize hv : a.eval x = v at hp
  cases hp with
  | @box _ _ _ b' h1 h2 =>
   have := (h2 _ _ _ hTi).2 rfl
   simp only [blk, Option.some.injEq] at this
   rw [this]
 have hkey : ∀ e ∈ es.toList, ∃ y : α, e.key = KeyV.kv y ∧ y ∈ ks ∧ ∃ c, m y = some c ∧ R E w c e.val ∧ R E w (KeyV.kc y) e.key := fun e he => by
  obtain ⟨y, _, hy, _, hr⟩ := hokK e he
  obtain ⟨c, hc, hrc⟩ := hok.val e he
  rw [hy, g4] at hc
  exact ⟨y, hy, (hks y).1 (by rw [hc]; simp), c, hc, hrc, hr E w⟩
 rcases ufq (P := P) w o.type b r' clock clock (i2 β done) es clock hi hh hcl' (Nat.le_refl _) with ⟨hz, hrun⟩ | ⟨en, hen, w1, hw1, hrun⟩
 ·have hall := all_seen es (i2 β done) hz
  have hex : (execOp a.eval o).run P w = .ok (.value (.tuple #[.bool false])) w := by simp [execOp, ho, e1, hrun]
  unfold Oper.wp
  rw [hex]
  refine hq _ _ _ _ (Ev.refl E w) (hs.put o.dst (c := .tup [.v (.bool false)]) (Rs.cons (.v rfl) Rs.nil).tup) (hend fun y hy => ?_)
  obtain ⟨c, hc⟩ := Option.ne_none_iff_exists'.1 ((hks y).2 hy)
  obtain ⟨e, he, hek⟩ := hok.has (KeyV.kv y) c (by rw [g4, hc])
  obtain ⟨z, hz1, hz2⟩ := seenOf_contains.1 (hall e he)
  rw [hβ e he, hek] at hz2
  exact hinj z (hd z hz1) y hy hz2 ▸ hz1
 ·obtain ⟨hm1, hm2⟩ := mem_left hen
  obtain ⟨y, hy, hyk, c, hc, hrc, hrk⟩ := hkey en hm1
  have hnd : y ∉ done := fun hyd => by
   have : (i2 β done).contains en.born = true := seenOf_contains.2 ⟨y, hyd, by rw [hβ en hm1, hy]⟩
   rw [hm2] at this; cases this
  have hseen : (i2 β done).push en.born = i2 β (done ++ [y]) := by simp [i2, hβ en hm1, hy]
  rw [hseen] at hrun
  have hhe : w1.heap = w.heap := by rcases hw1 with rfl | rfl <;> rfl
  have hblt : b < w1.heap.size := by rw [hhe]; exact (Array.getElem?_eq_some_iff.1 hi).1
  obtain ⟨ob, hob⟩ : ∃ ob, ob = (Obj.mapIter (some r') clock (i2 β (done ++ [y])) clock) := ⟨_, rfl⟩
  rw [← hob] at hrun
  have hnew : (w1.putObj b ob).heap[b]? = some ob := World.putObj_heap_same hblt
  have hoth : ∀ k, k ≠ b → (w1.putObj b ob).heap[k]? = w.heap[k]? := fun k hk => by rw [World.putObj_heap_other hk, hhe]
  have htb := hs.g.tb i _ _ _ b hTi rfl
  have hbel1 : Below E.B w w1 := by
   rcases hw1 with rfl | rfl
   ·exact Below.refl _ _
   ·exact (Below.refl _ _).drew
  have hchg : Chg E w (w1.putObj b ob) 0 wv (.pointer (some ⟨b, 0, none⟩)) 0 (wv + 1) (.pointer (some ⟨b, 0, none⟩)) (E.L b) := by
   refine ⟨⟨hbel1.os, hbel1.tape, hbel1.output, by rw [World.putObj_size, hhe]; exact Nat.le_refl _, fun k hk => hoth k (by omega)⟩, fun k _ hk => hoth k (fun e => hk (by simp [blk, e])), fun b' hb' => .inl ⟨hb', ?_⟩, fun b' j hb' hj => ?_, .inr ⟨rfl, rfl, by omega⟩, fun b' o' hb' ho' => ?_, fun hv => absurd hv (Nat.lt_irrefl _), fun b' hb' hl => ?_⟩
   ·simp only [blk, Option.some.injEq] at hb'; subst hb'; exact Nat.le_refl _
   ·simp only [blk, Option.some.injEq] at hb'; subst hb'
    unfold World.cell?
    dsimp only
    rw [hi, hnew, hob]
   ·simp only [blk, Option.some.injEq] at hb'; subst hb'; rw [hi] at ho'; cases ho'; exact ⟨_, hnew, by rw [hob]; rfl⟩
   ·simp only [blk, Option.some.injEq] at hb'; subst hb'; omega
  have hev := Ev.chg hs.g hTi hchg
  have hobj : ObjOk (E.chg i (0, wv + 1, .pointer (some ⟨b, 0, none⟩)) (E.L b)) (w1.putObj b ob) i (.raw (wv + 1) ob) := ⟨b, by simp [Env.chg], hnew, by rw [hob]; rfl⟩
  have hg := SimG.chg hs.g hTi hchg hobj
  have hex : (execOp a.eval o).run P w = .ok (.value (.tuple #[.bool true, en.key, en.val])) (w1.putObj b ob) := by simp [execOp, ho, e1, hrun]
  unfold Oper.wp
  rw [hex]
  subst hob
  refine hq _ _ _ _ hev ((hs.evd hev hg).put o.dst (c := .tup [.v (.bool true), KeyV.kc y, c]) ((Rs.cons (.v rfl) (Rs.cons (hrk.ev hev) (Rs.cons (hrc.ev hev) Rs.nil))).tup)) (hmore y c hc hyk hnd)

/-- The entry that came last. -/
theorem uw {D : Nat → Prop} {k : TypeId} {x : Operand} {i fx n wv wn r cl : Nat} {β : Value → Nat} {m : α → Option C} {done : List α} {y : α} {c : C} (ho : o.op = .entry x) (hx : evC st x = .box i 0 0) (hI : st.G i = some (.raw wv (.mapIter (some r) cl (i2 β (done ++ [y])) cl))) (hDi : D i) (hF : st.G fx = some (.fact (.map (some r)) (.map n))) (hG : st.G n = some (ko P k wn m β cl)) (hDn : D n)
  (hm : m y = some c) : SStep P D o st (.tup [KeyV.kc y, c]) := fun E w a hs => by
 obtain ⟨r', es, clock, hT, hh, hok, hcl⟩ := hs.g.obj n _ hG
 obtain ⟨b, hTi, hi, _⟩ := hs.g.obj i _ hI
 have hfact := (hs.g.obj fx _ hF).2
 have hr' : r' = r := by
  have := n1 hfact hT
  simpa using this.symm
 subst hr'
 obtain ⟨hokK, hclk, hβ⟩ := hok.ok
 subst hclk
 have e1 : a.eval x = .pointer (some ⟨b, 0, none⟩) := by
  have hp := hx ▸ hs.ev x
  generalize hv : a.eval x = v at hp
  cases hp with
  | @box _ _ _ b' h1 h2 =>
   have := (h2 _ _ _ hTi).2 rfl
   simp only [blk, Option.some.injEq] at this
   rw [this]
 obtain ⟨e, he, hek⟩ := hok.has (KeyV.kv y) c (by rw [g4, hm])
 obtain ⟨y', _, hy', _, hr⟩ := hokK e he
 have hyy : y' = y := KeyV.inj (hy'.symm.trans hek)
 subst hyy
 obtain ⟨c', hc', hrc⟩ := hok.val e he
 rw [hek, g4, hm] at hc'
 cases hc'
 refine ⟨.tuple #[e.key, e.val], (Rs.cons (hr E w) (Rs.cons hrc Rs.nil)).tup, fun w' hk => ?_⟩
 have hb' := (hk.2 n hDn _ _ _ r' hT rfl).trans hh
 have hi' := (hk.2 i hDi _ _ _ b hTi rfl).trans hi
 have hback : (i2 β (done ++ [y'])).back? = some e.born := by
  rw [hβ e he, hek]; simp [i2]
 have hn : (es.toList.map (·.born)).Nodup := List.pairwise_map.2 hok.pb
 have hf : es.find? (·.born == e.born) = some e := by rw [← Array.find?_toList]; exact find_born e es.toList hn he
 simp [execOp, ho, e1, Instr.entry, getObj, Sem.run, hi', hb', hback, hf, Result.andThen]

/-- A map over which a range ran is a map as others. -/
theorem xm {Q : Exit → St → Prop} {c : Code} {k : TypeId} {n wv : Nat} {m : α → Option C} {β : Value → Nat} {cl : Nat} (hG : st.G n = some (ko P k wv m β cl)) (h : AW ρ P c Q { st with G := ak st.G n (bo P k wv m) }) : AW ρ P c Q st := by
 refine xo (st' := { st with G := ak st.G n (bo P k wv m) }) (fun E w a hs => ⟨hs.d, hs.sz, hs.t, hs.g.remap hG fun es clock hk _ _ _ _ _ _ => ?_⟩) h
 exact ⟨hk.ok.1, hk.pw, hk.pb, hk.val, hk.has⟩
/-- A key that is there gets another value while a range runs. -/
theorem ujz [DecidableEq α] {t k e : TypeId} [MapT P t k e] [KeyT P k α] {x i y : Operand} {n wv cl : Nat} {β : Value → Nat} {m m' : α → Option C} (key : α) (hthere : m key ≠ none) (ho : o.op = .mapUpdate t x i y) (hd : o.dst = none) (hx : evC st x = .map n) (hG : st.G n = some (ko P k wv m β cl)) (hi : evC st i = KeyV.kc key) (hm : f7 m key (evC st y) = m')
  (h : K { st with G := ak st.G n (ko P k (wv + 1) m' β cl) }) : EStep P o st K := by
 refine uaj key ho hd hx hG (fun _ _ h => h.1) (fun E w es es' clock clock' hk he hc => ?_) hi hm h
 obtain ⟨c, hc0⟩ := Option.ne_none_iff_exists'.1 hthere
 obtain ⟨e0, h0, h1⟩ := hk.has (KeyV.kv key) c (by rw [g4, hc0])
 obtain ⟨q1, q2, q3⟩ := hk.ok
 refine ⟨fun e h => ?_, (hc ⟨e0, h0, h1⟩).trans q2, fun e h => ?_⟩
 ·rcases he e h with h | h
  ·exact h.1
  ·exact q1 e h.1
 ·rcases he e h with ⟨_, hk1, ⟨e2, h2, k2, b2⟩ | ⟨hno, _⟩⟩ | h
  ·rw [← b2, q3 e2 h2, k2, hk1]
  ·exact absurd h1 (hno e0 h0)
  ·exact q3 e h.1

/-- What the run of a deletion leaves. -/
theorem uj2 [DecidableEq α] {t kt k e : TypeId} [MapT P t k e] [KeyT P k α] {x i : Operand} {n wv : Nat} {m m' : α → Option C} (key : α) (ho : o.op = .call { callee := .builtin .delete, args := #[x, i], argTypes := #[t, kt] }) (hx : evC st x = .map n) (hG : st.G n = some (bo P k wv m)) (hi : evC st i = KeyV.kc key) (hm : rb m key = m')
  (h : K (St.put { st with G := ak st.G n (bo P k (wv + 1) m') } o.dst (.tup []))) : EStep P o st K := fun E w a hs Kr Q hq => by
 subst hm
 obtain ⟨r, es, clock, hT, hh, hok, hcl⟩ := hs.g.obj n _ hG
 have e1 := n1 (hx ▸ hs.ev x) hT
 have hkr := hi ▸ hs.ev i
 have e2 := KeyV.inv hkr
 obtain ⟨kl, hkey⟩ := KeyT.has (P := P) (k := k) hkr
 have ht := MapT.spec (P := P) (t := t) (k := k) (e := e)
 have Kd := KeyT.keyed (P := P) (k := k) (α := α)
 have hk1 : ∀ e ∈ es.toList, ∃ l, keyOf P k e.key = some l := fun e he => let ⟨_, l, _, h, _⟩ := hok.ok e he; ⟨l, h⟩
 obtain ⟨es', hrun, h1, h2, h3⟩ : ∃ es' : Array MapEntry, (Builtin.delete_ #[t, kt] o.type #[.map (some r), KeyV.kv key]).run P w = .ok (.tuple #[]) (ChangeMaps.setBlock w r (.map es' clock)) ∧ es'.toList.Sublist es.toList ∧ (∀ e ∈ es'.toList, e.key ≠ KeyV.kv key) ∧ ∀ e ∈ es.toList, e.key ≠ KeyV.kv key → e ∈ es'.toList := by
  rcases Kd.find w hkey es.toList hk1 with ⟨hf, hn⟩ | ⟨j, e0, hf, hj, hke⟩
  ·exact ⟨es, by simp [Builtin.delete_, run_underlying ht, MapKept.run_getObj_map hh, Kd.check w _ hkey, hf, MapKept.run_setObj_map _ hh, Result.andThen, ChangeMaps.setBlock], List.Sublist.refl _, hn, fun e he _ => he⟩
  ·have hjl : j < es.toList.length := (List.getElem?_eq_some_iff.1 hj).1
   refine ⟨es.eraseIdxIfInBounds j, by simp [Builtin.delete_, run_underlying ht, MapKept.run_getObj_map hh, Kd.check w _ hkey, hf, MapKept.run_setObj_map _ hh, Result.andThen, ChangeMaps.setBlock], ?_, fun e he => ?_, fun e he hne => ?_⟩
   ·rw [Array.toList_eraseIdxIfInBounds]; exact List.eraseIdx_sublist _ _
   ·rw [Array.toList_eraseIdxIfInBounds] at he
    obtain ⟨i, hi, hij, hie⟩ := List.mem_eraseIdx_iff_getElem.1 he
    intro hk
    have hee : e ∈ es.toList := hie ▸ List.getElem_mem hi
    have : e = e0 := Go.entry_eq_of_key hok.pw hee (List.mem_of_getElem? hj) (hk.trans hke.symm)
    have h0 := List.pairwise_iff_getElem.1 hok.pw
    have hjj := (List.getElem?_eq_some_iff.1 hj).2
    rcases Nat.lt_or_gt_of_ne hij with hlt | hlt
    ·exact h0 i j hi hjl hlt (by rw [hie, hjj, this])
    ·exact h0 j i hjl hi hlt (by rw [hie, hjj, this])
   ·rw [Array.toList_eraseIdxIfInBounds]
    obtain ⟨i, hi, hie⟩ := List.getElem_of_mem he
    refine List.mem_eraseIdx_iff_getElem.2 ⟨i, hi, fun hij => hne ?_, hie⟩
    subst hij
    rw [← hie, (List.getElem?_eq_some_iff.1 hj).2]; exact hke
 have hnew : (ChangeMaps.setBlock w r (.map es' clock)).heap[r]? = some (.map es' clock) := ChangeMaps.heap_setBlock_same hh _
 have hchg : Chg E w (ChangeMaps.setBlock w r (.map es' clock)) 0 wv (.map (some r)) 0 (wv + 1) (.map (some r)) (E.L r) := by
  have hbn := hs.g.tb n _ _ _ r hT rfl
  refine ⟨⟨rfl, rfl, rfl, by simp [ChangeMaps.setBlock], fun k hk => pq w r k _ (by omega)⟩, fun k _ hk => pq w r k _ (fun e => hk (by simp [blk, e])), fun b hb => .inl ⟨hb, ?_⟩, fun b i hb hi => ?_, .inr ⟨rfl, rfl, by omega⟩, fun b o hb ho => ?_, fun hv => absurd hv (Nat.lt_irrefl _), fun b hb hl => ?_⟩
  ·simp only [blk, Option.some.injEq] at hb; subst hb; exact Nat.le_refl _
  ·simp only [blk, Option.some.injEq] at hb; subst hb
   simp [World.cell?, hh, hnew]
  ·simp only [blk, Option.some.injEq] at hb; subst hb; rw [hh] at ho; cases ho; exact ⟨_, hnew, rfl⟩
  ·simp only [blk, Option.some.injEq] at hb; subst hb; omega
 have hev := Ev.chg hs.g hT hchg
 have hobj : ObjOk (E.chg n (0, wv + 1, .map (some r)) (E.L r)) (ChangeMaps.setBlock w r (.map es' clock)) n (bo P k (wv + 1) (rb m key)) := by
  have hin : ∀ e ∈ es'.toList, e ∈ es.toList := fun e he => h1.subset he
  refine ⟨r, es', clock, by simp [Env.chg], hnew, ⟨fun e he => hok.ok e (hin e he), hok.pw.sublist h1, hok.pb.sublist h1, fun e he => ?_, fun x c hx => ?_⟩, ?_⟩
  ·obtain ⟨c, hc, hr⟩ := hok.val e (hin e he)
   refine ⟨c, ?_, hr.ev hev⟩
   obtain ⟨y, l, hy, _⟩ := hok.ok e (hin e he)
   rw [hy, g4] at hc ⊢
   have : y ≠ key := fun e2 => h2 e he (by rw [hy, e2])
   simp [rb, this, hc]
  ·by_cases hex : ∃ y : α, x = KeyV.kv y
   ·obtain ⟨y, rfl⟩ := hex
    rw [g4] at hx
    by_cases hyk : y = key
    ·subst hyk; simp [rb] at hx
    ·simp only [rb, hyk, if_false] at hx
     obtain ⟨e, he, hek⟩ := hok.has (KeyV.kv y) c (by rw [g4]; exact hx)
     exact ⟨e, h3 e he (by rw [hek]; exact fun e2 => hyk (KeyV.inj e2)), hek⟩
   ·rw [ou _ hex] at hx; cases hx
  ·refine Array.all_eq_true_iff_forall_mem.2 fun e he => ?_
   exact Array.all_eq_true_iff_forall_mem.1 hcl e (by simpa using hin e (by simpa using he))
 have hg := SimG.chg hs.g hT hchg hobj
 have hex : (execOp a.eval o).run P w = .ok (.value (.tuple #[])) (ChangeMaps.setBlock w r (.map es' clock)) := by simp [execOp, ho, resolve, invoke, builtin, e1, e2, hrun]
 unfold Oper.wp
 rw [hex]
 exact hq _ _ _ _ hev ((hs.evd hev hg).put o.dst (R.undef _ _)) h
end
end Go.AB
namespace Go.AB
open Go Go.RowKit

/-- Cells that are laid stay. -/
def KeepL (E : Env) (W W' : World) : Prop := W.heap.size ≤ W'.heap.size ∧ ∀ b i, i < E.L b → W'.cell? ⟨b, i, none⟩ = W.cell? ⟨b, i, none⟩
/-- What an iterator's call does, in one world. -/
def uc (P : Program) (gf : Nat) (E : Env) (w : World) (lb : List Value) {β : Type} (xs : List β) (encv : β → List Value) : Prop :=
 SeqStopsK (fen none) 2 P gf lb.toArray (fun x : { x // x ∈ xs } => (encv x.1).toArray) (KeepL E) (fun zs => zs.map Subtype.val = xs) (fun pre => pre.map Subtype.val <+: xs) xs.length w
/-- The contract of an iterator's value: what comes, in which order. -/
def umx (P : Program) (gf : Nat) (caps : List C) {β : Type} (xs : List β) (encv : β → List Value) : Prop :=
 ∀ (E : Env) (w : World) (lb : List Value), Rs E w caps lb → (∀ b, w.heap.size ≤ b → E.L b = 0) → uc P gf E w lb xs encv
/-- .. what comes hangs on the world: only a property of it is told. -/
def xw (P : Program) (gf : Nat) (caps : List C) {β : Type} (X : List β → Prop) (encv : β → List Value) : Prop :=
 ∀ (E : Env) (w : World) (lb : List Value), Rs E w caps lb → (∀ b, w.heap.size ≤ b → E.L b = 0) → ∃ xs, X xs ∧ uc P gf E w lb xs encv

/-- The first m named blocks that are no cells lie below B. -/
def NCB (m B : Nat) (E : Env) (W : World) : Prop := ∀ n t b o, n < m → E.T n = some t → blk t.2.2 = some b → W.heap[b]? = some o → o.isCells = false → b < B
/-- What is owned, between two rounds. -/
def OwnW (E : Env) (w : World) (G : Nat → Option GObj) (nx : Nat) (W : World) : Prop := ∃ E1, Ev E w E1 W ∧ SimG E1 W G nx ∧ NCB nx w.heap.size E1 W

theorem SimG.heap {E : Env} {W W' : World} {G : Nat → Option GObj} {nx : Nat} (h : SimG E W G nx) (hcell : ∀ b i, i < E.L b → W'.cell? ⟨b, i, none⟩ = W.cell? ⟨b, i, none⟩) (hblk : ∀ n t b, E.T n = some t → blk t.2.2 = some b → W'.heap[b]? = W.heap[b]?) (hsz : W.heap.size ≤ W'.heap.size) : SimG E W' G nx := by
 have hrs : ∀ {c : List C} {v : List Value}, Rs E W c v → Rs E W' c v := fun hr => hr.same (fun _ => Nat.le_refl _) hcell rfl rfl
 refine ⟨h.nx, fun n o ho => ?_, h.lt, fun n ver wv val b h3 h4 => ?_, h.ap, fun b hb => h.fresh b (Nat.le_trans hsz hb), Nat.le_trans h.base hsz⟩
 ·have hr1 : ∀ {c : C} {v : Value}, R E W c v → R E W' c v := fun hr => hr.same (fun _ => Nat.le_refl _) hcell rfl rfl
  have := h.obj n o ho
  cases o with
  | fact v c => exact ⟨this.1, hr1 this.2⟩
  | raw wv o => obtain ⟨b, q1, q2, q3⟩ := this; exact ⟨b, q1, (hblk n _ b q1 rfl).trans q2, q3⟩
  | map wv ok f =>
   obtain ⟨r, es, clock, q1, q2, q3, q4⟩ := this
   exact ⟨r, es, clock, q1, (hblk n _ r q1 rfl).trans q2, q3.imp fun _ _ _ _ hr => hr1 hr, q4⟩
  | box wv cs =>
   obtain ⟨b, us, tt, q1, q2, q3, q4, q5⟩ := this
   exact ⟨b, us, tt, q1, (hblk n _ b q1 rfl).trans q2, q3, hrs q4, q5⟩
  | arr ver wv tt sz len cs =>
   obtain ⟨val, us, q1, q2, q3, q4, q5, q6⟩ := this
   refine ⟨val, us, q1, ⟨q2.1, ?_⟩, q3, hrs q4, q5, q6⟩
   rcases q2.2 with q2 | ⟨g, cap, cur, rfl, hg, hgg, rest⟩
   ·exact .inl q2
   ·exact .inr ⟨g, cap, cur, rfl, hg, (hblk n _ g q1 rfl).trans hgg, rest⟩
  | tip len tt sz =>
   obtain ⟨val, us, q1, q2, q5, q6⟩ := this
   refine ⟨val, us, q1, ⟨q2.1, ?_⟩, q5, q6⟩
   rcases q2.2 with q2 | ⟨g, cap, cur, rfl, hg, hgg, rest⟩
   ·exact .inl q2
   ·exact .inr ⟨g, cap, cur, rfl, hg, (hblk n _ g q1 rfl).trans hgg, rest⟩
 ·have := h.tb n ver wv val b h3 h4
  exact ⟨this.1, Nat.lt_of_lt_of_le this.2 hsz⟩

theorem ugo {W : World} {b i : Nat} {o : Obj} (h : W.heap[b]? = some o) (hf : o.isCells = false) : W.cell? ⟨b, i, none⟩ = none := by
 unfold World.cell?
 dsimp only
 rw [h]
 cases o <;> first | rfl | cases hf

/-- The turn of a block that is no cells, and that came later. -/
theorem Ev.turn {E E1 : Env} {w W W' : World} {G0 : Nat → Option GObj} {nx0 : Nat} (hs : SimG E w G0 nx0) (hev : Ev E w E1 W) (hfr : ∀ b, W.heap.size ≤ b → E1.L b = 0) {row : Option Nat} (hg : W.grownBy W' row)
  (hr : ∀ r, row = some r → w.heap.size ≤ r ∧ ∃ o : Obj, W.heap[r]? = some o ∧ o.isCells = false) : Ev E w E1 W' ∧ ∀ b i, i < E1.L b → W'.cell? ⟨b, i, none⟩ = W.cell? ⟨b, i, none⟩ := by
 have hsz := hev.below.size
 have hold : ∀ b, b < w.heap.size → W'.heap[b]? = W.heap[b]? := fun b hb => hg.block b (by omega) fun e => by have := (hr b e.symm).1; omega
 have hsame : ∀ (b : Nat) (o : Obj), W.heap[b]? = some o → o.isCells = true → W'.heap[b]? = some o := fun b o ho hc => by
  refine (hg.block b (Array.getElem?_eq_some_iff.1 ho).1 fun e => ?_).trans ho
  obtain ⟨_, o', h1, h2⟩ := hr b e.symm
  rw [ho] at h1; cases h1; rw [hc] at h2; cases h2
 have hcell : ∀ b i, i < E1.L b → W'.cell? ⟨b, i, none⟩ = W.cell? ⟨b, i, none⟩ := fun b i hi => by
  have hlt : b < W.heap.size := Nat.lt_of_not_le fun hle => by have := hfr b hle; omega
  by_cases e : some b = row
  ·obtain ⟨h1, o, h2, h3⟩ := hr b e.symm
   have h4 := hs.fresh b h1
   obtain ⟨v, hv⟩ := hev.x.lc b (by omega)
   rw [ugo h2 h3] at hv; cases hv
  ·exact World.cell?_of_block (w := W) (hg.block b hlt e)
 refine ⟨⟨⟨hg.os.trans hev.below.os, hg.tape.trans hev.below.tape, hg.output.trans hev.below.output, Nat.le_trans hsz hg.size, fun k hk => (hold k (Nat.lt_of_lt_of_le hk hs.base)).trans (hev.below.block k hk)⟩, hev.B, hev.L,
  fun b i hi => (hcell b i (Nat.lt_of_lt_of_le hi (hev.L b))).trans (hev.cell b i hi), hev.nx, fun n hn' ver' wv' val' h3 => ?_, hev.wv,
  ⟨hev.x.F, fun b hb => ?_, fun b o ho hu => (hold b (Array.getElem?_eq_some_iff.1 ho).1).trans (hev.x.oth b o ho hu), fun b o ho => ?_, hev.x.nb, fun n t t' b hn' q1 q2 q3 q4 => ?_⟩⟩, hcell⟩
 ·obtain ⟨ver, wv, val, q1, q2, q3⟩ := hev.T n hn' _ _ _ h3
  exact ⟨ver, wv, val, q1, q2, fun e => ⟨(q3 e).1, fun e2 b hb => (hold b (hs.tb n _ _ _ b q1 hb).2).trans ((q3 e).2 e2 b hb)⟩⟩
 ·obtain ⟨v, hv⟩ := hev.x.lc b hb
  exact ⟨v, (hcell b 0 (by omega)).trans hv⟩
 ·rw [hold b (Array.getElem?_eq_some_iff.1 ho).1]
  exact hev.x.ic b o ho
 ·obtain ⟨o, q5, q6⟩ := hev.x.mv n t t' b hn' q1 q2 q3 q4
  exact ⟨o, hsame b o q5 q6, q6⟩

/-- What is owned abides it. -/
theorem OwnW.turn {E : Env} {w : World} {G0 : Nat → Option GObj} {nx0 : Nat} (hs : SimG E w G0 nx0) {G : Nat → Option GObj} {nx : Nat} {W W' : World} {row : Option Nat} (h : OwnW E w G nx W) (hg : W.grownBy W' row)
  (hr : ∀ r, row = some r → w.heap.size ≤ r ∧ ∃ o : Obj, W.heap[r]? = some o ∧ o.isCells = false) : OwnW E w G nx W' := by
 obtain ⟨E1, hev, hs1, hn⟩ := h
 obtain ⟨hev', hcell⟩ := hev.turn hs hs1.fresh hg hr
 have hnx := hs1.nx
 have hblk : ∀ n t b, E1.T n = some t → blk t.2.2 = some b → W'.heap[b]? = W.heap[b]? := fun n t b ht hb => by
  have hlt := (hs1.tb n t.1 t.2.1 t.2.2 b ht hb).2
  refine hg.block b hlt fun e => ?_
  obtain ⟨h1, o, h2, h3⟩ := hr b e.symm
  have := hn n t b o (hnx ▸ hs1.lt n t ht) ht hb h2 h3
  omega
 exact ⟨E1, hev', hs1.heap hcell hblk hg.size, fun n t b o hm ht hb ho hf => hn n t b o hm ht hb ((hblk n t b ht hb).symm.trans ho) hf⟩
theorem OwnW.put {E : Env} {w : World} {G0 : Nat → Option GObj} {nx0 : Nat} (hs : SimG E w G0 nx0) {G : Nat → Option GObj} {nx : Nat} {W : World} {l : Nat} {o : Obj} (h : OwnW E w G nx W) (hl : w.heap.size ≤ l) (ho : W.heap[l]? = some o) (hf : o.isCells = false) (o' : Obj) : OwnW E w G nx (W.putObj l o') :=
 h.turn hs (grownBy_putObj' W l o') (fun r e => by cases e; exact ⟨hl, o, ho, hf⟩)

theorem NCB.step {m B : Nat} {E1 E2 : Env} {W W' : World} {G1 : Nat → Option GObj} {nx1 : Nat} (hn : NCB m B E1 W) (hm : m ≤ E1.nx) (hs1 : SimG E1 W G1 nx1) (h1 : Ev E1 W E2 W') : NCB m B E2 W' := by
 intro n t b o hlt ht hb ho hf
 obtain ⟨v', wv', val'⟩ := t
 obtain ⟨v, wv, val, q1, q2, q3⟩ := h1.T n (by omega) _ _ _ ht
 by_cases e : v = v'
 ·have hval := (q3 e).1
  subst hval
  have hlt2 := (hs1.tb n v wv val b q1 hb).2
  cases ho0 : W.heap[b]? with
  | none => rw [Array.getElem?_eq_none_iff] at ho0; omega
  | some o0 =>
   obtain ⟨o', h3, h4⟩ := h1.x.ic b o0 ho0
   rw [ho] at h3
   cases h3
   exact hn n _ b o0 hlt q1 hb ho0 (h4.symm.trans hf)
 ·obtain ⟨o2, h3, h4⟩ := h1.x.mv n _ _ b (by omega) q1 ht (by show v < v'; omega) hb
  rw [ho] at h3
  cases h3
  rw [hf] at h4; cases h4

/-- What comes is put into the loop's variables. -/
def qu : List Tmp → List C → St → St
 | p :: ps, c :: cs, st => qu ps cs (st.put (some p) c)
 | _, _, st => st
def qv : List Tmp → List Value → Act → Act
 | p :: ps, v :: vs, a => qv ps vs (a.put (some p) v)
 | _, _, a => a
theorem yr {E : Env} {w : World} : ∀ (ps : List Tmp) {cs : List C} {vs : List Value} {st : St} {a : Act}, Rs E w cs vs → Sim E w st a → Sim E w (qu ps cs st) (qv ps vs a)
 | [], _, _, _, _, _, h => h
 | p :: ps, [], [], _, _, _, h => h
 | p :: ps, c :: cs, v :: vs, _, _, hr, h => yr ps (cs := cs) (vs := vs) ⟨by simpa using hr.1, fun j d x h1 h2 => hr.2 (j + 1) d x (by simpa using h1) (by simpa using h2)⟩ (h.put (some p) (hr.2 0 c v rfl rfl))
 | p :: ps, [], v :: vs, _, _, hr, _ => absurd hr.1 (by simp)
 | p :: ps, c :: cs, [], _, _, hr, _ => absurd hr.1 (by simp)
theorem za : ∀ (ps : List Tmp) (vs : List Value) (a : Act), qv ps vs a = { a with tmps := (ps.zip vs).foldl (fun t p => t.setIfInBounds p.1 p.2) a.tmps }
 | [], _, _ => rfl
 | p :: ps, [], _ => rfl
 | p :: ps, v :: vs, a => by
  simp only [qv, List.zip_cons_cons, List.foldl_cons]
  rw [za ps vs]
  rfl

/-- How a round ends. -/
def mj {β Y : Type} (J : List β → Nat → Option GObj) (IxA : Code → List β → Y → Prop) (Gx : Y → Nat → Option GObj) (zs : List β) (e : Exit) (st : St) : Prop :=
 match e with
 | .normal => ∀ n o, J zs n = some o → st.G n = some o
 | .ret => ∃ y, IxA .ret zs y ∧ ∀ n o, Gx y n = some o → st.G n = some o
 | .exit id => ∃ y, IxA (.exit id) zs y ∧ ∀ n o, Gx y n = some o → st.G n = some o
 | .goto l => ∃ y, IxA (.goto l) zs y ∧ ∀ n o, Gx y n = some o → st.G n = some o
 | _ => False

/-- A range over a function: what is known between rounds hangs on what has come. -/
theorem y8 {E : Env} {w : World} {a : Act} {P : Program} {β Y : Type} {g : Operand} {ps : Array Tmp} {assign body : Code} {Q : Exit → St → Prop} {st : St} {gf : Nat} [Fun P gf] {vs : List Value} {xs : List β} {encv : β → List Value} (cl : β → List C) (pl : List Tmp)
  (J : List β → Nat → Option GObj) (IxA : Code → List β → Y → Prop) (Gx : Y → Nat → Option GObj) (u : β → List (Nat × C)) (hs : Sim E w st a) (it : uc P gf E w vs xs encv)
  (hgv : a.eval g = .func (.func gf) #[] vs.toArray) (hps : ps = pl.toArray) (hlen : ∀ x, (encv x).length = pl.length) (hcl : ∀ x ∈ xs, ∀ E W, Rs E W (cl x) (encv x))
  (hu : ∀ pre x, qu pl (cl x) { st with G := J pre, df := 0 } = { st with r := u x, G := J pre, df := 0 })
  (h0 : ∀ n o, J [] n = some o → st.G n = some o) (hJ : ∀ zs n o, J zs n = some o → st.G n = some o ∨ (n < st.nx ∧ o.low st.nx)) (hGx : ∀ c zs y, IxA c zs y → ∀ n o, Gx y n = some o → st.G n = some o ∨ (n < st.nx ∧ o.low st.nx))
  (round : ∀ l pre x, x ∈ xs → pre.length < xs.length → (∀ y ∈ pre, y ∈ xs) → AW (some l) P assign (l6 (AW (some l) P body (mj J IxA Gx (pre ++ [x]))) fun _ _ => False) { st with r := u x, G := J pre, df := 0 })
  (stop : ∀ c pre y, pre <+: xs → IxA c pre y → AW none P c Q { st with G := Gx y, df := st.df + 1 })
  (done : Q .normal { st with G := J xs, df := st.df + 1 }) : cwp none P (.rangeFunc g ps assign body) (nf E w Q) a w := by
 have hlow : ∀ {G : Nat → Option GObj}, (∀ n o, G n = some o → st.G n = some o ∨ (n < st.nx ∧ o.low st.nx)) → ∀ n o, G n = some o → n < st.nx ∧ o.low st.nx := fun h n o ho => by
  rcases h n o ho with h1 | h1
  ·exact hs.lowG n o h1
  ·exact h1
 have hF : E.F ≤ w.heap.size := hs.d.F
 have hnx := hs.g.nx
 have simAt : ∀ {E1 : Env} {W : World} {G : Nat → Option GObj} {ds : List Deferred} {k : Nat}, Ev E w E1 W → SimG E1 W G st.nx → DefN E1 W k ds → Sim E1 W { st with G := G, df := k } { a with defers := ds } := fun hev hg1 hd =>
  ⟨hd, hs.sz, fun i v hv => (hs.t i v hv).ev hev, hg1⟩
 have marked : ∀ {E1 : Env} {W : World} {D : Nat}, Ev E w E1 W → (∀ n t, E1.T n = some t → n < st.nx) → NCB st.nx w.heap.size E1 W → w.heap.size ≤ D → W.heap[D]? = some (.deferred (some [])) → DefN E1 W (st.df + 1) ({ target := .collected D, args := #[] } :: a.defers) := fun {E1 W D} hev hlt hn hD hK => by
  refine ⟨⟨⟨D, rfl, by rw [hev.x.F]; omega, hK, fun n t ht hb => ?_, ?_⟩, (hs.d.ev hev).1⟩, by simp [hs.d.2]⟩
  ·have := hn n t D _ (hlt n t ht) ht hb hK rfl
   omega
  ·have : ∀ {ds : List Deferred}, DefOk E w ds → ∀ d' ∈ ds, d'.target ≠ .collected D := by
    intro ds
    induction ds with
    | nil => exact fun _ d' h => by cases h
    | cons d ds ih =>
     rintro ⟨⟨D', e', _, h2, _⟩, k⟩ d' hd'
     rcases List.mem_cons.1 hd' with rfl | hd'
     ·rw [e']
      intro e
      simp only [Target.collected.injEq] at e
      have := (Array.getElem?_eq_some_iff.1 h2).1
      omega
     ·exact ih k d' hd'
   exact this hs.d.1
 refine xb (n := 3) (wpIn_rangeFunc fun fn _ => ?_)
 -- the loop's record and the block for deferred calls
 obtain ⟨rc, hrc⟩ : ∃ rc : LoopState → Option Code → Loop, rc = fun s pe => { state := s, pending := pe, fn, tmps := a.tmps, params := ps, assign, body, defers := w.heap.size } := ⟨_, rfl⟩
 obtain ⟨W1, hW1⟩ : ∃ W1, (w.alloc (.deferred (some []))).alloc (.loop (rc .ready none)) = W1 := ⟨_, rfl⟩
 have sz1 : W1.heap.size = w.heap.size + 2 := by rw [← hW1]; simp
 have gr1 : w.grownBy W1 none := by
  refine ⟨by rw [← hW1]; rfl, by rw [← hW1]; rfl, by rw [← hW1]; rfl, by omega, fun k hk _ => ?_⟩
  rw [← hW1, Below.heap_alloc _ _ _ (by simp; omega), Below.heap_alloc _ _ _ hk]
 have recs : W1.heap[w.heap.size + 1]? = some (.loop (rc .ready none)) ∧ W1.heap[w.heap.size]? = some (.deferred (some [])) := by
  rw [← hW1]
  refine ⟨by have := World.alloc_heap_new (w.alloc (.deferred (some []))) (.loop (rc .ready none)); simpa using this, ?_⟩
  rw [Below.heap_alloc _ _ _ (by simp)]
  exact World.alloc_heap_new w _
 have own1 : OwnW E w (J []) st.nx W1 := OwnW.turn hs.g ⟨E, Ev.refl E w, hs.g.weak h0, fun n t b o _ ht hb _ _ => (hs.g.tb n t.1 t.2.1 t.2.2 b ht hb).2⟩ gr1 (fun r e => by cases e)
 refine ⟨w.heap.size + 1, [{ target := .collected w.heap.size, args := #[] }], W1, { target := .fn (.func gf) vs.toArray, args := #[.func (.yield (w.heap.size + 1)) #[] #[]] }, W1, gf, #[.func (.yield (w.heap.size + 1)) #[] #[]] ++ vs.toArray, W1, ?_, ?_, fun _ _ => trivial, ?_, fun e => (by cases e), ?_⟩
 ·rw [← hW1, hrc]; exact run_enterLoop_outer _ _ _ _ _
 ·simp only [resolve, hgv]; simp [go_sem]
 ·simp [invoke, go_sem, uz]
 have below1 : Below w.heap.size w W1 := ⟨gr1.os, gr1.tape, gr1.output, gr1.size, fun k hk => gr1.block k hk (by simp)⟩
 have tame : ∀ {A B : World} {row : Option Nat}, (∀ r, row = some r → W1.heap.size ≤ r ∧ ∃ o : Obj, A.heap[r]? = some o ∧ o.isWalk = true) → ∀ r, row = some r → w.heap.size ≤ r ∧ ∃ o : Obj, A.heap[r]? = some o ∧ o.isCells = false := fun h r e => by
  obtain ⟨h1, o, h2, h3⟩ := h r e
  exact ⟨by omega, o, h2, Obj.not_cells_of_walk h3⟩
 have stays : ∀ {A B : World} {row : Option Nat} {k : Nat} {o : Obj}, A.grownBy B row → (∀ r, row = some r → W1.heap.size ≤ r ∧ ∃ o : Obj, A.heap[r]? = some o ∧ o.isWalk = true) → A.heap[k]? = some o → o.isWalk = false → B.heap[k]? = some o := fun hgr h hk hw =>
  (grownBy_keeps hgr (fun r e => (h r e).2) hk hw).trans hk
 refine (it (w.heap.size + 1)
  (fun zs W => OwnW E w (J (zs.map Subtype.val)) st.nx W ∧ W.heap[w.heap.size + 1]? = some (.loop (rc .ready none)) ∧ W.heap[w.heap.size]? = some (.deferred (some [])))
  (fun zs W => ∃ c y, IxA c (zs.map Subtype.val) y ∧ OwnW E w (Gx y) st.nx W ∧ W.heap[w.heap.size + 1]? = some (.loop (rc .done (some c))) ∧ W.heap[w.heap.size]? = some (.deferred (some [])))
  W1 below1 (fun zs A B row h hgr hr => ⟨h.1.turn hs.g hgr (tame (B := B) hr), stays hgr hr h.2.1 rfl, stays hgr hr h.2.2 rfl⟩)
  (fun zs A B row h hgr hr => let ⟨c, y, h1, h2, h3, h4⟩ := h; ⟨c, y, h1, h2.turn hs.g hgr (tame (B := B) hr), stays hgr hr h3 rfl, stays hgr hr h4 rfl⟩) ?_ ⟨own1, recs⟩).mono ?_
 ·-- a round
  rintro pre x W ⟨⟨E1, hev, hs1, hn⟩, hl, hk⟩ hlen'
  have hE1 : E1.nx = st.nx := hs1.nx
  have unt : ∀ {k : Nat} {o : Obj}, w.heap.size ≤ k → W.heap[k]? = some o → o.isCells = false → ∀ n t, E1.T n = some t → blk t.2.2 ≠ some k := fun {k o} hk' ho hf n t ht hb => by
   have := hn n t k o (hE1 ▸ hs1.lt n t ht) ht hb ho hf
   omega
  have hy := run_yield (P := P) (args := (encv x.1).toArray) hl (by rw [hrc]; simp [hps, hlen])
  rw [hrc] at hy
  refine ⟨fn, _, assign, body, hy, roundIn_of_wpIn trivial ?_⟩
  clear hy
  have ha0 : ({ tmps := (ps.zip (encv x.1).toArray).foldl (fun t (p, v) => t.setIfInBounds p v) a.tmps, defers := [] } : Act) = qv pl (encv x.1) { tmps := a.tmps, defers := [] } := by
   rw [za, hps]
   simp
  have hF1 : E1.F ≤ W.heap.size := by rw [hev.x.F]; exact Nat.le_trans hF hev.below.size
  have hsim := yr pl (hcl x.1 x.2 E1 W) (simAt (ds := []) (k := 0) hev hs1 ⟨hF1, rfl⟩)
  rw [hu] at hsim
  show assign.wpIn (fen (some (w.heap.size + 1))) 1 P _ { tmps := (ps.zip (encv x.1).toArray).foldl (fun t (p, v) => t.setIfInBounds p v) a.tmps, defers := [] } W
  rw [ha0]
  refine wpIn_mono (round (w.heap.size + 1) (pre.map Subtype.val) x.1 x.2 (by simpa using hlen') (fun y hy => by
   obtain ⟨z, _, rfl⟩ := List.mem_map.1 hy
   exact z.2) E1 W _ hsim) ?_
  rintro e a1 Wa ⟨st1, E2, q1, q2, q3⟩
  cases e with
  | normal =>
   have hla := q1.x.oth _ _ hl (unt (by omega) hl rfl)
   have hka := q1.x.oth _ _ hk (unt (Nat.le_refl _) hk rfl)
   have hlta := (Array.getElem?_eq_some_iff.1 hla).1
   refine ⟨_, run_beginRound hla (by rw [hrc]), ?_⟩
   -- the record is busy
   have unt2 : ∀ {k : Nat} {o : Obj}, w.heap.size ≤ k → W.heap[k]? = some o → o.isCells = false → ∀ n t, E2.T n = some t → blk t.2.2 ≠ some k := fun {k o} hk' ho hf n t ht hb => by
    obtain ⟨t0, h1, h2⟩ := q1.x.nb n t k o ht hb ho
    exact unt hk' ho hf n t0 h1 h2
   obtain ⟨Wb, hWb⟩ : ∃ Wb, Wa.putObj (w.heap.size + 1) (.loop { rc .ready none with state := .busy }) = Wb := ⟨_, rfl⟩
   rw [hWb]
   have grb : Wa.grownBy Wb (some (w.heap.size + 1)) := hWb ▸ grownBy_putObj' _ _ _
   have hlb : Wb.heap[w.heap.size + 1]? = some (.loop { rc .ready none with state := .busy }) := hWb ▸ World.putObj_heap_same hlta
   have hkb : Wb.heap[w.heap.size]? = some (.deferred (some [])) := (grb.block _ (Array.getElem?_eq_some_iff.1 hka).1 (by simp)).trans hka
   obtain ⟨evb, hcellb⟩ := (hev.trans q1).turn hs.g q2.g.fresh grb (fun r e => by cases e; exact ⟨by omega, _, hla, rfl⟩)
   have hblkb : ∀ n t b, E2.T n = some t → blk t.2.2 = some b → Wb.heap[b]? = Wa.heap[b]? := fun n t b ht hb => by
    refine grb.block b (q2.g.tb n t.1 t.2.1 t.2.2 b ht hb).2 fun e => ?_
    simp only [Option.some.injEq] at e
    subst e
    exact unt2 (by omega) hl rfl n t ht hb
   have gb := q2.g.heap hcellb hblkb grb.size
   have db : DefN E2 Wb st1.df a1.defers := by
    have : ∀ {ds : List Deferred}, DefOk E2 Wa ds → DefOk E2 Wb ds := by
     intro ds
     induction ds with
     | nil => exact fun h => Nat.le_trans h grb.size
     | cons d ds ih =>
      rintro ⟨⟨D', e', h1, h2, h3, h4⟩, k⟩
      refine ⟨⟨D', e', h1, (grb.block D' (Array.getElem?_eq_some_iff.1 h2).1 fun e => ?_).trans h2, h3, h4⟩, ih k⟩
      simp only [Option.some.injEq] at e
      subst e
      rw [hla] at h2; cases h2
    exact ⟨this q2.d.1, q2.d.2⟩
   have simb : Sim E2 Wb st1 a1 := ⟨db, q2.sz, fun i v hv => (q2.t i v hv).same (fun _ => Nat.le_refl _) hcellb rfl rfl, gb⟩
   have nb2 : NCB st.nx w.heap.size E2 Wb := fun n t b o hm ht hb ho hf => by
    have := hblkb n t b ht hb
    exact hn.step (by omega) hs1 q1 n t b o hm ht hb (this.symm.trans ho) hf
   have hm2 : st.nx ≤ E2.nx := hE1 ▸ q1.nx
   refine wpIn_mono (q3 E2 Wb a1 simb) ?_
   rintro e a3 W3 ⟨st', E3, r1, r2, r3⟩
   have hl3 := r1.x.oth _ _ hlb (unt2 (by omega) hl rfl)
   have hk3 := r1.x.oth _ _ hkb (unt2 (Nat.le_refl _) hk rfl)
   have nb3 := nb2.step hm2 gb r1
   have own : ∀ {Gk : Nat → Option GObj}, (∀ n o, Gk n = some o → st'.G n = some o) → (∀ n o, Gk n = some o → n < st.nx ∧ o.low st.nx) → OwnW E w Gk st.nx W3 := fun {Gk} hsub hlw =>
    ⟨E3.drop st.nx, (evb.trans r1).drop (by omega), (r2.g.weak hsub).drop hlw, fun n t b o hm ht hb ho hf => nb3 n t b o hm (by simp only [Env.drop] at ht; rw [if_pos hm] at ht; exact ht) hb ho hf⟩
   have hmap : (pre ++ [x]).map Subtype.val = pre.map Subtype.val ++ [x.1] := by simp
   -- the end of the round
   have fin : ∀ (jump : Option Code), (Instr.endRound (w.heap.size + 1) jump).run P W3 = .ok (.bool jump.isNone) (W3.putObj (w.heap.size + 1) (.loop (rc (if jump.isNone then .ready else .done) jump))) ∧
     (W3.putObj (w.heap.size + 1) (.loop (rc (if jump.isNone then .ready else .done) jump))).heap[w.heap.size + 1]? = some (.loop (rc (if jump.isNone then .ready else .done) jump)) ∧
     (W3.putObj (w.heap.size + 1) (.loop (rc (if jump.isNone then .ready else .done) jump))).heap[w.heap.size]? = some (.deferred (some [])) := fun jump => by
    refine ⟨?_, World.putObj_heap_same (Array.getElem?_eq_some_iff.1 hl3).1, (World.putObj_heap_other (by omega)).trans hk3⟩
    have := run_endRound (P := P) jump hl3
    rw [hrc] at this ⊢
    exact this
   have keep : ∀ jump, KeepL E W (W3.putObj (w.heap.size + 1) (.loop (rc (if jump.isNone then .ready else .done) jump))) := fun jump => ⟨by
    rw [World.putObj_size]
    exact Nat.le_trans q1.below.size (Nat.le_trans grb.size r1.below.size), fun b i hi => by
    have hne : b ≠ w.heap.size + 1 := fun e => by subst e; rw [hs.g.fresh _ (by omega)] at hi; omega
    refine (World.cell?_of_block (w := W3) (World.putObj_heap_other hne)).trans ?_
    have h1 : i < E1.L b := Nat.lt_of_lt_of_le hi (hev.L b)
    have h2 : i < E2.L b := Nat.lt_of_lt_of_le h1 (q1.L b)
    exact (r1.cell b i h2).trans ((hcellb b i h2).trans (q1.cell b i h1))⟩
   cases e with
   | normal =>
    obtain ⟨h1, h2, h3⟩ := fin none
    refine ⟨_, _, h1, .inl ⟨rfl, ⟨?_, h2, h3⟩, keep none⟩⟩
    rw [hmap]
    exact (own r3 (hlow (hJ _))).put hs.g (by omega) hl3 rfl _
   | ret =>
    obtain ⟨h1, h2, h3⟩ := fin (some .ret)
    obtain ⟨y, k1, k2⟩ := r3
    exact ⟨_, _, h1, .inr ⟨rfl, .ret, y, by rw [hmap]; exact k1, (own k2 (hlow (hGx _ _ y k1))).put hs.g (by omega) hl3 rfl _, h2, h3⟩⟩
   | exit id =>
    obtain ⟨h1, h2, h3⟩ := fin (some (.exit id))
    obtain ⟨y, k1, k2⟩ := r3
    exact ⟨_, _, h1, .inr ⟨rfl, .exit id, y, by rw [hmap]; exact k1, (own k2 (hlow (hGx _ _ y k1))).put hs.g (by omega) hl3 rfl _, h2, h3⟩⟩
   | goto l' =>
    obtain ⟨h1, h2, h3⟩ := fin (some (.goto l'))
    obtain ⟨y, k1, k2⟩ := r3
    exact ⟨_, _, h1, .inr ⟨rfl, .goto l', y, by rw [hmap]; exact k1, (own k2 (hlow (hGx _ _ y k1))).put hs.g (by omega) hl3 rfl _, h2, h3⟩⟩
   | panic c => exact r3.elim
   | outgrown => exact r3.elim
  | _ => exact q3.elim
 ·-- behind the iterator
  rintro e W2 ⟨⟨v, rfl⟩, (⟨zs, hz, hI, hl, hk⟩ | ⟨pre, hz, c, y, hi, hI, hl, hk⟩)⟩
  ·obtain ⟨E1, hev, hs1, hn⟩ := hI.put hs.g (by omega) hl rfl (.loop { rc .ready none with state := .exhausted })
   have hK : (W2.putObj (w.heap.size + 1) (.loop { rc .ready none with state := .exhausted })).heap[w.heap.size]? = some (.deferred (some [])) := (World.putObj_heap_other (by omega)).trans hk
   rw [hz] at hs1
   exact ⟨none, _, by have := run_endLoop (P := P) hl (by rw [hrc]; simp); rw [hrc] at this ⊢; exact this, _, E1, hev, simAt hev hs1 (marked hev (fun n t ht => hs1.nx ▸ hs1.lt n t ht) hn (Nat.le_refl _) hK), done⟩
  ·obtain ⟨E1, hev, hs1, hn⟩ := hI.put hs.g (by omega) hl rfl (.loop { rc .done (some c) with state := .exhausted })
   have hK : (W2.putObj (w.heap.size + 1) (.loop { rc .done (some c) with state := .exhausted })).heap[w.heap.size]? = some (.deferred (some [])) := (World.putObj_heap_other (by omega)).trans hk
   refine ⟨some c, W2.putObj (w.heap.size + 1) (.loop { rc .done (some c) with state := .exhausted }), by rw [run_endLoop (P := P) hl (by rw [hrc]; simp), hrc], ?_⟩
   have h2 := xb (m := 3) (stop c _ y hz hi E1 _ _ (simAt hev hs1 (marked hev (fun n t ht => hs1.nx ▸ hs1.lt n t ht) hn (Nat.le_refl _) hK)))
   exact wpIn_mono h2 fun _ _ _ hq => mu hev hq
theorem una {P : Program} {β Y : Type} {g : Operand} {ps : Array Tmp} {assign body : Code} {Q : Exit → St → Prop} {st : St} {gf : Nat} [Fun P gf] {caps : List C} {xs : List β} {encv : β → List Value} (cl : β → List C) (pl : List Tmp)
  (J : List β → Nat → Option GObj) (IxA : Code → List β → Y → Prop) (Gx : Y → Nat → Option GObj) (u : β → List (Nat × C)) (it : umx P gf caps xs encv)
  (hg : evC st g = .fn (.func gf) caps) (hps : ps = pl.toArray) (hlen : ∀ x, (encv x).length = pl.length) (hcl : ∀ x ∈ xs, ∀ E W, Rs E W (cl x) (encv x))
  (hu : ∀ pre x, qu pl (cl x) { st with G := J pre, df := 0 } = { st with r := u x, G := J pre, df := 0 })
  (h0 : ∀ n o, J [] n = some o → st.G n = some o) (hJ : ∀ zs n o, J zs n = some o → st.G n = some o ∨ (n < st.nx ∧ o.low st.nx)) (hGx : ∀ c zs y, IxA c zs y → ∀ n o, Gx y n = some o → st.G n = some o ∨ (n < st.nx ∧ o.low st.nx))
  (round : ∀ l pre x, x ∈ xs → pre.length < xs.length → (∀ y ∈ pre, y ∈ xs) → AW (some l) P assign (l6 (AW (some l) P body (mj J IxA Gx (pre ++ [x]))) fun _ _ => False) { st with r := u x, G := J pre, df := 0 })
  (stop : ∀ c pre y, pre <+: xs → IxA c pre y → AW none P c Q { st with G := Gx y, df := st.df + 1 })
  (done : Q .normal { st with G := J xs, df := st.df + 1 }) : AW none P (.rangeFunc g ps assign body) Q st := fun E w a hs =>
 let ⟨vs, hgv, hvs⟩ := (hg ▸ hs.ev g).fn_inv
 y8 cl pl J IxA Gx u hs (it E w vs hvs hs.g.fresh) hgv hps hlen hcl hu h0 hJ hGx round stop done
theorem xn {P : Program} {β Y : Type} {g : Operand} {ps : Array Tmp} {assign body : Code} {Q : Exit → St → Prop} {st : St} {gf : Nat} [Fun P gf] {caps : List C} {X : List β → Prop} {encv : β → List Value} (cl : β → List C) (pl : List Tmp)
  (J : List β → Nat → Option GObj) (IxA : Code → List β → Y → Prop) (Gx : Y → Nat → Option GObj) (u : β → List (Nat × C)) (it : xw P gf caps X encv)
  (hg : evC st g = .fn (.func gf) caps) (hps : ps = pl.toArray) (hlen : ∀ x, (encv x).length = pl.length) (hcl : ∀ xs, X xs → ∀ x ∈ xs, ∀ E W, Rs E W (cl x) (encv x))
  (hu : ∀ pre x, qu pl (cl x) { st with G := J pre, df := 0 } = { st with r := u x, G := J pre, df := 0 })
  (h0 : ∀ n o, J [] n = some o → st.G n = some o) (hJ : ∀ zs n o, J zs n = some o → st.G n = some o ∨ (n < st.nx ∧ o.low st.nx)) (hGx : ∀ c zs y, IxA c zs y → ∀ n o, Gx y n = some o → st.G n = some o ∨ (n < st.nx ∧ o.low st.nx))
  (round : ∀ xs, X xs → ∀ l pre x, x ∈ xs → pre.length < xs.length → (∀ y ∈ pre, y ∈ xs) → AW (some l) P assign (l6 (AW (some l) P body (mj J IxA Gx (pre ++ [x]))) fun _ _ => False) { st with r := u x, G := J pre, df := 0 })
  (stop : ∀ xs, X xs → ∀ c pre y, pre <+: xs → IxA c pre y → AW none P c Q { st with G := Gx y, df := st.df + 1 })
  (done : ∀ xs, X xs → Q .normal { st with G := J xs, df := st.df + 1 }) : AW none P (.rangeFunc g ps assign body) Q st := fun E w a hs =>
 let ⟨vs, hgv, hvs⟩ := (hg ▸ hs.ev g).fn_inv
 let ⟨xs, hX, hit⟩ := it E w vs hvs hs.g.fresh
 y8 cl pl J IxA Gx u hs hit hgv hps hlen (hcl xs hX) hu h0 hJ hGx (round xs hX) (stop xs hX) (done xs hX)
end Go.AB
namespace Go.AB
open Go Go.RowKit

/-- Values alone. -/
def exC : C → C
 | .v x => .v x
 | _ => .any
theorem R.ex {E E' : Env} {W W' : World} {c : C} {v : Value} (h : R E W c v) : R E' W' (exC c) v := by
 cases c with
 | v x =>
  have := h.v_inv
  cases h with
  | v h1 => exact .v h1
 | _ => exact .any
def noG : Nat → Option GObj := fun _ => none
def kb (st : St) : St := { n := st.n, l := st.l.map exC, r := st.r.map fun p => (p.1, exC p.2), G := noG, nx := 0, df := st.df }
theorem ubg (l : List C) (r : List (Nat × C)) (i : Nat) : bq (l.map exC) (r.map fun p => (p.1, exC p.2)) i = exC (bq l r i) := by
 induction r with
 | nil =>
  simp only [bq, List.map_nil, List.getD_eq_getElem?_getD, List.getElem?_map]
  cases l[i]? <;> rfl
 | cons p r ih =>
  simp only [bq, List.map_cons]
  cases Nat.beq p.1 i
  ·exact ih
  ·rfl
theorem R.bare {E E' : Env} {W W' : World} (h0 : E.nx = 0) (hL : ∀ b, E.L b ≤ E'.L b) (hc : ∀ b i, i < E.L b → W'.cell? ⟨b, i, none⟩ = W.cell? ⟨b, i, none⟩) {c : C} {x : Value} (hr : R E W c x) : R E' W' c x := by
 induction hr with
 | v hx => exact .v hx
 | list h1 h2 h3 h4 h5 h6 _ z1 z2 h8 ih => exact .list h1 h2 h3 h4 h5 (h6.same hL hc) ih z1 z2 fun n h => by have := (h8 n h).1; omega
 | elem h1 h2 h3 _ ih => exact .elem h1 h2 (h3.same hL hc) ih
 | box h1 h2 => omega
 | arr h1 h2 h3 h4 => omega
 | own h1 h2 h3 h4 => omega
 | fn h1 _ h3 ih => exact .fn h1 ih h3
 | map h1 h2 => omega
 | agg h1 h2 _ h4 ih => exact .agg h1 h2 ih h4
 | tup h1 _ h3 ih => exact .tup h1 ih h3
 | any => exact .any
theorem DefN.imp {E E' : Env} {w : World} (hF : E'.F = E.F) (hT : ∀ n t b, E'.T n = some t → blk t.2.2 = some b → ∃ t0, E.T n = some t0 ∧ blk t0.2.2 = some b)  {n : Nat} {ds : List Deferred} (h : DefN E w n ds) : DefN E' w n ds := by
 refine ⟨?_, h.2⟩
 have := h.1
 clear h
 induction ds with
 | nil => show E'.F ≤ w.heap.size; rw [hF]; exact this
 | cons d ds ih =>
  obtain ⟨⟨D, e, h1, h2, h3, h4⟩, k⟩ := this
  exact ⟨⟨D, e, by rw [hF]; exact h1, h2, fun n t ht hb => let ⟨t0, q1, q2⟩ := hT n t D ht hb; h3 n t0 q1 q2, h4⟩, ih k⟩

/-- What a value is known as, whatever the names. -/
def Known (L : Nat → Nat) (Ws : World) (v : Value) (c : C) : Prop := ∀ (E : Env) (W : World), (∀ b, L b ≤ E.L b) → (∀ b i, i < L b → W.cell? ⟨b, i, none⟩ = Ws.cell? ⟨b, i, none⟩) → R E W c v
theorem Known.of {E : Env} {Ws : World} {v : Value} {c : C} (h0 : E.nx = 0) (h : R E Ws c v) : Known E.L Ws v c := fun _ _ hL hc => h.bare h0 hL hc

def itE (L : Nat → Nat) : Env := ⟨0, L, fun _ => none, 0, 0⟩
def ubs (facts : List (Value × C)) : Nat → Option GObj := fun n => (facts[n]?).map fun p => .fact p.1 p.2

/-- An iterator at work: what lay when it began; what is laid; the two invariants of who asks. -/
structure ItC (β : Type) where
 xs : List β
 encv : β → List Value
 L : Nat → Nat
 Ws : World
 l : Nat
 J : List { x // x ∈ xs } → World → Prop
 Jx : List { x // x ∈ xs } → World → Prop

section
variable {β : Type} (P : Program) (I : ItC β)
structure ItC.Ok : Prop where
 fr : ∀ b, I.Ws.heap.size ≤ b → I.L b = 0
 aJ : AbidesFrom I.Ws.heap.size I.J
 aJx : AbidesFrom I.Ws.heap.size I.Jx
 hY : ∀ (pre : List { x // x ∈ I.xs }) (x : { x // x ∈ I.xs }) (W : World), I.J pre W → pre.length < I.xs.length → YieldAt (fen none) 1 P I.l (I.encv x.1).toArray W fun e W' =>
  (e = .returned (.bool true) ∧ I.J (pre ++ [x]) W' ∧ KeepL (itE I.L) W W') ∨ (e = .returned (.bool false) ∧ I.Jx (pre ++ [x]) W')

/-- The state of an iterator: y.1: no more is asked for; y.2: what has come. -/
def IterS (st : St) (y : Bool × List β) (W : World) (a : Act) : Prop :=
 match y.1 with
 | false => st.df = 0 ∧ Sim (itE I.L) W st a ∧ KeepL (itE I.L) I.Ws W ∧ ∃ pre, pre.map Subtype.val = y.2 ∧ I.J pre W
 | true => st.df = 0 ∧ Sim (itE fun _ => 0) W st a ∧ ∃ pre, pre.map Subtype.val = y.2 ∧ I.Jx pre W
def IW (c : Code) (Q : Exit → St → Bool × List β → Prop) (st : St) (y : Bool × List β) : Prop :=
 ∀ W a, IterS I st y W a → cwp none P c (fun e a' W' => ∃ st' y', IterS I st' y' W' a' ∧ Q e st' y') a W
def udg (K : St → Bool × List β → Prop) (Q : Exit → St → Bool × List β → Prop) : Exit → St → Bool × List β → Prop
 | .normal, st, y => K st y
 | e, st, y => Q e st y
def udh (id : Nat) (Q : Exit → St → Bool × List β → Prop) : Exit → St → Bool × List β → Prop
 | .exit id', st, y => if id' = id then Q .normal st y else Q (.exit id') st y
 | e, st, y => Q e st y
def pk (ops : Array Oper) (K : St → Bool × List β → Prop) (rest : List Oper) (st : St) (y : Bool × List β) : Prop :=
 ∀ W a, IterS I st y W a → ∀ Q : Exit → Act → World → Prop, (∀ a' W' st' y', IterS I st' y' W' a' → K st' y' → Q .normal a' W') → wpListIn (fen none) 1 P ops Q rest a W
end

section
variable {β : Type} {P : Program} {I : ItC β} {Q : Exit → St → Bool × List β → Prop} {st : St} {y : Bool × List β}
theorem v8 (h : Q .normal st y) : IW P I .skip Q st y := fun _ _ hs => wpIn_skip ⟨st, y, hs, h⟩
theorem ua8 {id : Nat} (h : Q (.exit id) st y) : IW P I (.exit id) Q st y := fun _ _ hs => wpIn_exit ⟨st, y, hs, h⟩
theorem uib (h : Q .ret st y) : IW P I .ret Q st y := fun _ _ hs => wpIn_ret ⟨st, y, hs, h⟩
theorem nh {x z : Code} (h : ∀ K : St → Bool × List β → Prop, (∀ st' y', IW P I z Q st' y' → K st' y') → IW P I x (udg K Q) st y) : IW P I (.seq x z) Q st y := by
 intro W a hs
 refine wpIn_seq (wpIn_mono (h _ (fun _ _ h => h) W a hs) ?_)
 rintro e a' W' ⟨st', y', h1, h2⟩
 cases e with
 | normal => exact h2 W' a' h1
 | _ => exact ⟨st', y', h1, h2⟩
theorem tf {id : Nat} {c : Code} (h : IW P I c (udh id Q) st y) : IW P I (.block id c) Q st y := by
 intro W a hs
 refine wpIn_block (wpIn_mono (h W a hs) ?_)
 rintro e a' W' ⟨st', y', h1, h2⟩
 cases e with
 | exit id' =>
  simp only [udh] at h2
  simp only [Exit.inBlock]
  split at h2
  ·rename_i e; rw [if_pos e]; exact ⟨st', y', h1, h2⟩
  ·rename_i e; rw [if_neg e]; exact ⟨st', y', h1, h2⟩
 | _ => exact ⟨st', y', h1, h2⟩
theorem IterS.simE {W : World} {a : Act} (h : IterS I st y W a) : ∃ L, Sim (itE L) W st a := by
 obtain ⟨b, zs⟩ := y
 cases b with
 | false => exact ⟨_, h.2.1⟩
 | true => exact ⟨_, h.2.1⟩
theorem te {c : Operand} {x z : Code} {b : Bool} (hc : evC st c = .v (.bool b)) (ht : b = true → IW P I x Q st y) (hf : b = false → IW P I z Q st y) : IW P I (.cond c x z) Q st y := by
 intro W a hs
 obtain ⟨L, hsim⟩ := hs.simE
 have := (hc ▸ hsim.ev c).v_inv
 exact wpIn_cond_split this (fun e => ht e W a hs) (fun e => hf e W a hs)
theorem IterS.le {st' : St} {W : World} {a : Act} (h : IterS I st y W a) (hdf : st'.df = st.df) (hl : ∀ E, Sim E W st a → Sim E W st' a) : IterS I st' y W a := by
 obtain ⟨b, zs⟩ := y
 cases b with
 | false => exact ⟨hdf.trans h.1, hl _ h.2.1, h.2.2⟩
 | true => exact ⟨hdf.trans h.1, hl _ h.2.1, h.2.2⟩
theorem ua6 {c : Code} (k : Nat) (h : IW P I c Q { st with l := dj st.l st.r 0 k, r := [] } y) : IW P I c Q st y := fun W a hs => h W a (hs.le rfl fun _ hs => hs.wipe k)
theorem ui8 {E : Env} {W : World} {st' : St} {u : List (Nat × C)} {a : Act} (hr : st.r = []) (hb : Back st u st.G st') (hG : st'.G = st.G) (hn : st'.nx = st.nx) (hs : Sim E W st' a) : Sim E W { st with r := u } a := by
 refine ⟨hb.n.2 ▸ hs.d, hs.sz.trans hb.n.1, fun i v hv => ?_, hG ▸ hn ▸ hs.g⟩
 have hcl : bq st.l u i = .any ∨ bq st.l u i = bq st'.l st'.r i := by
  by_cases hi : i < st.l.length
  ·rcases ww _ _ hb.fits i (Nat.zero_le _) (by omega) with h | h
   ·exact .inl h
   ·exact .inr h.symm
  ·rcases wq st.l u i with ⟨p, hp, he, he2⟩ | ⟨_, he⟩
   ·rcases hb.keys with hk | hk
    ·have := vz hk p hp; omega
    ·rcases wu hk p hp with h | h
     ·left; rw [he2, h]
     ·right; rw [he2, ← h, he]
   ·left; rw [he, List.getD_eq_getElem?_getD, List.getElem?_eq_none (by omega)]; rfl
 rcases hcl with h | h
 ·rw [h]; exact .any
 ·rw [h]; exact hs.t i v hv
theorem ua7 {X : Type} {c : Code} (Inv : X → Prop) (μ : X → Nat) (u : X → List (Nat × C)) (yy : X → Bool × List β) (x0 : X) (hr : st.r = []) (h0 : Inv x0) (e0 : pm st.l [] (u x0)) (hy : y = yy x0)
  (round : ∀ x, Inv x → IW P I c (udg (fun st' y' => ∃ x', μ x' < μ x ∧ Inv x' ∧ y' = yy x' ∧ st'.G = st.G ∧ st'.nx = st.nx ∧ Back st (u x') st.G st') Q) { st with r := u x } (yy x)) : IW P I (.loop c) Q st y := by
 intro W a hs
 refine ub9 (fun m a1 W1 => ∃ x, m = μ x ∧ Inv x ∧ IterS I { st with r := u x } (yy x) W1 a1) (μ x0) ⟨x0, rfl, h0, hy ▸ hs.le rfl fun E hs => ?_⟩ ?_
 ·have := le_r (n := st.n) (G := st.G) (nx := st.nx) (df := st.df) e0 rfl E W a (by rw [← hr]; exact hs)
  exact this
 ·rintro m a1 W1 ⟨x, rfl, hI, hs1⟩
  refine wpIn_mono (round x hI W1 a1 hs1) ?_
  rintro e a' W' ⟨st', y', h1, h2⟩
  cases e with
  | normal =>
   obtain ⟨x', h3, h4, rfl, h5, h6, h7⟩ := h2
   exact ⟨μ x', h3, x', rfl, h4, h1.le h7.n.2.symm fun E hs => ui8 hr h7 h5 h6 hs⟩
  | _ => exact ⟨st', y', h1, h2⟩

/-- The abstract state of a stretch of plain code. -/
def lh (st : St) (facts : List (Value × C)) : St := { st with G := ubs facts, nx := facts.length }
def mp (L : Nat → Nat) (n : Nat) (W : World) : Env := ⟨W.heap.size, L, fun k => if k < n then some (0, 0, undef) else none, n, 0⟩
theorem ufi {L : Nat → Nat} {W : World} {a : Act} {facts : List (Value × C)} (hs : Sim (itE L) W st a) (hf : ∀ p ∈ facts, ∀ E : Env, (∀ b, L b ≤ E.L b) → R E W p.2 p.1) : Sim (mp L facts.length W) W (lh st facts) a := by
 have hT : ∀ n t b, (mp L facts.length W).T n = some t → blk t.2.2 = some b → False := fun n t b ht hb => by
  simp only [mp] at ht
  split at ht
  ·simp only [Option.some.injEq] at ht; subst ht; simp [blk, undef] at hb
  ·cases ht
 refine ⟨DefN.imp (E := itE L) (E' := mp L facts.length W) rfl (fun n t b ht hb => (hT n t b ht hb).elim) hs.d, hs.sz, fun i v hv => (hs.t i v hv).bare (E := itE L) (E' := mp L facts.length W) rfl (fun _ => Nat.le_refl _) (fun _ _ _ => rfl), ⟨rfl, fun n o ho => ?_, fun n t ht => ?_, fun n ver wv val b ht hb => (hT n _ b ht hb).elim, fun n m t t' b ht _ _ hb => (hT n t b ht hb).elim, fun b hb => hs.g.fresh b hb, Nat.le_refl _⟩⟩
 ·simp only [lh, ubs, Option.map_eq_some_iff] at ho
  obtain ⟨p, hp, rfl⟩ := ho
  refine ⟨?_, hf p (List.mem_of_getElem? hp) _ (fun _ => Nat.le_refl _)⟩
  simp only [mp]
  rw [if_pos (List.getElem?_eq_some_iff.1 hp).1]
 ·simp only [mp] at ht
  split at ht
  ·assumption
  ·cases ht
theorem ufj {L : Nat → Nat} {W W' : World} {a' : Act} {n : Nat} {E' : Env} {st' : St} (hfr : ∀ b, W.heap.size ≤ b → L b = 0) (hev : Ev (mp L n W) W E' W') (hs : Sim E' W' st' a') : Sim (itE L) W' (kb st') a' ∧ KeepL (itE L) W W' ∧ W.grownBy W' none := by
 have hb := hev.below
 refine ⟨⟨DefN.imp (E := E') (E' := itE L) (hev.x.F).symm (fun n t b ht _ => (by cases ht)) hs.d, hs.sz, fun i v hv => ?_, ⟨rfl, fun n o ho => (by cases ho), fun n t ht => (by cases ht), fun n ver wv val b ht => (by cases ht), fun n m t t' b ht => (by cases ht), fun b h => hfr b (Nat.le_trans hb.size h), Nat.zero_le _⟩⟩, ⟨hb.size, fun b i hi => hev.cell b i hi⟩, ⟨hb.os, hb.tape, hb.output, hb.size, fun k hk _ => hb.block k hk⟩⟩
 simp only [kb]
 rw [ubg]
 exact (hs.t i v hv).ex
theorem KeepL.trans {E : Env} {A B C : World} (h : KeepL E A B) (k : KeepL E B C) : KeepL E A C := ⟨Nat.le_trans h.1 k.1, fun b i hi => (k.2 b i hi).trans (h.2 b i hi)⟩

variable {zs : List β}
/-- A state behind plain code. -/
theorem IterS.back (ok : I.Ok P) {W W' : World} {a a' : Act} {facts : List (Value × C)} {E' : Env} {st' : St} (h : IterS I st (false, zs) W a) (hev : Ev (mp I.L facts.length W) W E' W') (hs : Sim E' W' st' a') (hdf : st'.df = 0) : IterS I (kb st') (false, zs) W' a' := by
 obtain ⟨_, _, hk, pre, h1, h2⟩ := h
 obtain ⟨q1, q2, q3⟩ := ufj (fun b hb => ok.fr b (Nat.le_trans hk.1 hb)) hev hs
 exact ⟨hdf, q1, hk.trans q2, pre, h1, ok.aJ pre W W' none h2 q3 (fun r e => by cases e)⟩
theorem IterS.start {W : World} {a : Act} {facts : List (Value × C)} (h : IterS I st (false, zs) W a) (hf : ∀ p ∈ facts, Known I.L I.Ws p.1 p.2) : Sim (mp I.L facts.length W) W (lh st facts) a :=
 ufi h.2.1 fun p hp E hL => hf p hp E W hL h.2.2.1.2
/-- Plain code. -/
theorem p6 (ok : I.Ok P) {c : Code} (facts : List (Value × C)) (hf : ∀ p ∈ facts, Known I.L I.Ws p.1 p.2) (h : AW none P c (fun e st' => st'.df = 0 ∧ Q e (kb st') (false, zs)) (lh st facts)) : IW P I c Q st (false, zs) := by
 intro W a hs
 refine i6 ?_ (h _ W a (hs.start hf))
 rintro e a' W' ⟨st', E', h1, h2, h3⟩
 exact ⟨_, _, hs.back ok h1 h2 h3.1, h3.2⟩
/-- Two pieces of it. -/
theorem uia (ok : I.Ok P) {x x2 z : Code} (facts : List (Value × C)) (hf : ∀ p ∈ facts, Known I.L I.Ws p.1 p.2)
  (h : AW none P x (l6 (AW none P x2 (l6 (fun st' => st'.df = 0 ∧ IW P I z Q (kb st') (false, zs)) fun _ _ => False)) fun _ _ => False) (lh st facts)) : IW P I (.seq x (.seq x2 z)) Q st (false, zs) := by
 intro W a hs
 refine wpIn_seq (i6 ?_ (h _ W a (hs.start hf)))
 rintro e a1 W1 ⟨st1, E1, h1, h2, h3⟩
 cases e with
 | normal =>
  refine wpIn_seq (i6 ?_ (h3 E1 W1 a1 h2))
  rintro e a2 W2 ⟨st2, E2, q1, q2, q3⟩
  cases e with
  | normal => exact q3.2 W2 a2 (hs.back ok (h1.trans q1) q2 q3.1)
  | _ => exact q3.elim
 | _ => exact h3.elim
theorem uic {id : Nat} {l : List Oper} (h : pk P I l.toArray (Q .normal) l st y) : IW P I (.region id l.toArray false) Q st y := fun W a hs =>
 wpIn_region_lit (h W a hs _ fun a' W' st' y' h1 h2 => ⟨st', y', h1, h2⟩)
variable {ops : Array Oper} {K : St → Bool × List β → Prop} {rest : List Oper} {o : Oper}
theorem uba (h : K st y) : pk P I ops K [] st y := fun W a hs _ hq => wpListIn_nil (hq a W st y hs h)
theorem IterS.put {W : World} {a : Act} (h : IterS I st y W a) (d : Option Tmp) {c : C} {v : Value} (hr : ∀ E, Sim E W st a → R E W c v) : IterS I (st.put d c) y W (a.put d v) := by
 obtain ⟨b, zs⟩ := y
 cases b with
 | false => exact ⟨by cases d <;> exact h.1, h.2.1.put d (hr _ h.2.1), h.2.2⟩
 | true => exact ⟨by cases d <;> exact h.1, h.2.1.put d (hr _ h.2.1), h.2.2⟩
theorem ox {c : C} (hg : gm ops st o = some true) (hq : NStep P o st c) (h : pk P I ops K rest (st.put o.dst c) y) : pk P I ops K (o :: rest) st y := by
 intro W a hs Q hQ
 obtain ⟨L, hsim⟩ := hs.simE
 refine wpListIn_step fun Kr hK => ?_
 rw [if_pos (ll hg hsim)]
 obtain ⟨v, h1, h2⟩ := hq _ W a hsim
 refine u7 (th hg).2 ?_
 unfold Oper.wp
 rw [h2 W]
 refine hK _ _ (h W _ (hs.put o.dst fun E hE => ?_) Q hQ)
 obtain ⟨v', h3, h4⟩ := hq _ W a hE
 have := (h2 W).symm.trans (h4 W)
 simp only [Result.ok.injEq, Next.value.injEq, and_true] at this
 exact this ▸ h3
theorem ufz {n m l : Nat} {P : Program} {f : FuncId} {tmps : Array Value} {assign body : Code} {w : World} {R : Ending → World → Prop} (h : RoundIn (fen none) n P l f tmps assign body w R) : RoundIn (fen none) m P l f tmps assign body w R :=
 ⟨h.1, fun c cs _ => h.2 c cs (fun _ hd => by cases hd)⟩
/-- A call of yield. -/
theorem uig (ok : I.Ok P) {fv : Operand} {args : List Operand} {ats : Array TypeId} {cs : List C} {x : β} (hx : x ∈ I.xs) (hg : gm ops st o = some true) (ho : o.op = .call { callee := .value fv, args := args.toArray, argTypes := ats }) (hf : evC st fv = .v (.func (.yield I.l) #[] #[])) (has : args.map (evC st) = cs)
  (hcs : ∀ E W vs, Rs E W cs vs → vs = I.encv x) (hlen : zs.length < I.xs.length)
  (h1 : pk P I ops K rest (st.put o.dst (.v (.bool true))) (false, zs ++ [x])) (h2 : pk P I ops K rest (kb (st.put o.dst (.v (.bool false)))) (true, zs ++ [x])) : pk P I ops K (o :: rest) st (false, zs) := by
 intro W a hs Q hQ
 have hs0 := hs
 obtain ⟨hdf, hsim, hk, pre, hp, hj⟩ := hs
 have hdef : a.defers = [] := List.eq_nil_of_length_eq_zero (hsim.d.2.trans hdf)
 refine wpListIn_step fun Kr hK => ?_
 rw [if_pos (ll hg hsim)]
 have hfv := (hf ▸ hsim.ev fv).v_inv
 subst has
 have hra : Rs (itE I.L) W (args.map (evC st)) (args.map a.eval) := by
  refine ⟨by simp, fun j c v h1 h2 => ?_⟩
  rw [List.getElem?_map] at h1 h2
  cases hx : args[j]? with
  | none => rw [hx] at h1; cases h1
  | some x =>
   rw [hx] at h1 h2
   simp only [Option.map_some, Option.some.injEq] at h1 h2
   subst h1; subst h2
   exact hsim.ev x
 have hargs := hcs _ _ _ hra
 obtain ⟨fn, tmps, assign, body, hy, hR⟩ := ok.hY pre ⟨x, hx⟩ W hj (by have hl := congrArg List.length hp; rw [List.length_map] at hl; dsimp only at hl; omega)
 refine ⟨fun _ _ => trivial, ?_⟩
 rw [Oper.semAt_eq _ _ _ (th hg).2]
 have hrun : (execOp a.eval o).run P W = .ok (.round I.l fn tmps assign body) W := by
  rw [show (I.encv (⟨x, hx⟩ : { x // x ∈ I.xs }).1).toArray = (args.map a.eval).toArray by rw [hargs]] at hy
  simp only [execOp, ho, resolve, hfv]
  simp [Deferred.ofValue, invoke]
  simpa using hy
 rw [hrun]
 refine ⟨fun e => (by cases e), ufz (hR.mono ?_)⟩
 have hmap : (pre ++ [(⟨x, hx⟩ : { x // x ∈ I.xs })]).map Subtype.val = zs ++ [x] := by rw [List.map_append, hp]; rfl
 rintro e W' (⟨rfl, h3, h4⟩ | ⟨rfl, h3⟩)
 ·refine hK _ _ (h1 W' _ ?_ Q hQ)
  have hs' : Sim (itE I.L) W' st a := by
   refine ⟨⟨?_, hsim.d.2⟩, hsim.sz, fun i v hv => (hsim.t i v hv).bare rfl (fun _ => Nat.le_refl _) h4.2, ⟨hsim.g.nx, fun n o ho => ?_, hsim.g.lt, fun n ver wv val b ht => (by cases ht), hsim.g.ap, fun b hb => hsim.g.fresh b (Nat.le_trans h4.1 hb), Nat.zero_le _⟩⟩
   ·rw [hdef]; exact Nat.zero_le _
   ·have := hsim.g.obj n o ho
    cases o with
    | box => obtain ⟨_, _, _, e, _⟩ := this; cases e
    | arr => obtain ⟨_, _, e, _⟩ := this; cases e
    | tip => obtain ⟨_, _, e, _⟩ := this; cases e
    | fact => cases this.1
    | raw => obtain ⟨_, e, _⟩ := this; cases e
    | map => obtain ⟨_, _, _, e, _⟩ := this; cases e
  refine ⟨by cases o.dst <;> exact hdf, hs'.put _ (.v rfl), hk.trans h4, _, hmap, h3⟩
 ·refine hK _ _ (h2 W' _ ?_ Q hQ)
  have hput := hsim.put o.dst (c := .v (.bool false)) (v := .bool false) (.v rfl)
  refine ⟨by cases o.dst <;> exact hdf, ⟨⟨?_, ?_⟩, hput.sz, fun i v hv => ?_, ⟨rfl, fun n o ho => (by cases ho), fun n t ht => (by cases ht), fun n ver wv val b ht => (by cases ht), fun n m t t' b ht => (by cases ht), fun _ _ => rfl, Nat.zero_le _⟩⟩, _, hmap, h3⟩
  ·show DefOk _ W' (a.put o.dst (.bool false)).defers
   have : (a.put o.dst (.bool false)).defers = [] := by cases o.dst <;> exact hdef
   rw [this]; exact Nat.zero_le _
  ·exact hput.d.2
  ·simp only [kb]
   rw [ubg]
   exact (hput.t i v hv).ex
end
end Go.AB
namespace Go.AB
open Go Go.RowKit

theorem w4 {L : Nat → Nat} {Ws : World} : ∀ p ∈ ([] : List (Value × C)), Known L Ws p.1 p.2 := fun p hp => by cases hp
theorem qb {L : Nat → Nat} {Ws : World} {v : Value} {c : C} {l : List (Value × C)} (h : Known L Ws v c) (k : ∀ p ∈ l, Known L Ws p.1 p.2) : ∀ p ∈ (v, c) :: l, Known L Ws p.1 p.2 := fun p hp => by
 rcases List.mem_cons.1 hp with rfl | hp
 ·exact h
 ·exact k p hp

/-- What an iterator's body must achieve. -/
def ud {β : Type} (xs : List β) : Exit → St → Bool × List β → Prop
 | .normal, _, y | .ret, _, y => (y.1 = false → y.2 = xs) ∧ (y.1 = true → y.2 <+: xs)
 | _, _, _ => False
theorem uiq {β : Type} {xs : List β} {st : St} {zs : List β} (h : zs = xs) : ud xs .normal st (false, zs) := ⟨fun _ => h, fun e => by cases e⟩
theorem uip {β : Type} {xs : List β} {st : St} {zs : List β} (h : zs <+: xs) : ud xs .ret st (true, zs) := ⟨fun e => (by cases e), fun _ => h⟩

theorem uie {β : Type} {P : Program} {gf : Nat} {fn : Func} {c : Code} {caps : List C} {xs : List β} {encv : β → List Value} {E : Env} {w : World} {lb : List Value} (hrs : Rs E w caps lb) (hfr : ∀ b, w.heap.size ≤ b → E.L b = 0) (hf : P.funcs[gf]? = some fn) (hb : fn.body = some c) (hr : fn.results = #[]) (hone : ∀ c ∈ caps, C.one c = true)
  (h : ∀ (W : World) (l : Nat) (J Jx : List { x // x ∈ xs } → World → Prop), Rs E W caps lb → (∀ b i, i < E.L b → W.cell? ⟨b, i, none⟩ = w.cell? ⟨b, i, none⟩) → ItC.Ok P ⟨xs, encv, E.L, W, l, J, Jx⟩ →
   IW P ⟨xs, encv, E.L, W, l, J, Jx⟩ c (ud xs) { n := lb.length + 1 + (fn.ntmps - (lb.length + 1)), l := .v (.func (.yield l) #[] #[]) :: lb.map .v, r := [], G := noG, nx := 0 } (false, [])) : uc P gf E w lb xs encv := by
 intro l J Jx W hbel aJ aJx hY hJ
 have hcell : ∀ b i, i < E.L b → W.cell? ⟨b, i, none⟩ = w.cell? ⟨b, i, none⟩ := fun b i hi => by
  have hlt : b < w.heap.size := Nat.lt_of_not_le fun hle => by have := hfr b hle; omega
  exact World.cell?_of_block (w := w) (hbel.block b hlt)
 have hrs' : Rs E W caps lb := hrs.same (E := E) (E' := E) (fun _ => Nat.le_refl _) hcell rfl rfl
 have hsz := hbel.size
 have ok : ItC.Ok P ⟨xs, encv, E.L, W, l, J, Jx⟩ := ⟨fun b hb => hfr b (Nat.le_trans hsz hb), aJ, aJx, hY⟩
 have hargs : Rs (itE E.L) W (.v (.func (.yield l) #[] #[]) :: lb.map .v) (.func (.yield l) #[] #[] :: lb) := by
  refine ⟨by simp, fun j c v hc hv => ?_⟩
  cases j with
  | zero =>
   simp only [List.getElem?_cons_zero, Option.some.injEq] at hc hv
   subst hc; subst hv
   exact .v rfl
  | succ j =>
   simp only [List.getElem?_cons_succ] at hc hv
   rw [List.getElem?_map, hv] at hc
   simp only [Option.map_some, Option.some.injEq] at hc
   subst hc
   have hlt : j < caps.length := by rw [← hrs'.1]; exact (List.getElem?_eq_some_iff.1 hv).1
   have h1 := hrs'.2 j _ v (List.getElem?_eq_getElem hlt) hv
   have h2 := hone _ (List.getElem_mem hlt)
   refine .v ?_
   generalize caps[j] = cc at h1 h2
   cases h1 with
   | v h => exact h
   | list => rfl
   | elem => rfl
   | box => rfl
   | arr => rfl
   | own => rfl
   | fn => rfl
   | map => rfl
   | agg => cases h2
   | tup => cases h2
   | any => cases h2
 have hg : SimG (itE E.L) W noG 0 := ⟨rfl, fun n o ho => (by cases ho), fun n t ht => (by cases ht), fun n ver wv val b ht => (by cases ht), fun n m t t' b ht => (by cases ht), fun b hb => hfr b (Nat.le_trans hsz hb), Nat.zero_le _⟩
 have hsim := Sim.start hargs hg (Nat.zero_le _) fn.ntmps
 have e1 : (#[.func (.yield l) #[] #[]] ++ lb.toArray : Array Value) = (.func (.yield l) #[] #[] :: lb).toArray := by simp
 rw [e1]
 have hw := h W l J Jx hrs' hcell ok W _ ⟨rfl, by simpa using hsim, ⟨Nat.le_refl _, fun _ _ _ => rfl⟩, [], rfl, hJ⟩
 refine callsIn_of_wp_marks hf hb trivial (wpIn_mono (xb (m := 2) hw) ?_)
 rintro e a' w' ⟨st', ⟨b, zs⟩, hI, hQ⟩
 have fin : (b = false → zs = xs) ∧ (b = true → zs <+: xs) → bodyPostM (fen none) 2 P fn (fun e W' => (∃ v, e = .returned v) ∧ ((∃ zs, zs.map Subtype.val = xs ∧ J zs W') ∨ (∃ pre, pre.map Subtype.val <+: xs ∧ Jx pre W'))) .ret a' w' := by
  rintro ⟨q1, q2⟩
  show LeavesInM (fen none) 2 P fn a'.tmps _ a'.defers .returning w'
  cases b with
  | false =>
   obtain ⟨hdf, hs, hk, pre, hp, hj⟩ := hI
   have hd : a'.defers = [] := List.eq_nil_of_length_eq_zero (hs.d.2.trans hdf)
   rw [hd]
   exact ⟨_, results_none hr _ _ _, ⟨_, rfl⟩, .inl ⟨pre, hp.trans (q1 rfl), hj⟩⟩
  | true =>
   obtain ⟨hdf, hs, pre, hp, hj⟩ := hI
   have hd : a'.defers = [] := List.eq_nil_of_length_eq_zero (hs.d.2.trans hdf)
   rw [hd]
   exact ⟨_, results_none hr _ _ _, ⟨_, rfl⟩, .inr ⟨pre, by rw [hp]; exact q2 rfl, hj⟩⟩
 cases e with
 | normal => exact fin hQ
 | ret => exact fin hQ
 | _ => exact hQ.elim
/-- .. what comes is chosen in the world of the call. -/
theorem uid {β : Type} {P : Program} {gf : Nat} {fn : Func} {c : Code} {caps : List C} {X : List β → Prop} {encv : β → List Value} (hf : P.funcs[gf]? = some fn) (hb : fn.body = some c) (hr : fn.results = #[]) (hone : ∀ c ∈ caps, C.one c = true)
  (h : ∀ (E : Env) (w : World) (lb : List Value), Rs E w caps lb → ∃ xs, X xs ∧ ∀ (W : World) (l : Nat) (J Jx : List { x // x ∈ xs } → World → Prop), (∀ b i, i < E.L b → W.cell? ⟨b, i, none⟩ = w.cell? ⟨b, i, none⟩) → ItC.Ok P ⟨xs, encv, E.L, W, l, J, Jx⟩ →
   IW P ⟨xs, encv, E.L, W, l, J, Jx⟩ c (ud xs) { n := lb.length + 1 + (fn.ntmps - (lb.length + 1)), l := .v (.func (.yield l) #[] #[]) :: lb.map .v, r := [], G := noG, nx := 0 } (false, [])) : xw P gf caps X encv :=
 fun E w lb hrs hfr => let ⟨xs, hX, hk⟩ := h E w lb hrs; ⟨xs, hX, uie hrs hfr hf hb hr hone fun W l J Jx _ h2 ok => hk W l J Jx h2 ok⟩
theorem Known.later {L : Nat → Nat} {w W : World} {v : Value} {c : C} (h : Known L w v c) (hc : ∀ b i, i < L b → W.cell? ⟨b, i, none⟩ = w.cell? ⟨b, i, none⟩) : Known L W v c :=
 fun E W' hL hc' => h E W' hL fun b i hi => (hc' b i hi).trans (hc b i hi)
end Go.AB
namespace Go.AB
open Go Go.RowKit
variable {ρ : Option Nat}

def o8 : List (Nat × Option Nat) → Array Bool → Array Bool
  | [], l => l
  | p :: r, l => o8 r (l.setIfInBounds p.1 true)
def qg (ops : Array Oper) (late N : Nat → Bool) : List (Nat × Option Nat) → Array Bool → Bool
  | [], _ => true
  | (_, some _) :: _, _ => false
  | (i, none) :: rest, listed =>
    ((Region.ready .any ops listed).contains i && Region.free .any ops listed i && (ops[i]?).isSome &&
       (N i || ((List.range ops.size).all fun j => !late j || j == i || nv .any ops ops.size j i))) &&
    qg ops late N rest (listed.setIfInBounds i true)

section
variable {P : Program} {ops : Array Oper} {Q : Exit → Act → World → Prop} {S : World → Prop} {late N : Nat → Bool}
theorem xy (fin : Act → World → Prop) (fuel : Nat) (hs : Region.noSelect ops = true) (hQ : ∀ (o : Option Tmp) (v : Value) c a w, Q (.panic c) (a.put o v) w → Q (.panic c) a w) :
    ∀ (π : List (Nat × Option Nat)) (listed : Array Bool) (a : Act) (w : World), Closed .any ops listed → qg ops late N π listed = true → S w →
      (∀ a, fin a w → jt P .any ops Q S late fuel (o8 π listed) a w) → gv P ops (j6 fin) S late (fun _ => false) N π a w → jt P .any ops Q S late (i7 π + fuel) listed a w := by
  intro π
  induction π with
  | nil =>
    intro listed a w _ _ _ hf h
    have := hf a h
    simpa [i7, o8] using this
  | cons p rest ih =>
    obtain ⟨i, m⟩ := p
    intro listed a w hcl hc hSw hf h
    cases m with
    | some j => simp [qg] at hc
    | none =>
      simp only [qg, Bool.and_eq_true] at hc
      obtain ⟨⟨⟨⟨hready, hfree⟩, hsome⟩, hlate⟩, hc2⟩ := hc
      simp only [gv, Bool.false_eq_true, if_false] at h
      cases ho : ops[i]? with
      | none => rw [ho] at hsome; cases hsome
      | some o =>
        rw [ho] at h
        obtain ⟨v, hy, hrest⟩ := h
        have hi : i ∈ Region.ready .any ops listed := by simpa using hready
        have hrec := ih _ _ _ (hcl.set hi) hc2 hSw hf hrest
        have hp : i7 ((i, none) :: rest) + fuel = i7 rest + fuel + 1 := by simp only [i7]; omega
        rw [hp]
        by_cases hN : N i = true
        · rw [if_pos hN] at hy
          exact r7 (depth := ops.size) (fun _ => True) ho (Region.noSelect_spec hs) (fun c a w => hQ o.dst v c a w) (.inl fun _ => trivial) (i7 rest + fuel) listed a w hcl (Region.free_spec ho hfree) hi hy trivial hrec
        · rw [if_neg hN] at hy
          refine r7 (depth := ops.size) S ho (Region.noSelect_spec hs) (fun c a w => hQ o.dst v c a w) (.inr ⟨rfl, ?_⟩) (i7 rest + fuel) listed a w hcl (Region.free_spec ho hfree) hi hy hSw hrec
          intro j oj hoj hlj hne
          have hlate' := (Bool.or_eq_true _ _ ▸ hlate).resolve_left hN
          rw [List.all_eq_true] at hlate'
          have := hlate' j (List.mem_range.2 (Array.getElem?_eq_some_iff.1 hoj).1)
          simp only [Bool.or_eq_true, Bool.not_eq_true', beq_iff_eq] at this
          rcases this with (h1 | h1) | h1
          · rw [hlj] at h1; cases h1
          · exact absurd h1 hne
          · exact h1
end

section
variable (P : Program) (ol : List Oper) (K : St → Prop) (late : Nat → Bool)
/-- What is left, in whatever order. -/
def l7 (fuel : Nat) (listed : List Bool) (st : St) : Prop :=
  ∀ (E0 : Env) (w0 : World) (Q : Act → World → Prop), (∀ a' w' st' E', Ev E0 w0 E' w' → Sim E' w' st' a' → K st' → Q a' w') →
    ∀ E1 w1 a, Ev E0 w0 E1 w1 → Sim E1 w1 st a → jt P .any ol.toArray (j6 Q) (Keeps E0 (· ∈ ([] : List Nat)) w0) late fuel listed.toArray a w1
/-- One operation, then the rest. -/
def ql (fuel : Nat) (listed : List Bool) (i : Nat) (st : St) : Prop :=
  ∃ o, ol[i]? = some o ∧ ((gm ol.toArray st o = some true ∧ EStep P o st (l7 P ol K late fuel (listed.set i true))) ∨ (gm ol.toArray st o = some false ∧ l7 P ol K late fuel (listed.set i true) (st.put o.dst (.tup []))))
def r5 (fuel : Nat) (listed : List Bool) (st : St) : List Nat → Prop
  | [] => True
  | i :: is => ql P ol K late fuel listed i st ∧ r5 fuel listed st is
end
section
variable {P : Program} {ol : List Oper} {K : St → Prop} {late : Nat → Bool} {fuel : Nat} {listed : List Bool} {st : St} {i : Nat} {is : List Nat} {o : Oper} {c : C}
theorem bj : r5 P ol K late fuel listed st [] := trivial
theorem bc (h : ql P ol K late fuel listed i st) (k : r5 P ol K late fuel listed st is) : r5 P ol K late fuel listed st (i :: is) := ⟨h, k⟩
theorem br (hol : ol[i]? = some o) (hg : gm ol.toArray st o = some true) {listed' : List Bool} (hl : listed.set i true = listed') (h : EStep P o st (l7 P ol K late fuel listed')) : ql P ol K late fuel listed i st :=
  ⟨o, hol, .inl ⟨hg, by rw [hl]; exact h⟩⟩
theorem qi (hol : ol[i]? = some o) (hg : gm ol.toArray st o = some true) {listed' : List Bool} (hl : listed.set i true = listed') (hq : SStep P (fun _ => True) o st c) (h : l7 P ol K late fuel listed' (st.put o.dst c)) : ql P ol K late fuel listed i st :=
  br hol hg hl (hq.e.mono fun _ e => e ▸ h)
theorem l4 (hol : ol[i]? = some o) (hg : gm ol.toArray st o = some false) {listed' : List Bool} (hl : listed.set i true = listed') (h : l7 P ol K late fuel listed' (st.put o.dst (.tup []))) : ql P ol K late fuel listed i st :=
  ⟨o, hol, .inr ⟨hg, by rw [hl]; exact h⟩⟩
theorem gk (hr : (Region.ready .any ol.toArray listed.toArray == []) = true) (h : K st) : l7 P ol K late fuel listed st := by
  intro E0 w0 Q hQ E1 w1 a hev hs
  have hr' : Region.ready .any ol.toArray listed.toArray = [] := by simpa using hr
  have hq := hQ a w1 st E1 hev hs h
  cases fuel with
  | zero => exact ⟨hr', hq⟩
  | succ n => exact ⟨fun _ => hq, fun i hi => by rw [hr'] at hi; cases hi⟩
theorem bk (is : List Nat) (hr : (Region.ready .any ol.toArray listed.toArray == is) = true) (hne : is ≠ []) (h : r5 P ol K late fuel listed st is) : l7 P ol K late (fuel + 1) listed st := by
  intro E0 w0 Q hQ E1 w1 a hev hs
  have hr' : Region.ready .any ol.toArray listed.toArray = is := by simpa using hr
  refine ⟨fun e => absurd (hr'.symm.trans e) hne, fun i hi => ?_⟩
  rw [hr'] at hi
  have hi' : ql P ol K late fuel listed i st := by
    clear hr hr' hne
    induction is with
    | nil => cases hi
    | cons j is ih =>
      rcases List.mem_cons.1 hi with rfl | hi
      · exact h.1
      · exact ih h.2 hi
  obtain ⟨o, hol, hcase⟩ := hi'
  have ho : ol.toArray[i]? = some o := by simpa using hol
  have hset : listed.toArray.setIfInBounds i true = (listed.set i true).toArray := by simp
  refine wpOp_step ho fun Kr hK => ?_
  rcases hcase with ⟨hg, h1⟩ | ⟨hg, h1⟩
  · rw [if_pos (ll hg hs)]
    refine h1 E1 w1 a hs Kr _ fun a' w' st' E' q1 q2 q3 => ?_
    refine hK a' w' ⟨.inr fun hS => ⟨fun b j hj => (q1.cell b j (Nat.lt_of_lt_of_le hj (hev.L b))).trans (hS.1 b j hj), fun n hn => by cases hn⟩, ?_⟩
    rw [hset]
    exact q3 E0 w0 Q hQ E' w' a' (hev.trans q1) q2
  · rw [if_neg (by rw [ll hg hs]; simp)]
    refine hK _ _ ⟨.inr id, ?_⟩
    rw [hset]
    exact h1 E0 w0 Q hQ E1 w1 _ hev (hs.put o.dst (R.undef E1 w1))
/-- A state read as another one. -/
def Tr (st st' : St) : Prop := ∀ E w a, Sim E w st a → ∃ E', Ev E w E' w ∧ Sim E' w st' a
theorem rx {st' : St} (h : Tr st st') (k : l7 P ol K late fuel listed st') : l7 P ol K late fuel listed st := by
  intro E0 w0 Q hQ E1 w1 a hev hs
  obtain ⟨E', q1, q2⟩ := h E1 w1 a hs
  exact k E0 w0 Q hQ E' w1 a (hev.trans q1) q2
theorem qp {i n wv : Nat} {cs : List C} (h0 : st.at i = .box n 0 0) (hG : st.G n = some (.box wv cs)) (hne : cs ≠ []) : Tr st { st with r := (i, .elem cs) :: st.r, G := gu st.G n } := by
  intro E w a hs
  obtain ⟨E', b, hE, hg', hTT, hT, hone, us, h1, h2⟩ := uki hs hG
  have hp := hs.at i
  rw [h0] at hp
  have hl : R E' w (.elem cs) (a.tmps.getD i undef) := by
    generalize hv : a.tmps.getD i undef = v at hp
    cases hp with
    | @box _ _ _ b' q1 q2 =>
      have hb : b' = b := by
        have := (q2 _ _ _ hT).2 rfl
        simp only [blk, Option.some.injEq] at this
        exact this.symm
      subst hb
      exact .elem hne hone (.inr ⟨b', 0, rfl, h1⟩) h2
  have hs2 := hs.evd hE hg'
  refine ⟨E', hE, ⟨hs2.d, hs.sz, fun j v hj => ?_, hg'⟩⟩
  simp only [bq]
  cases hb : Nat.beq i j
  · exact hs2.t j v hj
  · have hij := Nat.eq_of_beq_eq_true hb
    subst hij
    have hv : a.tmps.getD i undef = v := by rw [Array.getD_eq_getD_getElem?, hj]; rfl
    exact hv ▸ hl

theorem la {id : Nat} {l : List Oper} {Q : Exit → St → Prop} (π : List (Nat × Option Nat)) (late N : Nat → Bool) (fuel : Nat) (listed : List Bool) (hm : P.follows .mixedOrders = true)
    (hchk : (q9 l && (Region.noSelect l.toArray && (qg l.toArray late N π (Array.replicate l.toArray.size false) && ((o8 π (Array.replicate l.toArray.size false)).toList == listed && i7 π + fuel == l.toArray.size)))) = true)
    (h : j7 P l.toArray (l7 P l (Q .normal) late fuel listed) [] late (fun _ => false) N π st) : AW ρ P (.region id l.toArray true) Q st := by
  intro E w a hs
  simp only [Bool.and_eq_true, beq_iff_eq] at hchk
  obtain ⟨h0, h1, h2, h3, h4⟩ := hchk
  have hev : Ev E w E w.drew := Ev.same ((Below.refl _ _).drew) rfl
  have hend : o8 π (Array.replicate l.toArray.size false) = listed.toArray := by rw [← h3]
  have key : jt P .any l.toArray (j6 fun a' w' => nf E w Q .normal a' w') (Keeps E (· ∈ ([] : List Nat)) w.drew) late (i7 π + fuel) (Array.replicate l.toArray.size false) a w.drew := by
    refine xy (fun a' w' => jt P .any l.toArray (j6 fun a' w' => nf E w Q .normal a' w') (Keeps E (· ∈ ([] : List Nat)) w.drew) late fuel listed.toArray a' w') fuel h1 (fun _ _ _ _ _ h => h) π _ a w.drew ?_ h2 (Keeps.refl _ _ _) (fun a' h' => by rw [hend]; exact h') ?_
    · intro j o _ hj
      rw [Array.getD_eq_getD_getElem?, Array.getElem?_replicate] at hj
      split at hj <;> simp at hj
    · exact h E w.drew _ (fun a' w' st' E' q1 q2 q3 => q3 E w.drew _ (fun a2 w2 st2 E2 r1 r2 r3 => ⟨st2, E2, hev.trans r1, r2, r3⟩) E' w' a' q1 q2) a hs.drew
  rw [h4] at key
  refine i6 (Q := j6 fun a' w' => nf E w Q .normal a' w') ?_ (uca hm h0 (ue _ _ _ _ key))
  intro e a' w' hq
  cases e with
  | normal => exact hq
  | _ => exact hq.elim
end
/-! ### Quiet operations between what acts -/
def ucf (ops : Array Oper) (listed : Array Bool) : Bool :=
  (List.range ops.size).all fun j => !listed.getD j false || match ops[j]? with
    | some o => o.after.toList.all fun e => !Region.binds .any e || listed.getD e.on false
    | none => true
theorem uko {ops : Array Oper} {listed : Array Bool} (h : ucf ops listed = true) : Closed .any ops listed := by
  intro j o ho hj e he hb
  have hlt := (Array.getElem?_eq_some_iff.1 ho).1
  have := List.all_eq_true.1 h j (List.mem_range.2 hlt)
  simp only [hj, Bool.not_true, Bool.false_or, ho, List.all_eq_true] at this
  have := this e (by simpa using he)
  simpa [hb] using this
section
variable {P : Program} {ops : Array Oper} {Q : Exit → Act → World → Prop}
theorem x6 {S S2 : World → Prop} (hS : ∀ w, S2 w → S w) : ∀ (fuel : Nat) (listed : Array Bool) (a : Act) (w : World), S2 w → jt P .any ops Q S2 (fun _ => false) fuel listed a w → jt P .any ops Q S (fun _ => false) fuel listed a w
  | 0, _, _, _, _, h => h
  | fuel + 1, listed, a, w, hw, h => by
    refine ⟨h.1, fun i hi => wpOp_mono (fun a' w' h' => ?_) (h.2 i hi)⟩
    have h2 := (h'.1.resolve_left (by simp)) hw
    exact ⟨.inr fun _ => hS _ h2, x6 hS fuel _ a' w' h2 h'.2⟩
end
theorem cq {P : Program} {ol : List Oper} {K : St → Prop} {total : Nat} {listed : List Bool} {st : St} (π : List (Nat × Option Nat)) (N : Nat → Bool) (fuel : Nat) (listed' : List Bool)
    (hchk : (ucf ol.toArray listed.toArray && (Region.noSelect ol.toArray && (qg ol.toArray (fun _ => false) N π listed.toArray && ((o8 π listed.toArray).toList == listed' && total == i7 π + fuel)))) = true)
    (h : j7 P ol.toArray (l7 P ol K (fun _ => false) fuel listed') [] (fun _ => false) (fun _ => false) N π st) : l7 P ol K (fun _ => false) total listed st := by
  simp only [Bool.and_eq_true, beq_iff_eq] at hchk
  obtain ⟨h0, h1, h2, h3, h4⟩ := hchk
  subst h4
  intro E0 w0 Q hQ E1 w1 a hev hs
  have hend : o8 π listed.toArray = listed'.toArray := by rw [← h3]
  refine x6 (S2 := Keeps E1 (· ∈ ([] : List Nat)) w1) (fun w' hk => ⟨fun b i hi => (hk.1 b i (Nat.lt_of_lt_of_le hi (hev.L b))).trans (hev.cell b i hi), fun n hn => by cases hn⟩) _ _ _ _ (Keeps.refl _ _ _) ?_
  refine xy (fun a' w' => jt P .any ol.toArray (j6 Q) (Keeps E1 (· ∈ ([] : List Nat)) w1) (fun _ => false) fuel listed'.toArray a' w') fuel h1 (fun _ _ _ _ _ h => h) π _ a w1 (uko h0) h2 (Keeps.refl _ _ _) (fun a' h' => by rw [hend]; exact h') ?_
  exact h E1 w1 _ (fun a' w' st' E' q1 q2 q3 => q3 E1 w1 Q (fun a2 w2 st2 E2 r1 r2 r3 => hQ a2 w2 st2 E2 (hev.trans r1) r2 r3) E' w' a' q1 q2) a hs
end Go.AB
namespace Go.AB
open Go Go.RowKit
open Go.AB.Enc (cells)
variable {ρ : Option Nat}
theorem C.low.mono {m k : Nat} {c : C} (h : c.low m) (hk : m ≤ k) : c.low k := by
 induction h with
 | v => exact .v
 | list _ h2 ih => exact .list ih fun n hn => Nat.lt_of_lt_of_le (h2 n hn) hk
 | elem _ ih => exact .elem ih
 | box h => exact .box (Nat.lt_of_lt_of_le h hk)
 | arr h => exact .arr (Nat.lt_of_lt_of_le h hk)
 | own h => exact .own (Nat.lt_of_lt_of_le h hk)
 | fn _ ih => exact .fn ih
 | map h => exact .map (Nat.lt_of_lt_of_le h hk)
 | agg _ ih => exact .agg ih
 | tup _ ih => exact .tup ih
 | any => exact .any
theorem GObj.low_mono {m k : Nat} {o : GObj} (h : o.low m) (hk : m ≤ k) : o.low k := by
 cases o with
 | box => exact fun c hc => (h c hc).mono hk
 | arr => exact fun c hc => (h c hc).mono hk
 | tip => trivial
 | fact => exact C.low.mono h hk
 | raw => trivial
 | map => exact fun x c hx => (h x c hx).mono hk
theorem SimG.lowG {E : Env} {w : World} {G : Nat → Option GObj} {nx : Nat} (hg : SimG E w G nx) {n : Nat} {o : GObj} (ho : G n = some o) : n < nx ∧ o.low nx := by
 have hnx := hg.nx
 have hlt : ∀ t, E.T n = some t → n < nx := fun t ht => by have := hg.lt n t ht; omega
 have := hg.obj n o ho
 cases o with
 | box => obtain ⟨b, us, tt, h1, _, _, h4, _⟩ := this; exact ⟨hlt _ h1, hnx ▸ h4.low⟩
 | arr => obtain ⟨b, us, h1, _, _, h4, _⟩ := this; exact ⟨hlt _ h1, hnx ▸ h4.low⟩
 | tip => obtain ⟨b, us, h1, _⟩ := this; exact ⟨hlt _ h1, trivial⟩
 | fact => exact ⟨hlt _ this.1, hnx ▸ this.2.low⟩
 | raw => obtain ⟨b, h1, _⟩ := this; exact ⟨hlt _ h1, trivial⟩
 | map wv ok f =>
  obtain ⟨r, es, cl, h1, _, h3, _⟩ := this
  refine ⟨hlt _ h1, fun x c hx => ?_⟩
  obtain ⟨e, he, rfl⟩ := h3.has x c hx
  obtain ⟨c', h4, h5⟩ := h3.val e he
  rw [hx] at h4; cases h4
  exact hnx ▸ h5.low

/-- A contract whose result has new named objects, out of the body's walk. -/
theorem l8 {P : Program} {f : FuncId} {fn : Func} {c : Code} {args : List C} {r : C} {G : Nat → Option GObj} {nx : Nat} (g : Nat → Option GObj) (m : Nat) (hf : P.funcs[f]? = some fn) (hb : fn.body = some c) (hl : r.low m) (hm : nx ≤ m) (hg : (∀ n o, G n = some o → n < nx) → ∀ n o, g n = some o → G n = some o ∨ (n < m ∧ o.low m))
  (h : AW none P c (kx P fn r g m) { n := args.length + (fn.ntmps - args.length), l := args, r := [], G := G, nx := nx }) : PC P f args G nx fun r' G' nx' => r' = r ∧ G' = g ∧ nx' = m := by
 intro E w vs hr hg0
 have key := sl (K := fun r' G' nx' => r' = r ∧ m ≤ nx' ∧ ∀ n o, g n = some o → G' n = some o) hf hb (AW.mono h fun e st hq => by
  cases e with
  | normal => exact ⟨r, hq.1, rfl, hq.2.1, hq.2.2⟩
  | ret => exact ⟨r, hq.1, rfl, hq.2.1, hq.2.2⟩
  | _ => exact hq)
 refine (key E w vs hr hg0).mono ?_
 rintro e w' ⟨r', v, E', G', nx', e1, e2, e3, e4, rfl, e5, e6⟩
 have hnx := hg0.nx
 refine ⟨r', v, E'.drop m, g, m, e1, e2.drop (by omega), e3.drop hl, ?_, rfl, rfl, rfl⟩
 refine (e4.weak e6).drop fun n o ho => ?_
 rcases hg (fun n o ho => (hg0.lowG ho).1) n o ho with h1 | h1
 ·have := hg0.lowG h1
  exact ⟨by omega, GObj.low_mono this.2 hm⟩
 ·exact h1
theorem uj4 {P : Program} {o : Oper} {st : St} {K : St → Prop} {f : FuncId} [Fun P f] {fv : Operand} {args : List Operand} {ats : Array TypeId} {caps as : List C} {r : C} {g : Nat → Option GObj} {m : Nat} (ho : o.op = .call { callee := .value fv, args := args.toArray, argTypes := ats }) (hf : evC st fv = .fn (.func f) caps) (has : args.map (evC st) ++ caps = as)
  (hp : PC P f as st.G st.nx fun r' G' nx' => r' = r ∧ G' = g ∧ nx' = m) (h : K (St.put { st with G := g, nx := m } o.dst r)) : EStep P o st K :=
 rn ho hf has (hp.mono fun r' G' nx' ⟨e1, e2, e3⟩ => by subst e1; subst e2; subst e3; exact h)

/-! ### Reading what is owned -/
/-- So many cells lie in a block. -/
def pc (w : World) (b : Nat) : Nat := match w.heap[b]? with
 | some (.cells us _ _) => us.size
 | _ => 0
theorem uct {w : World} {b j : Nat} {u : Value} (h : w.cell? ⟨b, j, none⟩ = some u) : j < pc w b := by
 unfold World.cell? at h
 unfold pc
 dsimp only at h ⊢
 split at h
 ·rename_i c tt fz e
  rw [e]
  simp only [Option.isSome_none, Bool.false_eq_true, if_false] at h
  exact (Array.getElem?_eq_some_iff.1 h).1
 ·cases h
/-- All that lies in a world is laid. -/
def kw (w : World) : Env := ⟨w.heap.size, fun b => pc w b, fun _ => none, 0, 0⟩
theorem umg (w : World) : SimG (kw w) w noG 0 := by
 refine ⟨rfl, fun n o ho => (by cases ho), fun n t ht => (by cases ht), fun n ver wv val b ht => (by cases ht), fun n m t t' b ht => (by cases ht), fun b hb => ?_, Nat.le_refl _⟩
 show pc w b = 0
 unfold pc
 rw [Array.getElem?_eq_none hb]
/-! ### Own slices are laid for good -/
theorem u6 {E : Env} {w : World} {G : Nat → Option GObj} {nx : Nat} (hg : SimG E w G nx) {α : Type} [Enc α] {n ver wv len sz : Nat} {tt : TypeId} {cs : List C} (xs : List α) (hG : G n = some (.arr ver wv tt sz len cs)) (hsz : sz = Enc.n α) (hcs : cs = co xs) (hlen : len = xs.length) :
  ∃ E', Ev E w E' w ∧ SimG E' w (gu G n) nx ∧ ∀ v, R E w (.own n ver len) v → R E' w (lst xs) v := by
 subst hsz; subst hcs; subst hlen
 obtain ⟨val, us, hT, how, hone, hrs, hL, hpos⟩ := hg.obj n _ hG
 have hE : Ev E w { E with L := fun k => if blk val = some k then us.length else E.L k } w := by
  refine ⟨Below.refl _ _, rfl, fun k => ?_, fun _ _ _ => rfl, Nat.le_refl _, fun n _ ver wv val h => ⟨ver, wv, val, h, Nat.le_refl _, fun _ => ⟨rfl, fun _ _ _ => rfl⟩⟩, fun n ver wv wv' v h h' _ => by rw [show ({ E with L := fun k => if blk val = some k then us.length else E.L k } : Env).T = E.T from rfl, h] at h'; simp at h'; omega, ?_⟩
  ·show E.L k ≤ if blk val = some k then us.length else E.L k
   split
   ·rename_i e; rw [hL k e]; exact Nat.zero_le _
   ·exact Nat.le_refl _
  ·refine ⟨rfl, fun k hk => ?_, fun _ _ h _ => h, fun _ o h => ⟨o, h, rfl⟩, fun _ t _ _ h k _ => ⟨t, h, k⟩, fun n t t' _ _ h1 h2 hv _ => by rw [show ({ E with L := fun k => if blk val = some k then us.length else E.L k } : Env).T = E.T from rfl, h1] at h2; cases h2; omega⟩
   have hk' : E.L k < if blk val = some k then us.length else E.L k := hk
   split at hk'
   ·rename_i e
    have h0 : 0 < us.length := by omega
    exact ⟨us[0], by rw [om how e (by rw [← how.1]; exact h0), List.getElem?_eq_getElem h0]⟩
   ·omega
 refine ⟨_, hE, ⟨hg.nx, fun k o ho => ?_, hg.lt, hg.tb, hg.ap, fun k hk => ?_, hg.base⟩, fun v hr => ?_⟩
 ·have hkn : k ≠ n := fun e => by subst e; simp [gu] at ho
  rw [k7 hkn] at ho
  refine (hg.obj k o ho).keep hE rfl fun ver wv v' b' h1 h2 => ⟨rfl, ?_⟩
  show (if blk val = some b' then us.length else E.L b') = E.L b'
  rw [if_neg (fun e => hg.ap k n _ _ b' h1 hT hkn h2 e)]
 ·show (if blk val = some k then us.length else E.L k) = 0
  rw [if_neg (fun e => by have := (hg.tb n _ _ _ k hT e).2; omega)]
  exact hg.fresh k hk
 ·obtain ⟨rfl, _, a, cap, rfl, hc1, hc2⟩ := sm hr hT how
  have := R.mk_list (E := { E with L := fun k => if blk (.slice a xs.length cap) = some k then us.length else E.L k }) (w := w) (rows := xs.map cells) (a := a) (cap := cap) (sz := Enc.n α) (us := us) (tok := .none) (by simpa using hc1) hc2 hpos (na xs) (fun r hr c hc => by
   obtain ⟨x, _, rfl⟩ := List.mem_map.1 hr
   exact Enc.one x c hc) (hrs.ev hE) (by
   rcases how.2 with ⟨e, h1⟩ | ⟨g, cap', cur, e, _, hh, h1, h2, h3, h4⟩
   ·exact .inl (by rw [List.length_eq_zero_iff] at h1; rw [h1]; rfl)
   ·cases e
    refine .inr ⟨g, 0, rfl, ?_, fun j u hu => ?_⟩
    ·show 0 + us.length ≤ if some g = some g then us.length else E.L g
     rw [if_pos rfl]; omega
    ·rw [Nat.zero_add, om how rfl (by rw [← how.1]; exact (List.getElem?_eq_some_iff.1 hu).1)]
     exact hu) (by simp) (by simp) (by simp)
  rw [List.length_map] at this
  exact this
/-- .. as a temporary holds it. -/
theorem uc5 {P : Program} {Q : Exit → St → Prop} {st : St} {c : Code} {α : Type} [Enc α] (i : Nat) {n ver wv len sz : Nat} {tt : TypeId} {cs : List C} (xs : List α) (h0 : st.at i = .own n ver len) (hG : st.G n = some (.arr ver wv tt sz len cs)) (hsz : sz = Enc.n α) (hcs : cs = co xs) (hlen : len = xs.length) (h : AW ρ P c Q { st with r := (i, lst xs) :: st.r, G := gu st.G n }) : AW ρ P c Q st := by
 intro E w a hs
 obtain ⟨E', hE, hg', hl⟩ := u6 hs.g xs hG hsz hcs hlen
 have hp := hs.at i
 rw [h0] at hp
 have hs2 := hs.evd hE hg'
 refine i6 (fun _ _ _ hq => mu hE hq) (h _ w a ⟨hs.d.ev hE, hs.sz, fun j v hj => ?_, hg'⟩)
 simp only [bq]
 cases hb : Nat.beq i j
 ·exact hs2.t j v hj
 ·have hij := Nat.eq_of_beq_eq_true hb
  subst hij
  have hv : a.tmps.getD i undef = v := by rw [Array.getD_eq_getD_getElem?, hj]; rfl
  exact hl v (hv ▸ hp)
/-- The length of a slice that is known as it is. -/
theorem vk {P : Program} {o : Oper} {st : St} {t : TypeId} {x : Operand} {a : Option Addr} {n cap : Nat} {e : TypeId} [Elt P t e] (ho : o.op = .call { callee := .builtin .len, args := #[x], argTypes := #[t] }) (hx : evC st x = .v (.slice a n cap)) (hn : n ≤ 9223372036854775807) : NStep P o st (.v (.int .i64 (n : Int))) := fun E w ac hs => by
 have e1 := (hx ▸ hs.ev x).v_inv
 generalize hv : ac.eval x = v at e1
 subst e1
 refine ⟨_, .v (j0 ⟨by omega, by omega⟩), fun w' => ?_⟩
 have q1 := Elt.spec (P := P) (t := t) (e := e)
 simp [execOp, ho, hv, resolve, invoke, builtin, Builtin.len_, run_underlying q1, goInt]
section
variable {P : Program} {st : St}
theorem ujo {fn : Func} {r1 r2 r3 : ResultVar} {r s t c1 c2 c3 : C} {G : Nat → Option GObj} {nx : Nat} (hf : fn.results = #[r1, r2, r3]) (h1 : RV P st r1 c1) (h2 : RV P st r2 c2) (h3 : RV P st r3 c3) (hn : nx ≤ st.nx) (hG : ∀ n o, G n = some o → st.G n = some o) (e1 : Wk c1 r) (e2 : Wk c2 s) (e3 : Wk c3 t) : kx P fn (.tup [r, s, t]) G nx .ret st :=
 ⟨uf4 hf (h1.wk e1) (h2.wk e2) (h3.wk e3), hn, hG⟩
theorem ujn {fn : Func} {r1 r2 r3 r4 : ResultVar} {r s t u c1 c2 c3 c4 : C} {G : Nat → Option GObj} {nx : Nat} (hf : fn.results = #[r1, r2, r3, r4]) (h1 : RV P st r1 c1) (h2 : RV P st r2 c2) (h3 : RV P st r3 c3) (h4 : RV P st r4 c4) (hn : nx ≤ st.nx) (hG : ∀ n o, G n = some o → st.G n = some o) (e1 : Wk c1 r) (e2 : Wk c2 s) (e3 : Wk c3 t) (e4 : Wk c4 u) : kx P fn (.tup [r, s, t, u]) G nx .ret st :=
 ⟨uf3 hf (h1.wk e1) (h2.wk e2) (h3.wk e3) (h4.wk e4), hn, hG⟩
theorem w5 {fn : Func} {i j k : Nat} {r1 r2 r3 r1' r2' r3' : C} {G : Nat → Option GObj} {nx : Nat} (hf : fn.results = #[.tmp i, .tmp j, .tmp k]) (h1 : Is (st.at i) r1') (h2 : Is (st.at j) r2') (h3 : Is (st.at k) r3') (hn : nx ≤ st.nx) (hG : ∀ n o, G n = some o → st.G n = some o) (e1 : r1' = r1) (e2 : r2' = r2) (e3 : r3' = r3) : kx P fn (.tup [r1, r2, r3]) G nx .ret st :=
 ujo hf (cj h1) (cj h2) (cj h3) hn hG (Wk.of_eq e1) (Wk.of_eq e2) (Wk.of_eq e3)
theorem ujp {fn : Func} {i j k l : Nat} {r1 r2 r3 r4 r1' r2' r3' r4' : C} {G : Nat → Option GObj} {nx : Nat} (hf : fn.results = #[.tmp i, .tmp j, .tmp k, .tmp l]) (h1 : Is (st.at i) r1') (h2 : Is (st.at j) r2') (h3 : Is (st.at k) r3') (h4 : Is (st.at l) r4') (hn : nx ≤ st.nx) (hG : ∀ n o, G n = some o → st.G n = some o) (e1 : r1' = r1) (e2 : r2' = r2) (e3 : r3' = r3) (e4 : r4' = r4) : kx P fn (.tup [r1, r2, r3, r4]) G nx .ret st :=
 ujn hf (cj h1) (cj h2) (cj h3) (cj h4) hn hG (Wk.of_eq e1) (Wk.of_eq e2) (Wk.of_eq e3) (Wk.of_eq e4)
end
end Go.AB
namespace Go.AB
open Go Go.RowKit
open Go.AB.Enc (cells)
variable {ρ : Option Nat}
def u8s (s : ByteArray) : List U8 := s.data.toList.map fun b => ⟨(b.toNat : Int)⟩
theorem qo (s : ByteArray) : (u8s s).length = s.size := by simp [u8s]
section
variable {P : Program} {o : Oper} {st : St} {K : St → Prop}
theorem uj3 {src dst e : TypeId} [StrT P src] [Elt P dst e] {x : Operand} {s : ByteArray} (he : P.underlying e = some (.int .u8)) (ho : o.op = .convert src dst x) (hx : evC st x = .v (.string s)) (h : K (st.put o.dst (lst (u8s s)))) : EStep P o st K := mf fun E w a hs => by
 have hr := hx ▸ hs.ev x
 have e1 := hr.v_inv
 rw [e1] at hr
 have hsz : s.size ≤ 9223372036854775807 := by
  cases hr with | v h => exact okV_str.1 h
 have hrun := run_bytes_of_string (P := P) w src dst e s StrT.spec Elt.spec he
 have hcap : s.size ≤ grownCap w s.size 0 e := grownCap_ge w _ _ _
 have hcm : grownCap w s.size 0 e ≤ maxLen := grownCap_le_maxLen w _ _ _ (by simpa [maxLen] using hsz)
 generalize hc : grownCap w s.size 0 e = cap at hrun hcap hcm
 obtain ⟨ob, hob⟩ : ∃ ob, ob = Obj.cells (bytesRow s cap) e ((bytesRow s cap).size, (bytesRow s cap).size + 1) := ⟨_, rfl⟩
 rw [← hob] at hrun
 have hcell : ∀ j, (w.drew.alloc ob).cell? ⟨w.heap.size, j, none⟩ = (bytesRow s cap)[j]? := fun j => by
  rw [hob]
  exact World.cell?_alloc_mark w.drew (bytesRow s cap) e _ j
 have hrow : ∀ (j : Nat) (x : U8), (u8s s)[j]? = some x → (bytesRow s cap)[j]? = some (.int .u8 x.v) ∧ okV (.int .u8 x.v) = true := fun j x hj => by
  have hl := (List.getElem?_eq_some_iff.1 hj).1
  rw [qo] at hl
  unfold u8s at hj
  rw [List.getElem?_map, Array.getElem?_toList, Array.getElem?_eq_getElem hl] at hj
  simp only [Option.map_some, Option.some.injEq] at hj
  subst hj
  refine ⟨?_, zo ⟨by simp, by have := (s.data[j] : UInt8).toNat_lt; simp only; omega⟩⟩
  unfold bytesRow
  rw [Array.getElem?_append_left (by simpa using hl), Array.getElem?_map, Array.getElem?_eq_getElem hl]
  rfl
 have hx0 : s.size = 0 ∨ ∃ v, (w.drew.alloc ob).cell? ⟨w.heap.size, 0, none⟩ = some v := by
  rcases Nat.eq_zero_or_pos s.size with h | h
  ·exact .inl h
  ·obtain ⟨x, hx⟩ : ∃ x, (u8s s)[0]? = some x := ⟨_, List.getElem?_eq_getElem (by rw [qo]; exact h)⟩
   exact .inr ⟨_, (hcell 0).trans (hrow 0 x hx).1⟩
 have hev := Ev.laid hs.g (o := ob) s.size (.inr rfl) hx0
 refine ⟨.slice (some ⟨w.heap.size, 0, none⟩) s.size cap, w.drew.alloc ob, _, st.G, st.nx, lst (u8s s), ?_, hev, ?_, SimG.laid hs.g _ (.inr rfl) hx0, h⟩
 ·simp [execOp, ho, e1, hrun]
 ·have := R.mk_list (E := E.lay w.heap.size s.size) (w := w.drew.alloc ob) (rows := (u8s s).map cells) (a := some ⟨w.heap.size, 0, none⟩) (cap := cap) (sz := 1) (us := (u8s s).map fun x => .int .u8 x.v) (tok := .none) (by rw [List.length_map, qo]; exact hcap) hcm (Nat.le_refl _) (fun r hr => by
   obtain ⟨x, _, rfl⟩ := List.mem_map.1 hr; rfl) (fun r hr c hc => by
   obtain ⟨x, _, rfl⟩ := List.mem_map.1 hr
   exact Enc.one x c hc) ⟨by
    have : ∀ l : List U8, ((l.map cells).flatten).length = l.length := fun l => by rw [ka (na l)]; simp [Enc.n]
    rw [this]; simp, fun j c v hc hv => by
    rw [List.getElem?_map] at hv
    cases hj : (u8s s)[j]? with
    | none => rw [hj] at hv; cases hv
    | some x =>
     rw [hj] at hv
     simp only [Option.map_some, Option.some.injEq] at hv
     subst hv
     have h1 := rl (rows := (u8s s).map cells) (s := 1) (k := j) (j := 0) (c := .v (.int .u8 x.v)) (na (u8s s)) (cm hj) rfl
     rw [Nat.mul_one, Nat.add_zero] at h1
     rw [h1] at hc
     cases hc
     exact .v (hrow j x hj).2⟩ (.inr ⟨w.heap.size, 0, rfl, by
    simp only [Env.lay, if_true, List.length_map, qo]; omega, fun j u hu => by
    rw [List.getElem?_map] at hu
    cases hj : (u8s s)[j]? with
    | none => rw [hj] at hu; cases hu
    | some x =>
     rw [hj] at hu
     simp only [Option.map_some, Option.some.injEq] at hu
     subst hu
     rw [Nat.zero_add, hcell j]
     exact (hrow j x hj).1⟩) (by simp) (by simp) (by simp)
  rw [List.length_map, qo] at this
  exact this
end
instance : KeyV Int where
 kv x := .int .i64 x
 kc x := .v (.int .i64 x)
 inv h := h.v_inv
 inj h := by simpa using h
 any h _ _ := by cases h with | v h => exact .v h
theorem rj {E : Env} {w : World} {x : Int} {v : Value} (h : R E w (.v (.int .i64 x)) v) : -9223372036854775808 ≤ x ∧ x ≤ 9223372036854775807 := by
 cases h with | v h => exact zq h
theorem re {x : Int} (h : -9223372036854775808 ≤ x ∧ x ≤ 9223372036854775807) : (Lit.int .i64 x).wf = true := by
 simp [Lit.wf, IntKind.min, IntKind.max, IntKind.signed, IntKind.bits]; omega
/-- What a map has for a key, or nothing. -/
theorem uv {P : Program} {o : Oper} {st : St} {α : Type} [KeyV α] {D : Nat → Prop} {t k e : TypeId} [MapT P t k e] [KeyT P k α] {x i : Operand} {n wv : Nat} {m : α → Option C} {c : C} {z : Value} [Zero P e z] (key : α) (ho : o.op = .lookup t x i false) (hx : evC st x = .map n) (hG : st.G n = some (bo P k wv m)) (hD : D n) (hi : evC st i = KeyV.kc key) (hm : (m key).getD (iw z) = c) : SStep P D o st c := by
 subst hm
 exact ufn key ho hx hG hD hi rfl
theorem gg {P : Program} {α : Type} [KeyV α] {k : TypeId} {wv n : Nat} {m : α → Option C} (h : ∀ x c, m x = some c → C.low n c) : (bo P k wv m).low n := by
 intro x c hx
 by_cases hex : ∃ y : α, x = KeyV.kv y
 ·obtain ⟨y, rfl⟩ := hex
  rw [g4] at hx
  exact h y c hx
 ·rw [ou _ hex] at hx; cases hx
theorem p7 {P : Program} {α : Type} [KeyV α] {k : TypeId} {wv n cl : Nat} {β : Value → Nat} {m : α → Option C} (h : ∀ x c, m x = some c → C.low n c) : (ko P k wv m β cl).low n := by
 intro x c hx
 by_cases hex : ∃ y : α, x = KeyV.kv y
 ·obtain ⟨y, rfl⟩ := hex
  rw [g4] at hx
  exact h y c hx
 ·rw [ou _ hex] at hx; cases hx
theorem nt {P : Program} {o : Oper} {st : St} {α : Type} [KeyV α] {D : Nat → Prop} {t k e : TypeId} [MapT P t k e] [KeyT P k α] {x i : Operand} {n wv : Nat} {m : α → Option C} {c : C} {b : Bool} {z : Value} [Zero P e z] (key : α) (ho : o.op = .lookup t x i true) (hx : evC st x = .map n) (hG : st.G n = some (bo P k wv m)) (hD : D n) (hi : evC st i = KeyV.kc key) (hm : (m key).getD (iw z) = c) (hb : (m key).isSome = b) : SStep P D o st (.tup [c, .v (.bool b)]) := by
 subst hm; subst hb
 exact ufm key ho hx hG hD hi rfl
/-- A contract whose result has new named objects, told up to something of the run. -/
theorem pu {Y : Type} {P : Program} {f : FuncId} {fn : Func} {c : Code} {args : List C} {r : C} {G : Nat → Option GObj} {nx : Nat} (g : Y → Nat → Option GObj) (m : Nat) (hf : P.funcs[f]? = some fn) (hb : fn.body = some c) (hl : r.low m) (hm : nx ≤ m) (hg : (∀ n o, G n = some o → n < nx) → ∀ y n o, g y n = some o → G n = some o ∨ (n < m ∧ o.low m))
  (h : AW none P c (fun e st => ∃ y, kx P fn r (g y) m e st) { n := args.length + (fn.ntmps - args.length), l := args, r := [], G := G, nx := nx }) : PC P f args G nx fun r' G' nx' => ∃ y, r' = r ∧ G' = g y ∧ nx' = m := by
 intro E w vs hr hg0
 have key := sl (K := fun r' G' nx' => ∃ y, r' = r ∧ m ≤ nx' ∧ ∀ n o, g y n = some o → G' n = some o) hf hb (AW.mono h fun e st hq => by
  obtain ⟨y, hq⟩ := hq
  cases e with
  | normal => exact ⟨r, hq.1, y, rfl, hq.2.1, hq.2.2⟩
  | ret => exact ⟨r, hq.1, y, rfl, hq.2.1, hq.2.2⟩
  | _ => exact hq)
 refine (key E w vs hr hg0).mono ?_
 rintro e w' ⟨r', v, E', G', nx', e1, e2, e3, e4, y, rfl, e5, e6⟩
 have hnx := hg0.nx
 refine ⟨r', v, E'.drop m, g y, m, e1, e2.drop (by omega), e3.drop hl, ?_, y, rfl, rfl, rfl⟩
 refine (e4.weak e6).drop fun n o ho => ?_
 rcases hg (fun n o ho => (hg0.lowG ho).1) y n o ho with h1 | h1
 ·have := hg0.lowG h1
  exact ⟨by omega, GObj.low_mono this.2 hm⟩
 ·exact h1
theorem i0 {Y : Type} {P : Program} {o : Oper} {st : St} {K : St → Prop} {f : FuncId} [Fun P f] {fv : Operand} {args : List Operand} {ats : Array TypeId} {caps as : List C} {r : C} {g : Y → Nat → Option GObj} {m : Nat} (ho : o.op = .call { callee := .value fv, args := args.toArray, argTypes := ats }) (hf : evC st fv = .fn (.func f) caps) (has : args.map (evC st) ++ caps = as)
  (hp : PC P f as st.G st.nx fun r' G' nx' => ∃ y, r' = r ∧ G' = g y ∧ nx' = m) (h : ∀ y, K (St.put { st with G := g y, nx := m } o.dst r)) : EStep P o st K :=
 rn ho hf has (hp.mono fun r' G' nx' ⟨y, e1, e2, e3⟩ => by subst e1; subst e2; subst e3; exact h y)
/-- An array, out of its elements. -/
theorem ir {P : Program} {o : Oper} {st : St} {t e : TypeId} {m sz : Nat} {ag : Bool} {zs cs : List C} [ZeroC P t zs] [ArrT P t m e] [Ty P e ag sz] {parts : List (Nat × Operand)} (ho : o.op = .build t parts.toArray) (hf : qa ((List.range m).map fun i => (i * sz, sz)) zs (parts.map fun p => (p.1, evC st p.2)) = some cs) : NStep P o st (.agg cs) := fun E w a hs => by
 obtain ⟨z, hz, q1, q2⟩ := ZeroC.run (P := P) (t := t) E w
 have ht := ArrT.spec (P := P) (t := t) (n := m) (e := e)
 obtain ⟨us', r1, r2, r3⟩ := wz (E := E) (w := w) (pl := (List.range m).map fun i => (i * sz, sz)) (place := fun i => some (i * sz, sz)) (fun i p hp => by
  rw [List.getElem?_map] at hp
  cases hi : (List.range m)[i]? with
  | none => rw [hi] at hp; cases hp
  | some j =>
   rw [hi] at hp
   have hlt : i < m := by simpa using (List.getElem?_eq_some_iff.1 hi).1
   rw [List.getElem?_range hlt] at hi
   cases hi
   exact hp) (parts.map fun p => (p.1, evC st p.2)) (parts.map fun p => (p.1, a.eval p.2)) zs cs z.cells (by simp) (fun j i c hj => by
   rw [List.getElem?_map] at hj ⊢
   cases hp : parts[j]? with
   | none => rw [hp] at hj; cases hj
   | some p =>
    rw [hp] at hj
    simp only [Option.map_some, Option.some.injEq, Prod.mk.injEq] at hj
    obtain ⟨rfl, rfl⟩ := hj
    exact ⟨a.eval p.2, rfl, hs.ev p.2⟩) q1 q2 hf
 refine ⟨.agg us', by have := r2.agg r3; simpa using this, fun w' => ?_⟩
 have hsz := Ty.size (P := P) (w := w') (t := e) (ag := ag) (n := sz)
 simp only [execOp, ho, Instr.build, Sem.run_bind, hz w', run_underlying ht, Result.andThen_ok, hsz, List.map_toArray]
 simp [r1]
end Go.AB
namespace Go.AB
open Go Go.RowKit
open Go.AB.Enc (cells)
theorem zG {p : Prop} (h : p := by (try dsimp only); repeat (first | exact ns _ _ _ | assumption | rw [io (by omega)] | rw [k7 (by omega)])) : p := h
theorem zN {p : Prop} (h : p := by first | exact Nat.le_refl _ | omega | (simp; try omega)) : p := h
theorem zS {p : Prop} (h : p := by intro n o h; first | exact h | (have := hlt n o h; (try dsimp only); repeat (first | exact h | rw [io (by omega)] | rw [k7 (by omega)]))) : p := h
theorem zX {p : Prop} (h : p := by (repeat' (refine mz (by (try dsimp only); repeat (first | exact ns _ _ _ | assumption | rw [io (by omega)] | rw [k7 (by omega)])) ?_)); (intro n o h; first | exact h | (have := hlt n o h; (try dsimp only); repeat (first | exact h | rw [io (by omega)] | rw [k7 (by omega)])))) : p := h
theorem zL {p : Prop} (h : p := by (try dsimp only); repeat' (first | exact trivial | refine ⟨?_, ?_⟩ | exact .v | exact .any | refine .elem ?_ | exact bh _ _ | exact e9 _ _ | exact dq _ _ | exact ff _ (by (try dsimp only); omega) | exact .box (by (try dsimp only); omega) | exact ed | exact bl | refine fa ?_ ?_ | exact .arr (by (try dsimp only); omega) | exact .own (by (try dsimp only); omega) | exact .map (by (try dsimp only); omega) | exact ez _ | refine ar ?_ ?_ | exact bh _ _)) : p := h
theorem zH {p : Prop} (h : p := by (repeat' (refine gt ?_ (by (try dsimp only); omega) ?_)); all_goals (first | exact ie (by intro n o h; first | exact h | (have := hlt n o h; (try dsimp only); repeat (first | exact h | rw [io (by omega)] | rw [k7 (by omega)]))) | (repeat' (first | exact trivial | refine ⟨?_, ?_⟩ | exact .v | exact .any | refine .elem ?_ | exact bh _ _ | exact e9 _ _ | exact dq _ _ | exact ff _ (by (try dsimp only); omega) | exact .box (by (try dsimp only); omega) | exact ed | exact bl | refine fa ?_ ?_ | exact .arr (by (try dsimp only); omega) | exact .own (by (try dsimp only); omega) | exact .map (by (try dsimp only); omega) | exact ez _ | refine ar ?_ ?_ | exact bh _ _)))) : p := h
theorem zF {p : Prop} (h : p := by repeat' (first | exact trivial | refine ⟨?_, ?_⟩ | exact .inr rfl | exact .inl rfl | exact .inr (congrArg C.v (congrArg (Value.int _) (by simp; try omega))))) : p := h
theorem zB {p : Prop} (h : p := by first | exact .inl rfl | (refine .inr ?_; repeat' (first | exact trivial | refine ⟨?_, ?_⟩ | exact .inr rfl | exact .inl rfl | exact .inr (congrArg C.v (congrArg (Value.int _) (by simp; try omega)))))) : p := h
theorem zD {p : Prop} (h : p := by repeat (first | exact ufk | refine ufl (by (try dsimp only [St.put]); exact (by (try dsimp only); repeat (first | exact ns _ _ _ | assumption | rw [io (by omega)] | rw [k7 (by omega)]))) (by (try dsimp only [St.put]); exact (by (try dsimp only); repeat (first | exact ns _ _ _ | assumption | rw [io (by omega)] | rw [k7 (by omega)]))) rfl ?_)) : p := h
theorem zA {p : Prop} (h : p := by first | omega | (simp only [List.length_take, List.length_cons, List.length_nil, List.length_append, List.length_map]; omega) | (simp; omega)) : p := h
theorem zR {p : Prop} (h : p := by first | (simp; done) | (intro r hr; simp only [List.mem_cons, List.not_mem_nil, or_false] at hr; first | (subst hr; rfl) | (rcases hr with hr | hr <;> (subst hr; rfl)) | (rcases hr with hr | hr | hr <;> (subst hr; rfl)) | (rcases hr with hr | hr | hr | hr <;> (subst hr; rfl)))) : p := h
theorem zW {p : Prop} (h : p := by repeat' (first | exact Wk.refl _ | exact Wk.tok | refine Wk.agg ?_ | refine ⟨?_, ?_⟩ | exact trivial)) : p := h
section
variable {ρ : Option Nat} {P : Program} {ops : Array Oper} {K : St → Prop} {rest : List Oper} {o : Oper} {st : St} {Q : Exit → St → Prop} {x : Operand} {c : C}
theorem yM (ho : o.op = .move x) (hg : gm ops st o = some true) (h : gc ρ P ops K rest (st.put o.dst c)) (hx : Is (evC st x) c := by constructor) : gc ρ P ops K (o :: rest) st := aa hg (a8 ho hx) h
theorem yA (ho : o.op = .assign x) (hg : gm ops st o = some true) (h : gc ρ P ops K rest (st.put o.dst c)) (hx : Is (evC st x) c := by constructor) : gc ρ P ops K (o :: rest) st := aa hg (cg ho hx) h
theorem yL {t : TypeId} {cs : List C} [Ty P t false 1] (ho : o.op = .load t x) (hg : gm ops st o = some true) (hx : evC st x = .elem (c :: cs)) (h : gc ρ P ops K rest (st.put o.dst c)) : gc ρ P ops K (o :: rest) st := af hg (a7 ho hx) h
theorem yE {α : Type} [Enc α] {t : TypeId} {a : α} [Ty P t true (Enc.n α)] (ho : o.op = .load t x) (hg : gm ops st o = some true) (hx : evC st x = .elem (cells a)) (h : gc ρ P ops K rest (st.put o.dst (.agg (cells a)))) : gc ρ P ops K (o :: rest) st := af hg (aq ho hx (Enc.len a)) h
theorem yX {i : Nat} {cs : List C} (ho : o.op = .extract x i) (hg : gm ops st o = some true) (hx : evC st x = .tup cs) (hc : cs[i]? = some c) (h : gc ρ P ops K rest (st.put o.dst c)) : gc ρ P ops K (o :: rest) st := aa hg (c7 ho hx hc) h
theorem yF {t : TypeId} {f off : Nat} {ft : TypeId} [Fld P t f off ft] {cs : List C} {d : C} {ds : List C} (ho : o.op = .fieldAddr t x f) (hg : gm ops st o = some true) (hx : evC st x = .elem cs) (hd : cs.drop off = d :: ds) (h : gc ρ P ops K rest (st.put o.dst (.elem (d :: ds)))) : gc ρ P ops K (o :: rest) st := aa hg (b9 ho hx hd) h
theorem yB {e : TypeId} {cs : List C} (ho : o.op = .box e x) (hg : gm ops st o = some true) (hx : js (evC st x) = some cs) (h : gc ρ P ops K rest (st.put o.dst (.elem cs))) (hne : cs ≠ [] := by simp) : gc ρ P ops K (o :: rest) st := ae hg (o9 ho hx hne h)
theorem yK (hg : gm ops st o = some false) (h : gc ρ P ops K rest (st.put o.dst (.tup []))) : gc ρ P ops K (o :: rest) st := di hg h
theorem yN (h : K st) : gc ρ P ops K [] st := cx h
theorem yR {id : Nat} {l : List Oper} (h : gc ρ P l.toArray (Q .normal) l st) : AW ρ P (.region id l.toArray false) Q st := dl h
theorem yS {x y : Code} (h : ∀ K : St → Prop, (∀ st', AW ρ P y Q st' → K st') → AW ρ P x (l6 K Q) st) : AW ρ P (.seq x y) Q st := e8 h
end
section
variable {P : Program} {ol : List Oper} {K : St → Prop} {D : List Nat} {late Ef N : Nat → Bool} {i : Nat} {π : List (Nat × Option Nat)} {o : Oper} {st : St} {c : C} {x : Operand}
theorem xM (ho : o.op = .move x) (hE : Ef i = false) (hN : N i = true) (hol : ol[i]? = some o) (hg : gm ol.toArray st o = some true) (h : j7 P ol.toArray K D late Ef N π (st.put o.dst c)) (hx : Is (evC st x) c := by constructor) : j7 P ol.toArray K D late Ef N ((i, none) :: π) st := ah hE hN hol hg (a8 ho hx) h
end
end Go.AB
namespace Go.AB
open Go Go.RowKit
variable {p : Program}

def RGe {α : Type} (d : Nat) : Result α → Prop
 | .ok _ w => d ≤ w.drawn
 | .halt _ w => d ≤ w.drawn
theorem RGe.le {α : Type} {d e : Nat} {r : Result α} (h : RGe e r) (hde : d ≤ e) : RGe d r := by
 cases r <;> exact Nat.le_trans hde h

theorem xq {α : Type} : ∀ (x : Ask α) (w : World), w.drawn ≤ (w.ask x).2.drawn
 | .done _, _ => Nat.le_refl _
 | .ask what range k, w => by
  unfold World.ask
  dsimp only
  split
  ·exact xq (k 0) w
  ·exact Nat.le_trans (Nat.le_succ _) (xq (k _) { w with drawn := w.drawn + 1 })
theorem uei (w : World) (c : Sys) : w.drawn ≤ (w.sys c).2.drawn := by
 unfold World.sys
 have h := xq (Kernel.perform c w.os) w
 split
 ·exact Nat.le_refl _
 ·rename_i e
  rw [e] at h
  exact h
theorem udx {w w' : World} {at_ k : Addr} {u : TypeId} {v : Value} {b : Bool} {l : List Addr} (h : w.viewStore p at_ u k v b = .ok (w', l)) : w'.drawn = w.drawn := by
 unfold World.viewStore at h
 simp only [bind, Except.bind, pure, Except.pure, throw, throwThe, MonadExceptOf.throw] at h
 repeat' (first | (cases h; done) | split at h)
 all_goals (first | (cases h; rfl) | (simp only [Except.ok.injEq, Prod.mk.injEq] at h; obtain ⟨rfl, _⟩ := h; rfl))
theorem uji {w w' : World} {a : Addr} {v : Value} {b : Bool} {l : List Addr} (h : w.farStore p a v b = .ok (w', l)) : w'.drawn = w.drawn := by
 unfold World.farStore at h
 split at h
 ·split at h
  ·rename_i e
   cases h
   exact udx e
  ·cases h
 ·cases h
theorem ui0 (w : World) (a : Addr) (n : Nat) : (w.freeze a n).drawn = w.drawn := by
 unfold World.freeze
 split <;> rfl

theorem si {α : Type} (s : Sem α) : ∀ w : World, RGe w.drawn (s.run p w) := by
 induction s with
 | pure a => exact fun w => Nat.le_refl _
 | load m a k ih =>
  intro w
  simp only [Sem.run]
  split
  ·exact ih _ w
  ·split
   ·exact ih _ w
   ·exact Nat.le_refl _
 | store m a v k ih =>
  intro w
  cases v
  all_goals simp only [Sem.run]
  all_goals (first | exact Nat.le_refl _ | skip)
  all_goals split
  all_goals split
  all_goals (first | exact Nat.le_refl _ | exact ih (w.setCell a _) | (rename_i e; exact (ih _).le (Nat.le_of_eq (uji e).symm)))
 | new o k ih => exact fun w => ih _ { w with heap := w.heap.push o }
 | shape r k ih => exact fun w => ih _ w
 | freeze a n k ih => exact fun w => (ih (w.freeze a n)).le (Nat.le_of_eq (ui0 w a n).symm)
 | frozen a k ih => exact fun w => ih _ w
 | getObj r k ih =>
  intro w
  simp only [Sem.run]
  split
  ·exact Nat.le_refl _
  ·exact ih _ w
  ·exact Nat.le_refl _
 | setObj r o k ih =>
  intro w
  simp only [Sem.run]
  split
  ·exact Nat.le_refl _
  ·exact ih { w with heap := w.heap.setIfInBounds r o }
  ·exact Nat.le_refl _
 | choose q k ih =>
  intro w
  simp only [Sem.run]
  split
  ·exact ih _ w
  ·exact (ih _ { w with drawn := w.drawn + 1 }).le (Nat.le_succ _)
 | sys c k ih => exact fun w => (ih _ (w.sys c).2).le (uei w c)
 | program k ih => exact fun w => ih p w
 | mark m k ih => exact fun w => ih w
 | halt h => exact fun w => Nat.le_refl _
theorem ufs {α : Type} (s : Sem α) : ∀ (w : World) (es : Array Event), (s.runT p w es).1 = s.run p w := by
 induction s with
 | pure a => exact fun w es => rfl
 | load m a k ih =>
  intro w es
  simp only [Sem.run, Sem.runT]
  split
  ·exact ih _ _ _
  ·split
   ·exact ih _ _ _
   ·rfl
 | store m a v k ih =>
  intro w es
  cases v
  all_goals simp only [Sem.run, Sem.runT]
  all_goals (first | done | skip)
  all_goals split
  all_goals split
  all_goals (first | rfl | exact ih _ _)
 | new o k ih => exact fun w es => ih _ _ _
 | shape r k ih => exact fun w es => ih _ _ _
 | freeze a n k ih => exact fun w es => ih _ _
 | frozen a k ih => exact fun w es => ih _ _ _
 | getObj r k ih =>
  intro w es
  simp only [Sem.run, Sem.runT]
  split
  ·rfl
  ·exact ih _ _ _
  ·rfl
 | setObj r o k ih =>
  intro w es
  simp only [Sem.run, Sem.runT]
  split
  ·rfl
  ·exact ih _ _
  ·rfl
 | choose q k ih =>
  intro w es
  simp only [Sem.run, Sem.runT]
  split
  ·exact ih _ _ _
  ·exact ih _ _ _
 | sys c k ih => exact fun w es => ih _ _ _
 | program k ih => exact fun w es => ih _ _ _
 | mark m k ih => exact fun w es => ih _ _
 | halt h => exact fun w es => rfl
theorem m3 {α : Type} (s : Sem α) (w : World) (es : Array Event) : RGe w.drawn (s.runT p w es).1 := by
 rw [ufs]; exact si s w

theorem j3 {α : Type} {s : Sem α} {w w1 : World} {a : α} (h : s.run p w = .ok a w1) : w.drawn ≤ w1.drawn := by
 have := si (p := p) s w
 rw [h] at this
 exact this
theorem qy {α : Type} {s : Sem α} {w w1 : World} {a : α} {es es' : Array Event} (h : s.runT p w es = (.ok a w1, es')) : w.drawn ≤ w1.drawn := by
 have := m3 (p := p) s w es
 rw [h] at this
 exact this
theorem u9 {α : Type} {s : Sem α} {w w1 : World} {a : Halt} {es es' : Array Event} (h : s.runT p w es = (.halt a w1, es')) : w.drawn ≤ w1.drawn := by
 have := m3 (p := p) s w es
 rw [h] at this
 exact this

theorem sq {α : Type} {s : Sem α} {w w1 : World} {a : α} {es : Array Event} (h : (s.runT p w es).1 = .ok a w1) : w.drawn ≤ w1.drawn := by
 have := m3 (p := p) s w es
 rw [h] at this
 exact this
theorem ugj {α : Type} {s : Sem α} {w w1 : World} {a : Halt} {es : Array Event} (h : (s.runT p w es).1 = .halt a w1) : w.drawn ≤ w1.drawn := by
 have := m3 (p := p) s w es
 rw [h] at this
 exact this

def GGe (d : Nat) : GStep → Prop
 | .go _ w _ | .comm _ _ _ _ w _ | .spawn _ _ w _ | .count _ w _ | .timer _ _ w _ | .alone _ _ w _ | .newcoro _ _ _ w _ | .coroswitch _ _ _ w _ | .collect _ w _ | .watch _ w _ => d ≤ w.drawn
 | .ended _ _ _ => True
theorem qj {d : Nat} {es : Array Event} {g : GStep} (h : GGe d g) : GGe d (GStep.after es g) := by cases g <;> exact h
theorem uif {d : Nat} {c : Prop} [Decidable c] {a b : GStep} (ha : GGe d a) (hb : GGe d b) : GGe d (if c then a else b) := by split <;> assumption
theorem ujs {β : Type} {d : Nat} {o : Option β} {a : GStep} {f : β → GStep} (ha : GGe d a) (hf : ∀ x, GGe d (f x)) : GGe d (o.elim a f) := by
 cases o
 ·exact ha
 ·exact hf _
theorem ubt {d : Nat} {fr : Frame} {m : String} {w : World} (h : d ≤ w.drawn) : GGe d (endThrow fr m w) := h
theorem ubu {d : Nat} {fr : Frame} {v : Value} {w : World} (h : d ≤ w.drawn) : GGe d (endPrinting p fr v w) := by
 unfold endPrinting
 dsimp only
 split
 ·exact h
 ·trivial
theorem ubv {fr : Frame} {cs : List Frame} {dy : Option Dying} {m : String} {w : World} {d : Nat} (h : d ≤ w.drawn) : GGe d (endFatal p fr cs dy m w) := by
 unfold endFatal
 dsimp only
 split
 ·rename_i e
  exact Nat.le_trans h (j3 e)
 ·trivial
 ·trivial
theorem ujq {d : Nat} {fd : Nat} {text : ByteArray} {o : Outcome} {w : World} : GGe d (endWith w fd text o) := by
 unfold endWith
 dsimp only
 split
 ·split <;> trivial
 ·trivial
 ·trivial
theorem udj {fr : Frame} {dy : Dying} {f : Fatal} {w : World} : GGe w.drawn (writeOn p fr dy f w) := by
 unfold writeOn
 dsimp only
 split
 ·trivial
 ·split
  ·rename_i e
   first | exact qy e | exact u9 e
  ·rename_i e
   first | exact qy e | exact u9 e
  ·trivial
  ·trivial
theorem uka {fr : Frame} {dy : Dying} {w : World} : GGe w.drawn (die p fr dy w) := by
 unfold die
 dsimp only
 split
 ·exact udj
 ·split
  ·split
   ·exact Nat.le_refl _
   ·exact ujq
  ·split
   ·exact Nat.le_refl _
   ·split
    ·rename_i e
     exact j3 e
    ·trivial
   ·refine qj ?_
    rename_i t recv name _
    have key := m3 (p := p) (invoke (.fn (.method name) #[]) #[.iface t recv]) w #[]
    split <;> first | trivial | (rename_i e; rw [e] at key; first | exact key | exact ubu key)
   ·trivial
theorem tp {main : Bool} {fr : Frame} {cs : List Frame} {dy : Option Dying} {v : Value} {w : World} {d : Nat} (h : d ≤ w.drawn) : GGe d (doReturn p main fr cs dy v w) := by
 unfold doReturn
 dsimp only
 repeat' (first | exact h | trivial | split)
theorem ulv {fr : Frame} {cs : List Frame} {dy : Option Dying} {de : Deferred} {w : World} : GGe w.drawn (callDeferred p fr cs dy de w) := by
 unfold callDeferred
 dsimp only
 refine uif trivial ?_
 ·refine qj ?_
  have key := m3 (p := p) (invoke de.target de.args) w #[]
  generalize (invoke de.target de.args).runT p w #[] = r at key ⊢
  obtain ⟨r, es⟩ := r
  dsimp only at key ⊢
  split <;> first | exact key | trivial | exact ubv key | exact ubt key | (split <;> first | exact key | trivial)
theorem udz {main : Bool} {fr : Frame} {cs : List Frame} {dy : Option Dying} {w : World} : GGe w.drawn (unwind p main fr cs dy w) := by
 unfold unwind
 split
 ·rename_i block _ ds _
  refine qj ?_
  have key := m3 (p := p) (Instr.takeDeferred block) w #[]
  split <;> first | trivial | (rename_i e; rw [e] at key; exact key)
 ·exact ulv
 ·split
  ·trivial
  ·split
   ·trivial
   ·split
    ·exact Nat.le_refl _
    ·split
     ·split
      ·exact Nat.le_refl _
      ·split
       ·rename_i e
        exact j3 e
       ·trivial
       ·trivial
     ·split
      ·exact ubu (Nat.le_refl _)
      ·trivial
  ·split
   ·exact tp (Nat.le_refl _)
   ·rename_i fn _
    refine qj ?_
    have key := m3 (p := p) (results fn fr.tmps) w #[]
    split <;> first | trivial | (rename_i e; rw [e] at key; exact tp key)
theorem ub0 {fr : Frame} {cs : List Frame} {dy : Option Dying} {g : Nat} {w : World} {d : Nat} (h : d ≤ w.drawn) : GGe d (early p fr cs dy g w) := by
 unfold early
 dsimp only
 repeat' (first | exact h | trivial | split)
 all_goals (have key := si (p := p) (choose (.early g)) w; simp only [*] at key; exact Nat.le_trans h key)
end Go.AB
namespace Go.AB
open Go Go.RowKit
variable {p : Program}

theorem rr {listen : Bool} {fr : Frame} {cs : List Frame} {dy : Option Dying} {s : Sem Next} {w : World} {d : Nat} (hd : d ≤ w.drawn) : GGe d (stepG.apply p listen fr cs dy s w) := by
 unfold stepG.apply
 have key : RGe d (if listen then s.runT p w #[] else (s.run p w, #[])).1 := by
  split
  ·exact (m3 s w #[]).le hd
  ·exact (si s w).le hd
 dsimp only
 generalize (if listen then s.runT p w #[] else (s.run p w, #[])) = r at key ⊢
 obtain ⟨r, es⟩ := r
 dsimp only at key ⊢
 refine qj ?_
 split <;> first | exact key | trivial | exact ubv key | exact ubt key | exact ub0 key | (repeat' (first | exact key | exact ub0 key | trivial | split))
theorem ugh {listen : Bool} {fr : Frame} {cs : List Frame} {dy : Option Dying} {w : World} : GGe w.drawn (stepG.oper p listen fr cs dy w) := by
 unfold stepG.oper
 split
 ·trivial
 ·split <;> exact rr (Nat.le_refl _)
theorem ujk {main listen : Bool} {fr : Frame} {cs : List Frame} {dy : Option Dying} {w : World} : GGe w.drawn (stepG.exec p main listen fr cs dy w) := by
 unfold stepG.exec
 dsimp only
 repeat' (first | exact Nat.le_refl _ | trivial | exact rr (Nat.le_refl _) | exact rr (sq (by assumption)) | refine ujs ?_ (fun _ => ?_) | refine qj ?_ | exact ugh | split)
 all_goals (try subst_vars)
 all_goals (first | exact rr (sq (by assumption)) | exact tp (sq (by assumption)) | exact (sq (by assumption) : w.drawn ≤ _) | exact (ugj (by assumption) : w.drawn ≤ _) | exact rr (qy (by assumption)) | exact tp (qy (by assumption)) | exact (qy (by assumption) : w.drawn ≤ _) | exact (u9 (by assumption) : w.drawn ≤ _) | exact (j3 (by assumption) : w.drawn ≤ _))
theorem uew {main listen : Bool} {g : Goroutine} {w : World} : GGe w.drawn (stepG p main g w listen) := by
 unfold stepG
 dsimp only
 split
 ·exact uka
 ·exact ujk
 ·exact udz

/-! ### The machine -/
def SGe (d : Nat) : Stepped → Prop
 | .next m => d ≤ m.world.drawn
 | .ended _ _ => True
theorem vt {gs : Array Goroutine} {rest : Rest} {w : World} {d : Nat} (h : d ≤ w.drawn) : SGe d (look p gs rest w) := by
 unfold look
 dsimp only
 split
 ·split
  ·trivial
  ·split
   ·trivial
   ·split
    ·rename_i e
     first
     | exact h
     | (have h2 := Nat.le_trans h (j3 e); exact h2)
    ·first | trivial | exact h | (rename_i e; exact Nat.le_trans h (j3 e))
    ·trivial
 ·trivial
theorem udw {rest : Rest} {cases : Array CommCase} {w w1 : World} (h : waitingAt rest cases w = some w1) : w1.drawn = w.drawn := by
 unfold waitingAt at h
 split at h
 ·split at h
  ·cases h; rfl
  ·cases h
 ·cases h; rfl
theorem ukh {rest : Rest} {gs : Array Goroutine} {i : Nat} {g : Goroutine} {cases : Array CommCase} {blocking : Bool} {shape : CommShape} {w : World} {d : Nat} (h : d ≤ w.drawn) : SGe d (communicate p rest gs i g cases blocking shape w).1 := by
 unfold communicate
 dsimp only
 split
 ·trivial
 ·split
  ·split
   ·split
    ·rename_i e
     exact Nat.le_trans h (Nat.le_of_eq (udw e).symm)
    ·trivial
   ·exact h
  ·split
   ·trivial
   ·rename_i e
    have h2 := Nat.le_trans h (j3 e)
    repeat' (first | exact h2 | trivial | split)
    all_goals (have h3 := Nat.le_trans h2 (j3 (p := p) (by assumption)); exact h3)
theorem uj8 (w : World) (c : Nat) : (drain w c).2.drawn = w.drawn := by
 unfold drain
 split <;> rfl
theorem y5 (m : Machine) (k : Nat) (t : Timer) (x y : Nat) : (retime m k t x y).2.world.drawn = m.world.drawn := by
 unfold retime
 dsimp only
 split
 ·exact uj8 _ _
 ·rfl
theorem ueb {m m1 : Machine} {op : TimerOp} {v : Value} (h : timerOp m op = .ok (v, m1)) : m1.world.drawn = m.world.drawn := by
 have named : ∀ (m0 : Machine) (var : Addr) (f : Nat → Timer → Value × Machine) (D : Nat), (∀ k t, (f k t).2.world.drawn = D) → timerOp.named m0 var f = .ok (v, m1) → m1.world.drawn = D := by
  intro m0 var f D hf h
  unfold timerOp.named at h
  split at h
  ·simp only [Except.ok.injEq] at h
   have := congrArg (fun z => z.2.world.drawn) h
   rw [← this]
   exact hf _ _
  ·cases h
 unfold timerOp at h
 dsimp only at h
 split at h
 ·split at h
  ·cases h; rfl
  ·split at h
   ·split at h
    ·cases h
    ·cases h; rfl
   ·cases h
 ·exact named _ _ _ _ (fun k t => y5 _ _ _ _ _) h
 ·split at h
  ·rename_i e
   have h2 := named _ _ _ _ (fun k t => y5 _ _ _ _ _) h
   rw [h2]
   unfold timerOp.opened at e
   split at e
   ·split at e
    ·cases e; rfl
    ·cases e
   ·cases e; rfl
  ·cases h
 ·cases h; rfl
theorem ufr {m : Machine} {i : Nat} {listen : Bool} : SGe m.world.drawn (runT p m i listen).1 := by
 unfold runT
 have key := uew (p := p) (main := i == 0) (listen := listen) (g := (m.gs.swapAt! i { (default : Goroutine) with status := .finished }).1) (w := m.world)
 dsimp only
 revert key
 generalize stepG p (i == 0) (m.gs.swapAt! i { (default : Goroutine) with status := .finished }).1 m.world listen = s
 intro key
 cases s <;> (try exact key)
 all_goals dsimp only
 all_goals (first | exact key | trivial | exact ukh key | exact vt key | skip)
 all_goals (repeat' (first | exact key | trivial | split))
 all_goals (first | (rename_i e; exact Nat.le_trans key (Nat.le_of_eq (ueb e).symm)) | (rename_i e; cases e; exact key))

def MGe (d : Nat) : Move → Prop
 | .goroutine m _ => d ≤ m.world.drawn
 | .machine s _ => SGe d s
theorem ufh {m : Machine} {k d : Nat} (h : d ≤ m.world.drawn) : SGe d (serve p m k) := by
 unfold serve
 dsimp only
 repeat' (first | exact h | trivial | split)
theorem xr {m : Machine} {d : Nat} (h : d ≤ m.world.drawn) : MGe d (askOn p m) := by
 unfold askOn
 dsimp only
 split
 ·trivial
 ·rename_i e0
  have h0 := Nat.le_trans h (j3 e0)
  split
  ·exact ufh h0
  ·split
   ·split
    ·exact h0
    ·split
     ·exact h0
     ·split <;> trivial
   ·split
    ·split
     ·trivial
     ·rename_i e1
      have h1 := Nat.le_trans h0 (j3 e1)
      split
      ·exact h1
      ·split
       ·trivial
       ·rename_i e2
        have q := j3 e2
        exact Nat.le_trans h1 q
    ·split
     ·trivial
     all_goals (rename_i e1; have h1 := Nat.le_trans h0 (j3 e1))
     all_goals (first | exact h1 | skip)
     all_goals split
     all_goals (first | trivial | skip)
     all_goals (rename_i e2; have q2 := j3 e2; have h2 := Nat.le_trans h1 q2)
     all_goals split
     all_goals (first | exact h2 | skip)
     all_goals split
     all_goals (first | trivial | (rename_i e3; have q3 := j3 e3; exact Nat.le_trans h2 q3))
theorem uc7 {m : Machine} {d : Nat} (h : d ≤ m.world.drawn) : MGe d (ask p m) := by
 unfold ask
 split
 ·split
  ·trivial
  ·rename_i e
   have h1 := Nat.le_trans h (j3 e)
   split
   ·rename_i e2
    have := vt (p := p) (gs := m.gs) (rest := m.rest) h1
    rw [e2] at this
    exact xr this
   ·exact vt h1
  ·rename_i e
   exact xr (Nat.le_trans h (j3 e))
 ·exact xr h
theorem ug3 {m : Machine} {d : Nat} (h : d ≤ m.world.drawn) : MGe d (move p m) := by
 unfold move
 split
 ·split
  ·exact h
  ·trivial
 ·split
  ·split
   ·exact h
   ·exact uc7 h
  ·exact uc7 h
theorem ueo {m : Machine} {d : Nat} (h : d ≤ m.world.drawn) : SGe d (step p m) := by
 unfold step stepT
 have key := ug3 (p := p) h
 generalize move p m = v at key ⊢
 cases v with
 | goroutine m1 i =>
  have k2 := ufr (p := p) (m := m1) (i := i) (listen := true)
  dsimp only
  generalize (runT p m1 i true).1 = s at k2 ⊢
  cases s with
  | next m2 => exact Nat.le_trans key k2
  | ended => trivial
 | machine s ops => exact key
theorem yx {d : Nat} : ∀ (n : Nat) (m m1 : Machine), d ≤ m.world.drawn → runN p n m = .next m1 → d ≤ m1.world.drawn
 | 0, m, m1, h, e => by simp only [runN, Stepped.next.injEq] at e; exact e ▸ h
 | n + 1, m, m1, h, e => by
  have key := ueo (p := p) h
  simp only [runN] at e
  split at e
  ·rename_i e2
   rw [e2] at key
   exact yx n _ m1 key e
  ·rename_i h2
   exact (h2 _ e).elim
theorem uen {m m1 : Machine} (h : Steps p m m1) : m.world.drawn ≤ m1.world.drawn := by
 obtain ⟨n, hn⟩ := h
 exact yx n m m1 (Nat.le_refl _) hn
/-- A call that comes back never takes back what was drawn. -/
theorem ult {P : Program} {f : FuncId} {args : Array Value} {w : World} {R : Ending → World → Prop} (hr : ∀ e w', R e w' → ∃ v, e = .returned v) (h : Calls P f args w R) : Calls P f args w fun e w' => R e w' ∧ w.drawn ≤ w'.drawn := by
 intro cs
 obtain ⟨e, w', fr, h1, h2, h3, h4⟩ := h cs
 refine ⟨e, w', fr, ⟨h1, ?_⟩, h2, h3, h4⟩
 obtain ⟨v, rfl⟩ := hr e w' h1
 exact uen (p := P) h2
end Go.AB
