/-
 A part of an own slice, ahead of which it is written anew; what a predicate strikes out of it.
-/
import Derived.Test.YtjjklfgpffgnfabGreatDoorAbSort
import Derived.Test.YtjjklfgpffgnfabGreatDoorGrpH
import Derived.Shelf.SlicesE.DeleteFunc
namespace Go.AB
open Go Go.RowKit Go.Shelf Go.Proofs
open Go.AB.Enc (cells)
section
variable {P : Program} {o : Oper} {st : St} {K : St → Prop}
theorem R.okVv {E : Env} {w : World} {x v : Value} (h : R E w (.v x) v) : okV x = true := by
 cases h with
 | v h => exact h
theorem ubf {E : Env} {w : World} {v : Value} {n ver len : Nat} (hp : R E w (.own n ver len) v) : ∃ a cap, v = .slice a len cap ∧ n < E.nx ∧ len ≤ cap ∧ cap ≤ maxLen ∧ ∀ ver' wv val, E.T n = some (ver', wv, val) → ver ≤ ver' ∧ (ver = ver' → ∃ m, len ≤ m ∧ val = .slice a m cap) := by
 cases hp with
 | own h1 h2 h3 h4 => exact ⟨_, _, rfl, h1, h2, h3, h4⟩
/-- What is ahead of some of an own slice. -/
theorem ukf {t e : TypeId} {sz : Nat} {ag : Bool} [Elt P t e] [Ty P e ag sz] {x y : Operand} {m ver len : Nat} {ik : IntKind} {n : Int} {k : Nat} (ho : o.op = .slice t x none (some y) none) (hx : evC st x = .own m ver len) (hy : evC st y = .v (.int ik n)) (hn : n = (k : Int)) (hk : k ≤ len) : NStep P o st (.own m ver k) := fun E w a hs => by
 subst hn
 have e1 := (hy ▸ hs.ev y).v_inv
 obtain ⟨ad, cap, hv, h1, h2, h3, h4⟩ := ubf (hx ▸ hs.ev x)
 have q1 := Elt.spec (P := P) (t := t) (e := e)
 have hel : P.elem t = e := by simp [Program.elem, q1]
 have q2 := fun w => Ty.size (P := P) (w := w) (t := e) (ag := ag) (n := sz)
 have e3 : (if cap = 0 then ad else ad.map (·.add (0 * sz))) = ad := by
  split
  ·rfl
  ·cases ad with
   | none => rfl
   | some ad => obtain ⟨b, off, sp⟩ := ad; simp [Addr.add]
 refine ⟨.slice ad k cap, .own h1 (Nat.le_trans hk h2) h3 fun ver' wv val ht => ?_, fun w' => ?_⟩
 ·obtain ⟨h5, h6⟩ := h4 _ _ _ ht
  exact ⟨h5, fun e => let ⟨m', h7, h8⟩ := h6 e; ⟨m', Nat.le_trans hk h7, h8⟩⟩
 ·have hs1 := run_slice_h (P := P) (w := w') t ad len cap (by rw [hel]; exact q1) ik (k : Int) (by omega) (by omega)
  have hs2 := run_sliceAt_slice (P := P) (w := w') t (.slice ad len cap) none (some (.int ik (k : Int))) none (by rw [hel]; exact q1)
  simp only [execOp, ho, hv, e1, Option.map_none, Option.map_some, Sem.run_bind, hs2, hs1, hel, q2, Result.andThen_ok, sliced, Int.toNat_natCast, e3, Nat.sub_zero]
  rfl
theorem ujp {B : Nat} {w : World} {tt : TypeId} {sz len : Nat} {val : Value} {us : List Value} (h : w.ownsRow B tt sz val len us) {a : Option Addr} {m cap : Nat} (e : val = .slice a m cap) : m = len ∧ (∀ b, blk val = some b → ∃ o : Obj, w.heap[b]? = some o ∧ o.isCells = true) := by
 subst e
 rcases h.2 with ⟨e, e0⟩ | ⟨g, cap, cur, e, _, hh, _⟩
 ·cases e
  exact ⟨e0.symm, fun b hb => by simp [blk] at hb⟩
 ·cases e
  exact ⟨rfl, fun b hb => by simp only [blk, Option.some.injEq] at hb; subst hb; exact ⟨_, hh, rfl⟩⟩
theorem ujq {B : Nat} {w : World} {tt : TypeId} {sz len k cap : Nat} {a : Option Addr} {us : List Value} (h : w.ownsRow B tt sz (.slice a len cap) len us) (hk : k ≤ len) : w.ownsRow B tt sz (.slice a k cap) k (us.take (k * sz)) := by
 have hm : k * sz ≤ len * sz := Nat.mul_le_mul_right _ hk
 refine ⟨by rw [List.length_take, h.1]; omega, ?_⟩
 rcases h.2 with ⟨e, e0⟩ | ⟨g, cap, cur, e, h1, h2, h3, h4, h5, h6⟩
 ·cases e
  left
  obtain rfl : k = 0 := by omega
  exact ⟨rfl, rfl⟩
 ·cases e
  right
  refine ⟨g, cap, cur, rfl, h1, h2, by omega, h4, h5, ?_⟩
  rw [← h6, List.take_take]
  congr 1
  omega
/-- The cells behind it are given up. -/
theorem e_cut (i : Nat) {n ver wv len k : Nat} {e : TypeId} {sz : Nat} {cs : List C} (h0 : st.at i = .own n ver k) (hG : st.G n = some (.arr ver wv e sz len cs)) (h : EStep P o { st with r := (i, .own n (ver + 1) k) :: st.r, G := ah st.G n (.arr (ver + 1) wv e sz k (cs.take (k * sz))) } K) : EStep P o st K := by
 intro E w a hs
 obtain ⟨val, us, hT, hown, hcone, hrs, hL, hsz1⟩ := hs.g.obj n _ hG
 have hp := hs.at i
 rw [h0] at hp
 obtain ⟨ad, m, cap, e1, e2, hk, hnx, hkc, hcm⟩ := ujr hp hT
 obtain ⟨rfl, hcells⟩ := ujp hown e2
 have hblk : blk (.slice ad k cap) = blk val := by rw [e2]; cases ad <;> rfl
 have hchg : Chg E w w ver wv val (ver + 1) wv (.slice ad k cap) 0 :=
  ⟨Below.refl _ _, fun _ _ _ => rfl, fun b hb => .inl ⟨hblk ▸ hb, by rw [hL b (hblk ▸ hb)]; exact Nat.le_refl _⟩, fun _ _ _ _ => rfl, .inl (Nat.lt_succ_self _), fun b o _ ho => ⟨o, ho, rfl⟩, fun _ b hb => hcells b (hblk ▸ hb), fun b _ hl => absurd hl (Nat.not_lt_zero _)⟩
 have hev := Ev.chg hs.g hT hchg
 have hobj : ObjOk (E.chg n (ver + 1, wv, .slice ad k cap) 0) w n (.arr (ver + 1) wv e sz k (cs.take (k * sz))) :=
  ⟨.slice ad k cap, us.take (k * sz), by simp [Env.chg], ujq (e2 ▸ hown) hk, fun c hc => hcone c (List.mem_of_mem_take hc), (hrs.ev hev).take _, fun b hb => by simp [Env.chg, hb], hsz1⟩
 have hg := SimG.chg hs.g hT hchg hobj
 have hs2 := hs.evd hev hg
 have hs3 : Sim (E.chg n (ver + 1, wv, .slice ad k cap) 0) w { st with r := (i, .own n (ver + 1) k) :: st.r, G := ah st.G n (.arr (ver + 1) wv e sz k (cs.take (k * sz))) } a := by
  refine ⟨hs2.d, hs.sz, fun j v hj => ?_, hg⟩
  simp only [bi]
  cases hb : Nat.beq i j
  ·exact hs2.t j v hj
  ·have hij := Nat.eq_of_beq_eq_true hb
   subst hij
   have hv : a.tmps.getD i undef = v := by rw [Array.getD_eq_getD_getElem?, hj]; rfl
   rw [hv] at e1
   rw [e1]
   refine .own hnx hkc hcm fun ver' wv' val' ht => ?_
   simp only [Env.chg, if_true, Option.some.injEq, Prod.mk.injEq] at ht
   obtain ⟨rfl, rfl, rfl⟩ := ht
   exact ⟨Nat.le_refl _, fun _ => ⟨_, Nat.le_refl _, rfl⟩⟩
 exact fun Kr Q hq => h _ w a hs3 Kr Q fun a' w' st' E' hev' => hq a' w' st' E' (hev.trans hev')
/-- append of nothing onto an own slice. -/
theorem ukp {t e : TypeId} {sz bytes n ver m : Nat} [AppT P t e sz bytes] {s x : Operand} {tk : Tok} (ho : o.op = .call { callee := .builtin .append, args := #[s, x], argTypes := #[t, t] }) (hs : evC st s = .own n ver m) (hx : evC st x = .list [] tk) : NStep P o st (.own n ver m) := fun E w a hsim => by
 obtain ⟨ht, i, z, hie, hz, h1, h2, h3⟩ := AppT.spec (P := P) (t := t) (e := e) (sz := sz) (bytes := bytes)
 have hown := hs ▸ hsim.ev s
 obtain ⟨ad, cap, e1, q1, q2, q3, q4⟩ := ubf hown
 obtain ⟨ao, c, _, _, e3, _⟩ := (hx ▸ hsim.ev x).list_inv
 refine ⟨a.eval s, hown, fun w' => ?_⟩
 have hrun := ru (P := P) w' t o.type e i ht hie ad ao m cap c q2
 simp only [execOp, ho, resolve, invoke, builtin, Sem.run_bind, Sem.run_pure, Result.andThen_ok, List.map_toArray, List.map_cons, List.map_nil, e1, e3]
 rw [List.length_nil] at *
 rw [hrun]; rfl
/-- append of data onto an own slice. -/
theorem ueb {α : Type} [Enc α] {t e : TypeId} {bytes n ver wv : Nat} [AppT P t e (Enc.n α) bytes] {s x : Operand} {tk : Tok} {rows : List (List C)} {xs : List α} {m : Nat} {cs : List C} (ys : List α) (ho : o.op = .call { callee := .builtin .append, args := #[s, x], argTypes := #[t, t] }) (hs : evC st s = .own n ver m) (hG : st.G n = some (.arr ver wv e (Enc.n α) m cs)) (hc : cs = bt xs) (hm : m = xs.length) (hx : evC st x = .list rows tk) (hy : rows = ys.map cells) (hb : (xs.length + ys.length) * bytes ≤ 140737488355328) (hmax : xs.length + ys.length ≤ 9223372036854775807)
  (h : ∀ v : Nat, K (St.put { st with G := ah st.G n (.arr v wv e (Enc.n α) (xs ++ ys).length (bt (xs ++ ys))) } o.dst (.own n v (xs ++ ys).length))) : EStep P o st K := by
 subst hc; subst hm; subst hy
 by_cases h0 : ys = []
 ·subst h0
  have h1 := h ver
  simp only [List.append_nil] at h1
  have h2 : ah st.G n (.arr ver wv e (Enc.n α) xs.length (bt xs)) = st.G := by
   funext k
   simp only [ah]
   split
   ·rename_i e; rw [e, hG]
   ·rfl
  rw [h2] at h1
  exact SStep.e' (NStep.s (D := fun _ => True) (ukp ho hs hx)) h1
 ·refine uec ho hs hG hx (mz ys) (by simpa using hb) (by simpa using hmax) (by simpa using h0) ?_
  have h1 := h (ver + 1)
  rw [vf] at h1
  simpa [bt] using h1
/-- .. ahead of which a part of it is given up. -/
theorem un0 {α : Type} [Enc α] (i : Nat) {t e : TypeId} {bytes n ver wv len : Nat} [AppT P t e (Enc.n α) bytes] {x : Operand} {tk : Tok} {rows : List (List C)} (xs : List α) {m : Nat} {cs : List C} (ys : List α) (ho : o.op = .call { callee := .builtin .append, args := #[.tmp i, x], argTypes := #[t, t] }) (h0 : st.at i = .own n ver m) (hi : Nat.blt i st.n = true) (hG : st.G n = some (.arr ver wv e (Enc.n α) len cs)) (hc : cs.take (m * Enc.n α) = bt xs) (hm : m = xs.length) (hx : evC { st with r := (i, .own n (ver + 1) m) :: st.r } x = .list rows tk) (hy : rows = ys.map cells) (hb : (xs.length + ys.length) * bytes ≤ 140737488355328) (hmax : xs.length + ys.length ≤ 9223372036854775807)
  (h : ∀ v : Nat, K (St.put { st with r := (i, .own n (ver + 1) m) :: st.r, G := ah (ah st.G n (.arr (ver + 1) wv e (Enc.n α) m (bt xs))) n (.arr v wv e (Enc.n α) (xs ++ ys).length (bt (xs ++ ys))) } o.dst (.own n v (xs ++ ys).length))) : EStep P o st K := by
 refine e_cut i h0 hG ?_
 rw [hc]
 refine ueb (xs := xs) ys ho ?_ (jd _ _ _) rfl hm hx hy hb hmax h
 show St.at _ i = _
 unfold St.at
 dsimp only
 rw [hi]
 simp [bi]
/-- An own slice is laid for good, ahead of an operation. -/
theorem ud9 {α : Type} [Enc α] (i : Nat) {n ver wv len sz : Nat} {tt : TypeId} {cs : List C} (xs : List α) (h0 : st.at i = .own n ver len) (hG : st.G n = some (.arr ver wv tt sz len cs)) (hsz : sz = Enc.n α) (hcs : cs = bt xs) (hlen : len = xs.length) (h : EStep P o { st with r := (i, lst xs) :: st.r, G := fl st.G n } K) : EStep P o st K := by
 intro E w a hs
 obtain ⟨E', hE, hg', hl⟩ := t8 hs.g xs hG hsz hcs hlen
 have hp := hs.at i
 rw [h0] at hp
 have hs2 := hs.evd hE hg'
 have hs3 : Sim E' w { st with r := (i, lst xs) :: st.r, G := fl st.G n } a := by
  refine ⟨hs2.d, hs.sz, fun j v hj => ?_, hg'⟩
  simp only [bi]
  cases hb : Nat.beq i j
  ·exact hs2.t j v hj
  ·have hij := Nat.eq_of_beq_eq_true hb
   subst hij
   have hv : a.tmps.getD i undef = v := by rw [Array.getD_eq_getD_getElem?, hj]; rfl
   exact hl v (hv ▸ hp)
 exact fun Kr Q hq => h _ w a hs3 Kr Q fun a' w' st' E' hev' => hq a' w' st' E' (hE.trans hev')
theorem umr {α : Type} [Inhabited α] (enc : α → Value) {w : World} {g n : Nat} {cur : Array Value} {e : TypeId} {fr : Nat × Nat} (F : Array α) (hb : w.heap[g]? = some (.cells cur e fr)) :
  (Sort.putRow enc (Sort.ahead w n) g 0 F).heap[g]? = some (.cells (Sort.putCells enc 0 F cur) e fr) := by
 simp [Sort.putRow, Sort.mapBlock, Sort.ahead, Array.getElem?_modify, hb, Sort.onCells]
theorem uda {α : Type} [Inhabited α] (enc : α → Value) {w : World} {g n k : Nat} (F : Array α) (hne : k ≠ g) : (Sort.putRow enc (Sort.ahead w n) g 0 F).heap[k]? = w.heap[k]? := by
 simp [Sort.putRow, Sort.mapBlock, Sort.ahead, Array.getElem?_modify, Ne.symm hne]
theorem ugx {α : Type} [Inhabited α] (enc : α → Value) (cur : Array Value) (F : Array α) (m : Nat) (hm : m ≤ F.size) (h : F.size ≤ cur.size) : (Sort.putCells enc 0 F cur).toList.take m = (F.toList.take m).map enc := by
 apply List.ext_getElem?
 intro j
 by_cases hj : j < m
 ·rw [List.getElem?_take_of_lt hj, List.getElem?_map, List.getElem?_take_of_lt hj, Array.getElem?_toList, Array.getElem?_toList]
  have h1 : j < F.size := by omega
  simp [Sort.putCells, h1, show j < cur.size by omega]
 ·rw [List.getElem?_take_eq_none (by omega), List.getElem?_eq_none (by simp; omega)]
/-- slices.DeleteFunc of what is the frame's own. -/
theorem unz {β : Type} [Enc β] [Inhabited β] {q : Go.Shelf.Ren} (L : SlLaysH.n10 P q) {n ver wv m : Nat} {e : TypeId} {xs : List β} {cs : List C} (enc : β → Value) (henc : ∀ y : β, cells y = [.v (enc y)]) (h1c : ∀ y, (enc y).oneCell' = true) (p : β → Bool) (zr : β) (hz : ∀ w, (zeroValue (q.t 23)).run P w = .ok (enc zr) w) {f g : FuncId} [Fun P g] {fv s x : Operand} {ats : Array TypeId}
  (ho : o.op = .call { callee := .value fv, args := #[s, x], argTypes := ats }) (hf : evC st fv = .fn (.func f) []) (hfq : f = q.f 10) (hs : evC st s = .own n ver m) (hG : st.G n = some (.arr ver wv e 1 m cs)) (hcs : cs = bt xs) (hm : m = xs.length) (hne : xs ≠ []) (hmx : xs.length ≤ 9223372036854775807) (hx : evC st x = .fn (.func g) [])
  (hp : ∀ (W : World) (y : β), Calls P g #[enc y] W fun e w' => e = .returned (.bool (p y)) ∧ ∃ q, w' = W.drewN q) {zs : List β} (hzs : (xs.filter fun y => !p y) = zs)
  (h : K (St.put { st with G := ah st.G n (.arr (ver + 1) wv e 1 zs.length (bt zs)) } o.dst (.own n (ver + 1) zs.length))) : EStep P o st K := by
 subst hfq; subst hcs; subst hm; subst hzs
 intro E w a hsim Kr Q hq
 obtain ⟨fs, e1, hfs⟩ := (hf ▸ hsim.ev fv).fn_inv
 have hfs0 : fs = [] := List.eq_nil_of_length_eq_zero hfs.1
 subst hfs0
 obtain ⟨vs, e2, hvs⟩ := (hx ▸ hsim.ev x).fn_inv
 have hvs0 : vs = [] := List.eq_nil_of_length_eq_zero hvs.1
 subst hvs0
 obtain ⟨val, us, hT, hown, hcone, hrs, hL, hsz1⟩ := hsim.g.obj n _ hG
 obtain ⟨e3, q1, ad, cap, e4, h6, h7⟩ := r8 (hs ▸ hsim.ev s) hT hown
 unfold Oper.wp
 have hrun : (execOp a.eval o).run P w = .ok (.enter (q.f 10) #[a.eval s, a.eval x]) w := by
  simp only [execOp, ho, resolve, e1]
  have hcf6 := L.f10.enters rfl #[a.eval s, a.eval x] w
  simpa [Deferred.ofValue, invoke] using hcf6
 rw [hrun, e2, e4]
 have hn1 : 1 ≤ xs.length := by cases xs with | nil => exact absurd rfl hne | cons => simp
 obtain ⟨gb, cap', cur, hval, hgB, hh, hc1, hc2, hc3, hc4⟩ : ∃ gb cap' cur, val = .slice (some ⟨gb, 0, none⟩) xs.length cap' ∧ E.B ≤ gb ∧ w.heap[gb]? = some (.cells cur e (0, 0)) ∧ xs.length ≤ cap' ∧ cap' ≤ maxLen ∧ cur.size = cap' * 1 ∧ us = cur.toList.take (xs.length * 1) := by
  rcases hown.2 with ⟨_, q0⟩ | ⟨g', c', cu, q2, q3, q4, q5, q6, q7, q8⟩
  ·omega
  ·exact ⟨g', c', cu, q2, q3, q4, q5, q6, q7, q8.symm⟩
 have e5 : ad = some ⟨gb, 0, none⟩ ∧ cap = cap' := by
  have := e4.symm.trans (e3.trans hval)
  simp only [Value.slice.injEq] at this
  exact ⟨this.1, this.2.2⟩
 obtain ⟨rfl, rfl⟩ := e5
 have hgb := (Array.getElem?_eq_some_iff.1 hh).1
 have hflat : ∀ l : List β, bt l = l.map fun y => .v (enc y) := fun l => by
  induction l with
  | nil => rfl
  | cons y l ih => simp only [bt, List.map_cons, List.flatten_cons, henc] at ih ⊢; rw [ih]; rfl
 have hus : us = xs.map enc := by
  apply List.ext_getElem?
  intro j
  rw [List.getElem?_map]
  have hlen := hrs.1
  rw [hflat, List.length_map] at hlen
  cases hj : xs[j]? with
  | none =>
   have := List.getElem?_eq_none_iff.1 hj
   rw [List.getElem?_eq_none (by omega)]; rfl
  | some y =>
   have hlt := (List.getElem?_eq_some_iff.1 hj).1
   rw [List.getElem?_eq_getElem (show j < us.length by omega)]
   have := hrs.2 j (.v (enc y)) us[j] (by rw [hflat, List.getElem?_map, hj]; rfl) (List.getElem?_eq_getElem (by omega))
   rw [this.v_inv]; rfl
 have hokx : ∀ y ∈ xs, okV (enc y) = true := fun y hy => by
  obtain ⟨j, hj⟩ := List.getElem?_of_mem hy
  have hlt := (List.getElem?_eq_some_iff.1 hj).1
  have hlu : j < us.length := by rw [hus, List.length_map]; exact hlt
  have := hrs.2 j (.v (enc y)) us[j] (by rw [hflat, List.getElem?_map, hj]; rfl) (List.getElem?_eq_getElem hlu)
  exact this.okVv
 have hcur : xs.length ≤ cur.size := by rw [hc3, Nat.mul_one]; exact hc1
 have hH : Sort.Holds enc w gb 0 xs.toArray := by
  intro j hj
  rw [List.size_toArray] at hj
  have h9 : us[j]? = some (enc xs.toArray[j]!) := by
   rw [hus, List.getElem?_map, List.getElem?_eq_getElem hj, getElem!_pos xs.toArray j (by simpa using hj)]
   simp
  rw [hc4, List.getElem?_take_of_lt (by omega), Array.getElem?_toList] at h9
  refine ⟨by rw [Nat.zero_add]; exact li hh h9, ?_⟩
  simp [World.frozen?, hh]
 have hO : OneCell enc := h1c
 have hcall := AnyE.slices_DeleteFunc L enc hO p g #[] (fun args w => tq args w) zr hz gb 0 cap xs.toArray w
  (fun W y _ => by
   unfold FnGives
   exact hp W y)
  (fun n' os dk y _ => by
   unfold FnGives
   exact hp _ y) hH (by simpa using hmx) (by simpa using hc1)
 rw [List.size_toArray] at hcall
 refine hcall.mono ?_
 rintro e' w' ⟨rfl, qn, hw⟩
 have hfl : (xs.filter fun y => !p y).length ≤ xs.length := List.length_filter_le _ _
 generalize hys : (xs.filter fun y => !p y) = ys at hw h hfl ⊢
 have hyx : ∀ y ∈ ys, y ∈ xs := fun y hy => by rw [← hys] at hy; exact (List.mem_filter.1 hy).1
 generalize hD : (ys ++ List.replicate (xs.length - ys.length) zr).toArray = D at hw
 have hDs : D.size = xs.length := by rw [← hD]; simp; omega
 have hDt : D.toList.take ys.length = ys := by rw [← hD]; simp
 subst hw
 have hnew := umr enc (n := qn) D hh
 have hblk : blk val = some gb := by rw [hval]; rfl
 have hchg : Chg E w (Sort.putRow enc (Sort.ahead w qn) gb 0 D) ver wv val (ver + 1) wv (.slice (some ⟨gb, 0, none⟩) ys.length cap) 0 := by
  refine ⟨⟨rfl, rfl, rfl, ?_, fun k hk => uda enc D (by omega)⟩, fun k hk hne => uda enc D fun e => hne (by rw [e, hblk]), fun b hb => .inl ⟨?_, ?_⟩, fun b i hb hi => ?_, .inl (Nat.lt_succ_self _), fun b o hb ho => ?_, fun _ b hb => ?_, fun b _ hl => absurd hl (Nat.not_lt_zero _)⟩
  ·rw [Sort.size_putRow]; exact Nat.le_refl _
  ·simp only [blk, Option.some.injEq] at hb; subst hb; exact hblk
  ·simp only [blk, Option.some.injEq] at hb; subst hb; rw [hL _ hblk]; exact Nat.le_refl _
  ·rw [hL b hb] at hi; omega
  ·rw [hblk] at hb; cases hb; rw [hh] at ho; cases ho; exact ⟨_, hnew, rfl⟩
  ·simp only [blk, Option.some.injEq] at hb; subst hb; exact ⟨_, hnew, rfl⟩
 have hev := Ev.chg hsim.g hT hchg
 have hobj : ObjOk (E.chg n (ver + 1, wv, .slice (some ⟨gb, 0, none⟩) ys.length cap) 0) (Sort.putRow enc (Sort.ahead w qn) gb 0 D) n (.arr (ver + 1) wv e 1 ys.length (bt ys)) := by
  refine ⟨_, ys.map enc, by simp [Env.chg], ⟨by simp, .inr ⟨gb, cap, _, rfl, hgB, hnew, by omega, hc2, ?_, ?_⟩⟩, fun c hc => ?_, ?_, fun b hb => by simp [Env.chg, hb], Nat.le_refl _⟩
  ·simp only [Sort.putCells, Array.size_mapIdx]; exact hc3
  ·rw [Nat.mul_one, ugx enc _ _ _ (by omega) (by omega), hDt]
  ·rw [hflat] at hc
   obtain ⟨y, _, rfl⟩ := List.mem_map.1 hc
   rfl
  ·refine ⟨by rw [hflat]; simp, fun j c v hc hv => ?_⟩
   rw [hflat, List.getElem?_map] at hc
   rw [List.getElem?_map] at hv
   cases hj : ys[j]? with
   | none => rw [hj] at hc; cases hc
   | some y =>
    rw [hj] at hc hv
    cases hc; cases hv
    exact .v (hokx y (hyx y (List.mem_of_getElem? hj)))
 refine hq _ _ _ _ hev ((hsim.evd hev (SimG.chg hsim.g hT hchg hobj)).put o.dst (.own ?_ (by omega) h7 fun ver' wv' val' ht => ?_)) h
 ·exact q1
 ·simp only [Env.chg, if_true, Option.some.injEq, Prod.mk.injEq] at ht
  obtain ⟨rfl, rfl, rfl⟩ := ht
  exact ⟨Nat.le_refl _, fun _ => ⟨_, Nat.le_refl _, rfl⟩⟩
end
end Go.AB
