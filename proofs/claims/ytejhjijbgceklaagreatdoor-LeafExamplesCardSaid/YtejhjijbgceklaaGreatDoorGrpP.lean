/-
  What the walks through the program rest on: values, states, steps, calls (AbCut, AbSortS).
-/
import Derived.Test.YtejhjijbgceklaaGreatDoorAbSort
import Derived.Test.YtejhjijbgceklaaGreatDoorAbTwin
import Derived.Shelf.SlicesE.DeleteFunc
namespace Go.AB
open Go Go.RowKit Go.Shelf Go.Proofs
open Go.AB.Enc (cells)
section
variable {P : Program} {o : Oper} {st : St} {K : St → Prop}
theorem R.okVv {E : Env} {w : World} {x v : Value} (h : R E w (.v x) v) : okV x = true := by
 cases h with
 | v h => exact h
theorem own_form {E : Env} {w : World} {v : Value} {n ver len : Nat} (hp : R E w (.own n ver len) v) : ∃ a cap, v = .slice a len cap ∧ n < E.nx ∧ len ≤ cap ∧ cap ≤ maxLen ∧ ∀ ver' wv val, E.T n = some (ver', wv, val) → ver ≤ ver' ∧ (ver = ver' → ∃ m, len ≤ m ∧ val = .slice a m cap) := by
 cases hp with
 | own h1 h2 h3 h4 => exact ⟨_, _, rfl, h1, h2, h3, h4⟩
/-- What is ahead of some of an own slice. -/
theorem n_slice_own {t e : TypeId} {sz : Nat} {ag : Bool} [Elt P t e] [Ty P e ag sz] {x y : Operand} {m ver len : Nat} {ik : IntKind} {n : Int} {k : Nat} (ho : o.op = .slice t x none (some y) none) (hx : evC st x = .own m ver len) (hy : evC st y = .v (.int ik n)) (hn : n = (k : Int)) (hk : k ≤ len) : NStep P o st (.own m ver k) := fun E w a hs => by
 subst hn
 have e1 := (hy ▸ hs.ev y).v_inv
 obtain ⟨ad, cap, hv, h1, h2, h3, h4⟩ := own_form (hx ▸ hs.ev x)
 have q1 := Elt.spec (P := P) (t := t) (e := e)
 have hel : P.elem t = e := by simp [Program.elem, q1]
 have q2 := fun w => Ty.size (P := P) (w := w) (t := e) (ag := ag) (n := sz)
 have e3 : (if cap = 0 then ad else ad.map (·.add (0 * sz))) = ad := by
  split
  ·rfl
  ·cases ad with
   | none => rfl
   | some ad => obtain ⟨b, off, sp⟩ := ad; simp [Addr.add]
 refine ⟨.slice ad k cap, .own h1 (Nat.le_trans hk h2) h3 fun ver' wv val ht => ?_, fun w' => ?_⟩
 ·obtain ⟨h5, h6⟩ := h4 _ _ _ ht
  exact ⟨h5, fun e => let ⟨m', h7, h8⟩ := h6 e; ⟨m', Nat.le_trans hk h7, h8⟩⟩
 ·have hs1 := run_slice_h (P := P) (w := w') t ad len cap (by rw [hel]; exact q1) ik (k : Int) (by omega) (by omega)
  have hs2 := run_sliceAt_slice (P := P) (w := w') t (.slice ad len cap) none (some (.int ik (k : Int))) none (by rw [hel]; exact q1)
  simp only [execOp, ho, hv, e1, Option.map_none, Option.map_some, Sem.run_bind, hs2, hs1, hel, q2, Result.andThen_ok, sliced, Int.toNat_natCast, e3, Nat.sub_zero]
  rfl
theorem ownsRow_form {B : Nat} {w : World} {tt : TypeId} {sz len : Nat} {val : Value} {us : List Value} (h : w.ownsRow B tt sz val len us) {a : Option Addr} {m cap : Nat} (e : val = .slice a m cap) : m = len ∧ (∀ b, blk val = some b → ∃ o : Obj, w.heap[b]? = some o ∧ o.isCells = true) := by
 subst e
 rcases h.2 with ⟨e, e0⟩ | ⟨g, cap, cur, e, _, hh, _⟩
 ·cases e
  exact ⟨e0.symm, fun b hb => by simp [blk] at hb⟩
 ·cases e
  exact ⟨rfl, fun b hb => by simp only [blk, Option.some.injEq] at hb; subst hb; exact ⟨_, hh, rfl⟩⟩
theorem ownsRow_cut {B : Nat} {w : World} {tt : TypeId} {sz len k cap : Nat} {a : Option Addr} {us : List Value} (h : w.ownsRow B tt sz (.slice a len cap) len us) (hk : k ≤ len) : w.ownsRow B tt sz (.slice a k cap) k (us.take (k * sz)) := by
 have hm : k * sz ≤ len * sz := Nat.mul_le_mul_right _ hk
 refine ⟨by rw [List.length_take, h.1]; omega, ?_⟩
 rcases h.2 with ⟨e, e0⟩ | ⟨g, cap, cur, e, h1, h2, h3, h4, h5, h6⟩
 ·cases e
  left
  obtain rfl : k = 0 := by omega
  exact ⟨rfl, rfl⟩
 ·cases e
  right
  refine ⟨g, cap, cur, rfl, h1, h2, by omega, h4, h5, ?_⟩
  rw [← h6, List.take_take]
  congr 1
  omega
/-- The cells behind it are given up. -/
theorem e_cut (i : Nat) {n ver wv len k : Nat} {e : TypeId} {sz : Nat} {cs : List C} (h0 : st.at i = .own n ver k) (hG : st.G n = some (.arr ver wv e sz len cs)) (h : EStep P o { st with r := (i, .own n (ver + 1) k) :: st.r, G := setG st.G n (.arr (ver + 1) wv e sz k (cs.take (k * sz))) } K) : EStep P o st K := by
 intro E w a hs
 obtain ⟨val, us, hT, hown, hcone, hrs, hL, hsz1⟩ := hs.g.obj n _ hG
 have hp := hs.at i
 rw [h0] at hp
 obtain ⟨ad, m, cap, e1, e2, hk, hnx, hkc, hcm⟩ := own_pre hp hT
 obtain ⟨rfl, hcells⟩ := ownsRow_form hown e2
 have hblk : blk (.slice ad k cap) = blk val := by rw [e2]; cases ad <;> rfl
 have hchg : Chg E w w ver wv val (ver + 1) wv (.slice ad k cap) 0 :=
  ⟨Below.refl _ _, fun _ _ _ => rfl, fun b hb => .inl ⟨hblk ▸ hb, by rw [hL b (hblk ▸ hb)]; exact Nat.le_refl _⟩, fun _ _ _ _ => rfl, .inl (Nat.lt_succ_self _), fun b o _ ho => ⟨o, ho, rfl⟩, fun _ b hb => hcells b (hblk ▸ hb), fun b _ hl => absurd hl (Nat.not_lt_zero _)⟩
 have hev := Ev.chg hs.g hT hchg
 have hobj : ObjOk (E.chg n (ver + 1, wv, .slice ad k cap) 0) w n (.arr (ver + 1) wv e sz k (cs.take (k * sz))) :=
  ⟨.slice ad k cap, us.take (k * sz), by simp [Env.chg], ownsRow_cut (e2 ▸ hown) hk, fun c hc => hcone c (List.mem_of_mem_take hc), (hrs.ev hev).take _, fun b hb => by simp [Env.chg, hb], hsz1⟩
 have hg := SimG.chg hs.g hT hchg hobj
 have hs2 := hs.evd hev hg
 have hs3 : Sim (E.chg n (ver + 1, wv, .slice ad k cap) 0) w { st with r := (i, .own n (ver + 1) k) :: st.r, G := setG st.G n (.arr (ver + 1) wv e sz k (cs.take (k * sz))) } a := by
  refine ⟨hs2.d, hs.sz, fun j v hj => ?_, hg⟩
  simp only [getA]
  cases hb : Nat.beq i j
  ·exact hs2.t j v hj
  ·have hij := Nat.eq_of_beq_eq_true hb
   subst hij
   have hv : a.tmps.getD i undef = v := by rw [Array.getD_eq_getD_getElem?, hj]; rfl
   rw [hv] at e1
   rw [e1]
   refine .own hnx hkc hcm fun ver' wv' val' ht => ?_
   simp only [Env.chg, if_true, Option.some.injEq, Prod.mk.injEq] at ht
   obtain ⟨rfl, rfl, rfl⟩ := ht
   exact ⟨Nat.le_refl _, fun _ => ⟨_, Nat.le_refl _, rfl⟩⟩
 exact fun Kr Q hq => h _ w a hs3 Kr Q fun a' w' st' E' hev' => hq a' w' st' E' (hev.trans hev')
/-- append of nothing onto an own slice. -/
theorem n_append_own_nil {t e : TypeId} {sz bytes n ver m : Nat} [AppT P t e sz bytes] {s x : Operand} {tk : Tok} (ho : o.op = .call { callee := .builtin .append, args := #[s, x], argTypes := #[t, t] }) (hs : evC st s = .own n ver m) (hx : evC st x = .list [] tk) : NStep P o st (.own n ver m) := fun E w a hsim => by
 obtain ⟨ht, i, z, hie, hz, h1, h2, h3⟩ := AppT.spec (P := P) (t := t) (e := e) (sz := sz) (bytes := bytes)
 have hown := hs ▸ hsim.ev s
 obtain ⟨ad, cap, e1, q1, q2, q3, q4⟩ := own_form hown
 obtain ⟨ao, c, _, _, e3, _⟩ := (hx ▸ hsim.ev x).list_inv
 refine ⟨a.eval s, hown, fun w' => ?_⟩
 have hrun := run_append_zero0 (P := P) w' t o.type e i ht hie ad ao m cap c q2
 simp only [execOp, ho, resolve, invoke, builtin, Sem.run_bind, Sem.run_pure, Result.andThen_ok, List.map_toArray, List.map_cons, List.map_nil, e1, e3]
 rw [List.length_nil] at *
 rw [hrun]; rfl
/-- append of data onto an own slice. -/
theorem e_append_own_any {α : Type} [Enc α] {t e : TypeId} {bytes n ver wv : Nat} [AppT P t e (Enc.n α) bytes] {s x : Operand} {tk : Tok} {rows : List (List C)} {xs : List α} {m : Nat} {cs : List C} (ys : List α) (ho : o.op = .call { callee := .builtin .append, args := #[s, x], argTypes := #[t, t] }) (hs : evC st s = .own n ver m) (hG : st.G n = some (.arr ver wv e (Enc.n α) m cs)) (hc : cs = flatC xs) (hm : m = xs.length) (hx : evC st x = .list rows tk) (hy : rows = ys.map cells) (hb : (xs.length + ys.length) * bytes ≤ 140737488355328) (hmax : xs.length + ys.length ≤ 9223372036854775807)
  (h : ∀ v : Nat, K (St.put { st with G := setG st.G n (.arr v wv e (Enc.n α) (xs ++ ys).length (flatC (xs ++ ys))) } o.dst (.own n v (xs ++ ys).length))) : EStep P o st K := by
 subst hc; subst hm; subst hy
 by_cases h0 : ys = []
 ·subst h0
  have h1 := h ver
  simp only [List.append_nil] at h1
  have h2 : setG st.G n (.arr ver wv e (Enc.n α) xs.length (flatC xs)) = st.G := by
   funext k
   simp only [setG]
   split
   ·rename_i e; rw [e, hG]
   ·rfl
  rw [h2] at h1
  exact SStep.e' (NStep.s (D := fun _ => True) (n_append_own_nil ho hs hx)) h1
 ·refine e_append_own0 ho hs hG hx (map_len ys) (by simpa using hb) (by simpa using hmax) (by simpa using h0) ?_
  have h1 := h (ver + 1)
  rw [flatC_append] at h1
  simpa [flatC] using h1
/-- .. ahead of which a part of it is given up. -/
theorem e_cut_append {α : Type} [Enc α] (i : Nat) {t e : TypeId} {bytes n ver wv len : Nat} [AppT P t e (Enc.n α) bytes] {x : Operand} {tk : Tok} {rows : List (List C)} (xs : List α) {m : Nat} {cs : List C} (ys : List α) (ho : o.op = .call { callee := .builtin .append, args := #[.tmp i, x], argTypes := #[t, t] }) (h0 : st.at i = .own n ver m) (hi : Nat.blt i st.n = true) (hG : st.G n = some (.arr ver wv e (Enc.n α) len cs)) (hc : cs.take (m * Enc.n α) = flatC xs) (hm : m = xs.length) (hx : evC { st with r := (i, .own n (ver + 1) m) :: st.r } x = .list rows tk) (hy : rows = ys.map cells) (hb : (xs.length + ys.length) * bytes ≤ 140737488355328) (hmax : xs.length + ys.length ≤ 9223372036854775807)
  (h : ∀ v : Nat, K (St.put { st with r := (i, .own n (ver + 1) m) :: st.r, G := setG (setG st.G n (.arr (ver + 1) wv e (Enc.n α) m (flatC xs))) n (.arr v wv e (Enc.n α) (xs ++ ys).length (flatC (xs ++ ys))) } o.dst (.own n v (xs ++ ys).length))) : EStep P o st K := by
 refine e_cut i h0 hG ?_
 rw [hc]
 refine e_append_own_any (xs := xs) ys ho ?_ (setG_same _ _ _) rfl hm hx hy hb hmax h
 show St.at _ i = _
 unfold St.at
 dsimp only
 rw [hi]
 simp [getA]
/-- An own slice is laid for good, ahead of an operation. -/
theorem e_commit_own {α : Type} [Enc α] (i : Nat) {n ver wv len sz : Nat} {tt : TypeId} {cs : List C} (xs : List α) (h0 : st.at i = .own n ver len) (hG : st.G n = some (.arr ver wv tt sz len cs)) (hsz : sz = Enc.n α) (hcs : cs = flatC xs) (hlen : len = xs.length) (h : EStep P o { st with r := (i, lst xs) :: st.r, G := delG st.G n } K) : EStep P o st K := by
 intro E w a hs
 obtain ⟨E', hE, hg', hl⟩ := own_commit_core hs.g xs hG hsz hcs hlen
 have hp := hs.at i
 rw [h0] at hp
 have hs2 := hs.evd hE hg'
 have hs3 : Sim E' w { st with r := (i, lst xs) :: st.r, G := delG st.G n } a := by
  refine ⟨hs2.d, hs.sz, fun j v hj => ?_, hg'⟩
  simp only [getA]
  cases hb : Nat.beq i j
  ·exact hs2.t j v hj
  ·have hij := Nat.eq_of_beq_eq_true hb
   subst hij
   have hv : a.tmps.getD i undef = v := by rw [Array.getD_eq_getD_getElem?, hj]; rfl
   exact hl v (hv ▸ hp)
 exact fun Kr Q hq => h _ w a hs3 Kr Q fun a' w' st' E' hev' => hq a' w' st' E' (hE.trans hev')
theorem heap_putE {α : Type} [Inhabited α] (enc : α → Value) {w : World} {g n : Nat} {cur : Array Value} {e : TypeId} {fr : Nat × Nat} (F : Array α) (hb : w.heap[g]? = some (.cells cur e fr)) :
  (Sort.putRow enc (Sort.ahead w n) g 0 F).heap[g]? = some (.cells (Sort.putCells enc 0 F cur) e fr) := by
 simp [Sort.putRow, Sort.mapBlock, Sort.ahead, Array.getElem?_modify, hb, Sort.onCells]
theorem heap_putE_other {α : Type} [Inhabited α] (enc : α → Value) {w : World} {g n k : Nat} (F : Array α) (hne : k ≠ g) : (Sort.putRow enc (Sort.ahead w n) g 0 F).heap[k]? = w.heap[k]? := by
 simp [Sort.putRow, Sort.mapBlock, Sort.ahead, Array.getElem?_modify, Ne.symm hne]
theorem take_putE {α : Type} [Inhabited α] (enc : α → Value) (cur : Array Value) (F : Array α) (m : Nat) (hm : m ≤ F.size) (h : F.size ≤ cur.size) : (Sort.putCells enc 0 F cur).toList.take m = (F.toList.take m).map enc := by
 apply List.ext_getElem?
 intro j
 by_cases hj : j < m
 ·rw [List.getElem?_take_of_lt hj, List.getElem?_map, List.getElem?_take_of_lt hj, Array.getElem?_toList, Array.getElem?_toList]
  have h1 : j < F.size := by omega
  simp [Sort.putCells, h1, show j < cur.size by omega]
 ·rw [List.getElem?_take_eq_none (by omega), List.getElem?_eq_none (by simp; omega)]
/-- slices.DeleteFunc of what is the frame's own. -/
theorem e_delFunc {β : Type} [Enc β] [Inhabited β] {q : Go.Shelf.Ren} (L : SlLaysH.n10 P q) {n ver wv m : Nat} {e : TypeId} {xs : List β} {cs : List C} (enc : β → Value) (henc : ∀ y : β, cells y = [.v (enc y)]) (h1c : ∀ y, (enc y).oneCell' = true) (p : β → Bool) (zr : β) (hz : ∀ w, (zeroValue (q.t 23)).run P w = .ok (enc zr) w) {f g : FuncId} [Fun P g] {fv s x : Operand} {ats : Array TypeId}
  (ho : o.op = .call { callee := .value fv, args := #[s, x], argTypes := ats }) (hf : evC st fv = .fn (.func f) []) (hfq : f = q.f 10) (hs : evC st s = .own n ver m) (hG : st.G n = some (.arr ver wv e 1 m cs)) (hcs : cs = flatC xs) (hm : m = xs.length) (hne : xs ≠ []) (hmx : xs.length ≤ 9223372036854775807) (hx : evC st x = .fn (.func g) [])
  (hp : ∀ (W : World) (y : β), Calls P g #[enc y] W fun e w' => e = .returned (.bool (p y)) ∧ ∃ q, w' = W.drewN q) {zs : List β} (hzs : (xs.filter fun y => !p y) = zs)
  (h : K (St.put { st with G := setG st.G n (.arr (ver + 1) wv e 1 zs.length (flatC zs)) } o.dst (.own n (ver + 1) zs.length))) : EStep P o st K := by
 subst hfq; subst hcs; subst hm; subst hzs
 intro E w a hsim Kr Q hq
 obtain ⟨fs, e1, hfs⟩ := (hf ▸ hsim.ev fv).fn_inv
 have hfs0 : fs = [] := List.eq_nil_of_length_eq_zero hfs.1
 subst hfs0
 obtain ⟨vs, e2, hvs⟩ := (hx ▸ hsim.ev x).fn_inv
 have hvs0 : vs = [] := List.eq_nil_of_length_eq_zero hvs.1
 subst hvs0
 obtain ⟨val, us, hT, hown, hcone, hrs, hL, hsz1⟩ := hsim.g.obj n _ hG
 obtain ⟨e3, q1, ad, cap, e4, h6, h7⟩ := own_at (hs ▸ hsim.ev s) hT hown
 unfold Oper.wp
 have hrun : (execOp a.eval o).run P w = .ok (.enter (q.f 10) #[a.eval s, a.eval x]) w := by
  simp only [execOp, ho, resolve, e1]
  have hcf6 := L.f10.enters rfl #[a.eval s, a.eval x] w
  simpa [Deferred.ofValue, invoke] using hcf6
 rw [hrun, e2, e4]
 have hn1 : 1 ≤ xs.length := by cases xs with | nil => exact absurd rfl hne | cons => simp
 obtain ⟨gb, cap', cur, hval, hgB, hh, hc1, hc2, hc3, hc4⟩ : ∃ gb cap' cur, val = .slice (some ⟨gb, 0, none⟩) xs.length cap' ∧ E.B ≤ gb ∧ w.heap[gb]? = some (.cells cur e (0, 0)) ∧ xs.length ≤ cap' ∧ cap' ≤ maxLen ∧ cur.size = cap' * 1 ∧ us = cur.toList.take (xs.length * 1) := by
  rcases hown.2 with ⟨_, q0⟩ | ⟨g', c', cu, q2, q3, q4, q5, q6, q7, q8⟩
  ·omega
  ·exact ⟨g', c', cu, q2, q3, q4, q5, q6, q7, q8.symm⟩
 have e5 : ad = some ⟨gb, 0, none⟩ ∧ cap = cap' := by
  have := e4.symm.trans (e3.trans hval)
  simp only [Value.slice.injEq] at this
  exact ⟨this.1, this.2.2⟩
 obtain ⟨rfl, rfl⟩ := e5
 have hgb := (Array.getElem?_eq_some_iff.1 hh).1
 have hflat : ∀ l : List β, flatC l = l.map fun y => .v (enc y) := fun l => by
  induction l with
  | nil => rfl
  | cons y l ih => simp only [flatC, List.map_cons, List.flatten_cons, henc] at ih ⊢; rw [ih]; rfl
 have hus : us = xs.map enc := by
  apply List.ext_getElem?
  intro j
  rw [List.getElem?_map]
  have hlen := hrs.1
  rw [hflat, List.length_map] at hlen
  cases hj : xs[j]? with
  | none =>
   have := List.getElem?_eq_none_iff.1 hj
   rw [List.getElem?_eq_none (by omega)]; rfl
  | some y =>
   have hlt := (List.getElem?_eq_some_iff.1 hj).1
   rw [List.getElem?_eq_getElem (show j < us.length by omega)]
   have := hrs.2 j (.v (enc y)) us[j] (by rw [hflat, List.getElem?_map, hj]; rfl) (List.getElem?_eq_getElem (by omega))
   rw [this.v_inv]; rfl
 have hokx : ∀ y ∈ xs, okV (enc y) = true := fun y hy => by
  obtain ⟨j, hj⟩ := List.getElem?_of_mem hy
  have hlt := (List.getElem?_eq_some_iff.1 hj).1
  have hlu : j < us.length := by rw [hus, List.length_map]; exact hlt
  have := hrs.2 j (.v (enc y)) us[j] (by rw [hflat, List.getElem?_map, hj]; rfl) (List.getElem?_eq_getElem hlu)
  exact this.okVv
 have hcur : xs.length ≤ cur.size := by rw [hc3, Nat.mul_one]; exact hc1
 have hH : Sort.Holds enc w gb 0 xs.toArray := by
  intro j hj
  rw [List.size_toArray] at hj
  have h9 : us[j]? = some (enc xs.toArray[j]!) := by
   rw [hus, List.getElem?_map, List.getElem?_eq_getElem hj, getElem!_pos xs.toArray j (by simpa using hj)]
   simp
  rw [hc4, List.getElem?_take_of_lt (by omega), Array.getElem?_toList] at h9
  refine ⟨by rw [Nat.zero_add]; exact cell_of_heap hh h9, ?_⟩
  simp [World.frozen?, hh]
 have hO : OneCell enc := h1c
 have hcall := AnyE.slices_DeleteFunc L enc hO p g #[] (fun args w => run_callFunc args w) zr hz gb 0 cap xs.toArray w
  (fun W y _ => by
   unfold FnGives
   exact hp W y)
  (fun n' os dk y _ => by
   unfold FnGives
   exact hp _ y) hH (by simpa using hmx) (by simpa using hc1)
 rw [List.size_toArray] at hcall
 refine hcall.mono ?_
 rintro e' w' ⟨rfl, qn, hw⟩
 have hfl : (xs.filter fun y => !p y).length ≤ xs.length := List.length_filter_le _ _
 generalize hys : (xs.filter fun y => !p y) = ys at hw h hfl ⊢
 have hyx : ∀ y ∈ ys, y ∈ xs := fun y hy => by rw [← hys] at hy; exact (List.mem_filter.1 hy).1
 generalize hD : (ys ++ List.replicate (xs.length - ys.length) zr).toArray = D at hw
 have hDs : D.size = xs.length := by rw [← hD]; simp; omega
 have hDt : D.toList.take ys.length = ys := by rw [← hD]; simp
 subst hw
 have hnew := heap_putE enc (n := qn) D hh
 have hblk : blk val = some gb := by rw [hval]; rfl
 have hchg : Chg E w (Sort.putRow enc (Sort.ahead w qn) gb 0 D) ver wv val (ver + 1) wv (.slice (some ⟨gb, 0, none⟩) ys.length cap) 0 := by
  refine ⟨⟨rfl, rfl, rfl, ?_, fun k hk => heap_putE_other enc D (by omega)⟩, fun k hk hne => heap_putE_other enc D fun e => hne (by rw [e, hblk]), fun b hb => .inl ⟨?_, ?_⟩, fun b i hb hi => ?_, .inl (Nat.lt_succ_self _), fun b o hb ho => ?_, fun _ b hb => ?_, fun b _ hl => absurd hl (Nat.not_lt_zero _)⟩
  ·rw [Sort.size_putRow]; exact Nat.le_refl _
  ·simp only [blk, Option.some.injEq] at hb; subst hb; exact hblk
  ·simp only [blk, Option.some.injEq] at hb; subst hb; rw [hL _ hblk]; exact Nat.le_refl _
  ·rw [hL b hb] at hi; omega
  ·rw [hblk] at hb; cases hb; rw [hh] at ho; cases ho; exact ⟨_, hnew, rfl⟩
  ·simp only [blk, Option.some.injEq] at hb; subst hb; exact ⟨_, hnew, rfl⟩
 have hev := Ev.chg hsim.g hT hchg
 have hobj : ObjOk (E.chg n (ver + 1, wv, .slice (some ⟨gb, 0, none⟩) ys.length cap) 0) (Sort.putRow enc (Sort.ahead w qn) gb 0 D) n (.arr (ver + 1) wv e 1 ys.length (flatC ys)) := by
  refine ⟨_, ys.map enc, by simp [Env.chg], ⟨by simp, .inr ⟨gb, cap, _, rfl, hgB, hnew, by omega, hc2, ?_, ?_⟩⟩, fun c hc => ?_, ?_, fun b hb => by simp [Env.chg, hb], Nat.le_refl _⟩
  ·simp only [Sort.putCells, Array.size_mapIdx]; exact hc3
  ·rw [Nat.mul_one, take_putE enc _ _ _ (by omega) (by omega), hDt]
  ·rw [hflat] at hc
   obtain ⟨y, _, rfl⟩ := List.mem_map.1 hc
   rfl
  ·refine ⟨by rw [hflat]; simp, fun j c v hc hv => ?_⟩
   rw [hflat, List.getElem?_map] at hc
   rw [List.getElem?_map] at hv
   cases hj : ys[j]? with
   | none => rw [hj] at hc; cases hc
   | some y =>
    rw [hj] at hc hv
    cases hc; cases hv
    exact .v (hokx y (hyx y (List.mem_of_getElem? hj)))
 refine hq _ _ _ _ hev ((hsim.evd hev (SimG.chg hsim.g hT hchg hobj)).put o.dst (.own ?_ (by omega) h7 fun ver' wv' val' ht => ?_)) h
 ·exact q1
 ·simp only [Env.chg, if_true, Option.some.injEq, Prod.mk.injEq] at ht
  obtain ⟨rfl, rfl, rfl⟩ := ht
  exact ⟨Nat.le_refl _, fun _ => ⟨_, Nat.le_refl _, rfl⟩⟩
end
end Go.AB
namespace Go.AB
open Go Go.RowKit Go.Proofs
open Go.AB.Enc (cells)
theorem flat_str (l : List ByteArray) : flatC l = l.map fun y => .v (.string y) := by
 induction l with
 | nil => rfl
 | cons y l ih =>
  have h1 : flatC (y :: l) = cells y ++ flatC l := by simp [flatC]
  rw [h1, ih]; rfl
theorem us_str {E : Env} {w : World} {l : List ByteArray} {us : List Value} (h : Rs E w (flatC l) us) : us = l.map Value.string ∧ ∀ y ∈ l, okV (Value.string y) = true := by
 have hlen := h.1
 rw [flat_str, List.length_map] at hlen
 have hj : ∀ j y, l[j]? = some y → us[j]? = some (Value.string y) ∧ okV (Value.string y) = true := fun j y hy => by
  have hlt := (List.getElem?_eq_some_iff.1 hy).1
  have h3 : us[j]? = some us[j] := List.getElem?_eq_getElem (by omega)
  have := h.2 j (.v (.string y)) us[j] (by rw [flat_str, List.getElem?_map, hy]; rfl) h3
  exact ⟨by rw [h3, this.v_inv], this.okVv⟩
 refine ⟨List.ext_getElem? fun j => ?_, fun y hy => ?_⟩
 ·rw [List.getElem?_map]
  cases hy : l[j]? with
  | none =>
   have := List.getElem?_eq_none_iff.1 hy
   rw [List.getElem?_eq_none (by omega)]; rfl
  | some y => exact (hj j y hy).1
 ·obtain ⟨j, hy⟩ := List.getElem?_of_mem hy
  exact (hj j y hy).2
theorem rs_str {E : Env} {w : World} {l : List ByteArray} (h : ∀ y ∈ l, okV (Value.string y) = true) : Rs E w (flatC l) (l.map Value.string) := by
 rw [flat_str]
 refine ⟨by simp, fun j c v hc hv => ?_⟩
 rw [List.getElem?_map] at hc hv
 cases hy : l[j]? with
 | none => rw [hy] at hc; cases hc
 | some y =>
  rw [hy] at hc hv
  cases hc; cases hv
  exact .v (h y (List.mem_of_getElem? hy))
theorem e_sortS {P : Program} {o : Oper} {st : St} {K : St → Prop} {q : Go.Shelf.Ren} (L : SlLaysF0.n6 P q) [Ty P (q.t 24) false 1] {n ver wv m : Nat} {e : TypeId} {xs : List ByteArray} {cs : List C} (cf : ByteArray → ByteArray → Int) {f g : FuncId} [Fun P g] {fv s x : Operand} {ats : Array TypeId}
  (ho : o.op = .call { callee := .value fv, args := #[s, x], argTypes := ats }) (hf : evC st fv = .fn (.func f) []) (hfq : f = q.f 6) (hs : evC st s = .own n ver m) (hG : st.G n = some (.arr ver wv e 1 m cs)) (hcs : cs = flatC xs) (hm : m = xs.length) (hx : evC st x = .fn (.func g) [])
  (hlen : xs.length < 4611686018427387904)
  (hcf : ∀ a b, Pure P g [.v (.string a), .v (.string b)] (.v (.int .i64 (cf a b)))) (hO : Ord3 (fun _ => True) cf)
  (h : ∀ ys : List ByteArray, ys.Perm xs → ys.Pairwise (fun a b => ¬ cf b a < 0) → K (St.put { st with G := setG st.G n (.arr ver (wv + 1) e 1 m (flatC ys)) } o.dst (.tup []))) : EStep P o st K := by
 subst hfq; subst hcs; subst hm
 intro E w a hsim Kr Q hq
 obtain ⟨fs, e1, hfs⟩ := (hf ▸ hsim.ev fv).fn_inv
 have hfs0 : fs = [] := List.eq_nil_of_length_eq_zero hfs.1
 subst hfs0
 obtain ⟨vs, e2, hvs⟩ := (hx ▸ hsim.ev x).fn_inv
 have hvs0 : vs = [] := List.eq_nil_of_length_eq_zero hvs.1
 subst hvs0
 obtain ⟨val, us, hT, hown, hcone, hrs, hL, hsz1⟩ := hsim.g.obj n _ hG
 obtain ⟨e3, q1, ad, cap, e4, h6, h7⟩ := own_at (hs ▸ hsim.ev s) hT hown
 obtain ⟨hus, hoks⟩ := us_str hrs
 unfold Oper.wp
 have hrun : (execOp a.eval o).run P w = .ok (.enter (q.f 6) #[a.eval s, a.eval x]) w := by
  simp only [execOp, ho, resolve, e1]
  have hcf6 := L.f6.enters rfl #[a.eval s, a.eval x] w
  simpa [Deferred.ofValue, invoke] using hcf6
 rw [hrun, e2, e4]
 -- what is changed
 have fin : ∀ (w' : World) (ys : List ByteArray), ys.Perm xs → ys.Pairwise (fun a b => ¬ cf b a < 0) → Below E.B w w' → (∀ k, k < w.heap.size → blk val ≠ some k → w'.heap[k]? = w.heap[k]?) →
   (∀ b (o : Obj), blk val = some b → w.heap[b]? = some o → ∃ o' : Obj, w'.heap[b]? = some o' ∧ o'.isCells = o.isCells) → w'.ownsRow E.B e 1 val xs.length (ys.map Value.string) →
   Kr (a.put o.dst (.tuple #[])) w' := by
  intro w' ys hp1 hp2 hb hold hic how'
  have hchg : Chg E w w' ver wv val ver (wv + 1) val 0 := ⟨hb, hold, fun b hb => .inl ⟨hb, by rw [hL b hb]; exact Nat.le_refl _⟩, fun b i hb hi => by rw [hL b hb] at hi; omega, .inr ⟨rfl, rfl, by omega⟩, hic, fun hv => absurd hv (Nat.lt_irrefl _), fun b _ hl => absurd hl (Nat.not_lt_zero _)⟩
  have hev := Ev.chg hsim.g hT hchg
  have hobj : ObjOk (E.chg n (ver, wv + 1, val) 0) w' n (.arr ver (wv + 1) e 1 xs.length (flatC ys)) :=
   ⟨val, ys.map Value.string, by simp [Env.chg], how', fun c hc => by rw [flat_str] at hc; obtain ⟨y, _, rfl⟩ := List.mem_map.1 hc; rfl, rs_str fun y hy => hoks y (hp1.mem_iff.1 hy), fun b hb => by simp [Env.chg, hb], hsz1⟩
  exact hq _ _ _ _ hev ((hsim.evd hev (SimG.chg hsim.g hT hchg hobj)).put o.dst (R.undef _ _)) (h ys hp1 hp2)
 by_cases h0 : xs = []
 ·subst h0
  refine (AnyF.slices_SortFunc_none L ad cap _ w).mono ?_
  rintro e' w' ⟨rfl, rfl⟩
  exact fin w' [] List.Perm.nil List.Pairwise.nil (Below.refl _ _) (fun _ _ _ => rfl) (fun b o _ ho => ⟨o, ho, rfl⟩) (hus ▸ hown)
 ·obtain ⟨y0, hy0⟩ := List.exists_mem_of_ne_nil xs h0
  letI : Inhabited { y : ByteArray // okV (Value.string y) = true } := ⟨⟨y0, hoks y0 hy0⟩⟩
  have hn1 : 1 ≤ xs.length := by cases xs with | nil => exact absurd rfl h0 | cons => simp
  obtain ⟨gb, cap', cur, hval, hgB, hh, hc1, hc2, hc3, hc4⟩ : ∃ gb cap' cur, val = .slice (some ⟨gb, 0, none⟩) xs.length cap' ∧ E.B ≤ gb ∧ w.heap[gb]? = some (.cells cur e (0, 0)) ∧ xs.length ≤ cap' ∧ cap' ≤ maxLen ∧ cur.size = cap' * 1 ∧ us = cur.toList.take (xs.length * 1) := by
   rcases hown.2 with ⟨_, q0⟩ | ⟨g', c', cu, q2, q3, q4, q5, q6, q7, q8⟩
   ·omega
   ·exact ⟨g', c', cu, q2, q3, q4, q5, q6, q7, q8.symm⟩
  have e5 : ad = some ⟨gb, 0, none⟩ ∧ cap = cap' := by
   have := e4.symm.trans (e3.trans hval)
   simp only [Value.slice.injEq] at this
   exact ⟨this.1, this.2.2⟩
  obtain ⟨rfl, rfl⟩ := e5
  have hgb := (Array.getElem?_eq_some_iff.1 hh).1
  let enc : { y : ByteArray // okV (Value.string y) = true } → Value := fun y => .string y.1
  let d : Array { y : ByteArray // okV (Value.string y) = true } := (xs.attachWith _ hoks).toArray
  have hd : d.toList.map (·.1) = xs := by simp [d]
  have hds : d.size = xs.length := by simp [d]
  have hcur : xs.length ≤ cur.size := by rw [hc3, Nat.mul_one]; exact hc1
  have hH : Sort.Holds enc w gb 0 d := by
   intro j hj
   rw [hds] at hj
   have h8 : d.toList.map enc = us := by rw [hus, ← hd, List.map_map]; rfl
   have h9 : us[j]? = some (enc d[j]!) := by
    rw [← h8, List.getElem?_map, Array.getElem?_toList, getElem!_pos d j (by rw [hds]; exact hj), Array.getElem?_eq_getElem]
    rfl
   rw [hc4, List.getElem?_take_of_lt (by omega), Array.getElem?_toList] at h9
   refine ⟨by rw [Nat.zero_add]; exact cell_of_heap hh h9, ?_⟩
   simp [World.frozen?, hh]
  have hcmp : CmpLays1 P g #[] enc (fun a b => cf a.1 b.1) gb 0 d.size w := by
   intro mm os dk hdk y z
   have hW1 : ∀ k, k < w.heap.size → k ≠ gb → (sortWorld enc w gb 0 mm dk os).heap[k]? = w.heap[k]? := fun k hk hne => by
    show (Sort.grow (Sort.putRow enc (Sort.ahead w mm) gb 0 dk) os).heap[k]? = _
    rw [Sort.heap_grow_old _ _ (by simpa using hk)]
    exact heap_putE_other enc dk hne
   have hW2 : w.heap.size ≤ (sortWorld enc w gb 0 mm dk os).heap.size := by
    show _ ≤ (Sort.grow (Sort.putRow enc (Sort.ahead w mm) gb 0 dk) os).heap.size
    rw [Sort.size_grow, Sort.size_putRow]; exact Nat.le_add_right _ _
   generalize sortWorld enc w gb 0 mm dk os = W at hW1 hW2
   have hLg : E.L gb = 0 := hL gb (by rw [hval]; rfl)
   have he : EvR E w (E.only fun k => decide (k ≠ n)) W := EvR.only E _ fun b i hi => by
    by_cases hbg : b = gb
    ·subst hbg; omega
    ·by_cases hbs : b < w.heap.size
     ·exact World.cell?_of_block (hW1 b hbs hbg)
     ·rw [hsim.g.fresh b (by omega)] at hi; omega
   have hg3 : SimG (E.only fun k => decide (k ≠ n)) W (delG st.G n) st.nx := hsim.g.move he rfl hW2 rfl (fun k t ht => (Env.only_of ht).1) (fun k o' ho' => by
    have hkn : k ≠ n := fun e => by subst e; simp [delG] at ho'
    exact ⟨(delG_other hkn).symm.trans ho', Env.only_same (decide_eq_true hkn)⟩) (fun k t b ht hb => by
    obtain ⟨h8, h9⟩ := Env.only_of ht
    have hkn : k ≠ n := of_decide_eq_true h9
    refine hW1 b (hsim.g.tb k _ _ _ b h8 hb).2 fun e => ?_
    subst e
    exact hsim.g.ap k n _ _ b h8 hT hkn hb (by show blk val = some b; rw [hval]; rfl))
   have hr3 : Rs (E.only fun k => decide (k ≠ n)) W [.v (.string y.1), .v (.string z.1)] [.string y.1, .string z.1] := Rs.cons (.v y.2) (Rs.cons (.v z.2) Rs.nil)
   have hc := exact_of_pc (hcf y.1 z.1 _ _) hr3 hg3
   have hargs : (#[enc y, enc z] ++ #[] : Array Value) = [Value.string y.1, .string z.1].toArray := by simp [enc]
   rw [hargs]
   refine hc.mono ?_
   rintro e' w' ⟨v, E', rfl, hv, hw⟩
   rw [hv.v_inv]
   exact ⟨rfl, hw⟩
  have hO' : Sort.SWO (ltOf fun a b : { y : ByteArray // okV (Value.string y) = true } => cf a.1 b.1) := ⟨fun y => decide_eq_false (hO.irrefl _ trivial), fun y z u h8 h9 => decide_eq_true (hO.trans _ _ _ trivial trivial trivial (of_decide_eq_true h8) (of_decide_eq_true h9)), fun y z u h8 h9 => decide_eq_false (hO.ntrans _ _ _ trivial trivial trivial (of_decide_eq_false h8) (of_decide_eq_false h9))⟩
  have L1 : SlLaysF.n6 P q := { L with a24 := fun w => Ty.row (P := P) (w := w), z24 := fun w => Ty.size (P := P) (w := w) }
  have hcall := Any.slices_SortFunc L1 enc (fun y => rfl) (fun a b => cf a.1 b.1) hO' g #[] gb 0 cap d w (fun args w => run_callFunc args w) hcmp hH hgb (by rw [hds]; exact hlen)
  rw [hds] at hcall
  refine hcall.mono ?_
  rintro e' w' ⟨rfl, d', nn, os, hperm, hsorted, hw⟩
  have hd's : d'.size = xs.length := hperm.1.trans hds
  have hpm : d'.toList.Perm d.toList := by
   have := hperm.2.2
   rwa [← hds, Array.extract_size, hds, ← hd's, Array.extract_size] at this
  subst hw
  have hold : ∀ k, k < w.heap.size → k ≠ gb → (sortWorld enc w gb 0 nn d' os).heap[k]? = w.heap[k]? := fun k hk hne => by
   show (Sort.grow (Sort.putRow enc (Sort.ahead w nn) gb 0 d') os).heap[k]? = _
   rw [Sort.heap_grow_old _ _ (by simpa using hk)]
   exact heap_putE_other enc d' hne
  have hnew : (sortWorld enc w gb 0 nn d' os).heap[gb]? = some (.cells (Sort.putCells enc 0 d' cur) e (0, 0)) := by
   show (Sort.grow (Sort.putRow enc (Sort.ahead w nn) gb 0 d') os).heap[gb]? = _
   rw [Sort.heap_grow_old _ _ (by simpa using hgb)]
   exact heap_putE enc d' hh
  refine fin _ (d'.toList.map (·.1)) (hd ▸ hpm.map _) ?_ ⟨rfl, rfl, rfl, ?_, fun k hk => hold k (Nat.lt_of_lt_of_le hk hsim.g.base) (by omega)⟩ (fun k hk hne => hold k hk fun e => hne (by rw [e, hval]; rfl)) (fun b o hb ho => ?_) ⟨?_, .inr ⟨gb, cap, _, hval, hgB, hnew, hc1, hc2, ?_, ?_⟩⟩
  ·rw [List.pairwise_map, List.pairwise_iff_getElem]
   intro i j hi hj hij
   rw [Array.length_toList] at hi hj
   have := of_decide_eq_false (hsorted i j (Nat.zero_le _) hij (by omega))
   rw [getElem!_pos d' i hi, getElem!_pos d' j hj] at this
   simpa using this
  ·show _ ≤ (Sort.grow (Sort.putRow enc (Sort.ahead w nn) gb 0 d') os).heap.size
   rw [Sort.size_grow, Sort.size_putRow]; exact Nat.le_add_right _ _
  ·rw [hval] at hb
   simp only [blk, Option.some.injEq] at hb
   subst hb
   rw [hh] at ho
   cases ho
   exact ⟨_, hnew, rfl⟩
  ·rw [List.length_map, List.length_map, Array.length_toList, hd's, Nat.mul_one]
  ·simp only [Sort.putCells, Array.size_mapIdx]; exact hc3
  ·rw [take_putE enc _ _ _ (by omega) (by omega), List.map_map, List.take_of_length_le (by rw [Array.length_toList]; omega)]
   rfl
end Go.AB
