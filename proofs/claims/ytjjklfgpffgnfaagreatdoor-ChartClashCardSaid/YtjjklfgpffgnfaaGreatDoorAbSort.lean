/-
 What only reads leaves the world as it was, but for draws and new blocks; so slices of the frame's own are sorted in place by what only reads.
-/
import Derived.Test.YtjjklfgpffgnfaaGreatDoorEngB
import Derived.Shelf.SlSortCmp.NoneTotal
namespace Go.AB
open Go Go.RowKit Go.Proofs
open Go.AB.Enc (cells)

/-! ### Some names alone -/
def Env.only (E : Env) (p : Nat → Bool) : Env := { E with T := fun k => if p k then E.T k else none }
theorem Env.only_of {E : Env} {p : Nat → Bool} {n : Nat} {t : Nat × Nat × Value} (h : (E.only p).T n = some t) : E.T n = some t ∧ p n = true := by
 simp only [Env.only] at h
 split at h
 ·rename_i hp; exact ⟨h, hp⟩
 ·cases h
theorem Env.only_same {E : Env} {p : Nat → Bool} {n : Nat} (h : p n = true) : (E.only p).T n = E.T n := by simp only [Env.only]; rw [if_pos h]
theorem EvR.only (E : Env) (p : Nat → Bool) {w w' : World} (hc : ∀ b i, i < E.L b → w'.cell? ⟨b, i, none⟩ = w.cell? ⟨b, i, none⟩) : EvR E w (E.only p) w' :=
 ⟨rfl, fun _ => Nat.le_refl _, hc, Nat.le_refl _, fun _ _ ver wv val ht => ⟨ver, wv, val, (Env.only_of ht).1, Nat.le_refl _, fun _ => rfl⟩⟩
theorem SimG.move {E E' : Env} {w w' : World} {G G' : Nat → Option GObj} {nx : Nat} (h : SimG E w G nx) (he : EvR E w E' w') (hnx : E'.nx = E.nx) (hsz : w.heap.size ≤ w'.heap.size) (hL : E'.L = E.L)
  (hT : ∀ n t, E'.T n = some t → E.T n = some t) (hG : ∀ n o, G' n = some o → G n = some o ∧ E'.T n = E.T n) (hh : ∀ n t b, E'.T n = some t → blk t.2.2 = some b → w'.heap[b]? = w.heap[b]?) : SimG E' w' G' nx := by
 have hB := he.B
 refine ⟨hnx.trans h.nx, fun n o ho => ?_, fun n t ht => hnx ▸ h.lt n t (hT n t ht), fun n ver wv val b h1 h2 => ?_, fun n m t t' b h1 h2 => h.ap n m t t' b (hT _ _ h1) (hT _ _ h2), fun b hb => ?_, ?_⟩
 ·obtain ⟨h1, h2⟩ := hG n o ho
  exact (h.obj n o h1).keepr he h2 fun ver wv val b h3 h4 => ⟨hh n _ b (h2.trans h3) h4, by rw [hL]⟩
 ·have := h.tb n ver wv val b (hT n _ h1) h2
  rw [hB]
  exact ⟨this.1, Nat.lt_of_lt_of_le this.2 hsz⟩
 ·rw [hL]; exact h.fresh b (Nat.le_trans hsz hb)
 ·rw [hB]; exact Nat.le_trans h.base hsz
theorem ObjOk.tags {E E' : Env} {w w' : World} {n : Nat} {o : GObj} {ver wv : Nat} {val : Value} (h : ObjOk E w n o) (ht : E.T n = some (ver, wv, val)) (h' : ObjOk E' w' n o) : ∃ val', E'.T n = some (ver, wv, val') := by
 cases o with
 | fact v c => have := h.1; rw [ht] at this; cases this; exact ⟨_, h'.1⟩
 | raw wv o => obtain ⟨b, q, _⟩ := h; obtain ⟨b', q', _⟩ := h'; rw [ht] at q; cases q; exact ⟨_, q'⟩
 | map wv ok f => obtain ⟨b, _, _, q, _⟩ := h; obtain ⟨b', _, _, q', _⟩ := h'; rw [ht] at q; cases q; exact ⟨_, q'⟩
 | box wv cs => obtain ⟨b, _, _, q, _⟩ := h; obtain ⟨b', _, _, q', _⟩ := h'; rw [ht] at q; cases q; exact ⟨_, q'⟩
 | arr v wv tt sz len cs => obtain ⟨b, _, q, _⟩ := h; obtain ⟨b', _, q', _⟩ := h'; rw [ht] at q; cases q; exact ⟨_, q'⟩
 | tip len tt sz => obtain ⟨b, _, q, _⟩ := h; obtain ⟨b', _, q', _⟩ := h'; rw [ht] at q; cases q; exact ⟨_, q'⟩

/-! ### The world behind what only reads -/
theorem uiv {w w' : World} (h1 : w'.os = w.os) (h2 : w'.tape = w.tape) (h3 : w'.output = w.output) (hd : w.drawn ≤ w'.drawn) (hh : ∀ (b : Nat) (o : Obj), w.heap[b]? = some o → w'.heap[b]? = some o) : ∃ q os, w' = Sort.grow (w.drewN q) os := by
 have hsz : w.heap.size ≤ w'.heap.size := by
  rcases Nat.eq_zero_or_pos w.heap.size with h | h
  ·omega
  ·have h4 := hh (w.heap.size - 1) _ (Array.getElem?_eq_getElem (by omega))
   have := (Array.getElem?_eq_some_iff.1 h4).1
   omega
 have e : w'.heap = w.heap ++ (w'.heap.toList.drop w.heap.size).toArray := by
  apply Array.ext_getElem?
  intro k
  rw [Array.getElem?_append]
  split
  ·rename_i hk
   rw [Array.getElem?_eq_getElem hk]
   exact hh k _ (Array.getElem?_eq_getElem hk)
  ·rename_i hk
   have e3 : (w'.heap.toList.drop w.heap.size).toArray[k - w.heap.size]? = w'.heap[k]? := by
    rw [List.getElem?_toArray, List.getElem?_drop, Array.getElem?_toList]
    congr 1
    omega
   exact e3.symm
 refine ⟨w'.drawn - w.drawn, (w'.heap.toList.drop w.heap.size).toArray, ?_⟩
 cases w with
 | mk heap tape drawn os output =>
 cases w' with
 | mk heap' tape' drawn' os' output' =>
  simp only at h1 h2 h3 hd e
  subst h1; subst h2; subst h3
  simp only [Sort.grow, World.drewN, World.mk.injEq]
  exact ⟨e, trivial, by omega, trivial, trivial⟩

theorem ujl {P : Program} {g : FuncId} {cs : List C} {G : Nat → Option GObj} {nx : Nat} {r : C} (hp : PC P g cs G nx fun r' G' nx' => r' = r ∧ G' = G ∧ nx' = nx) {E : Env} {w : World} {vs : List Value} (hr : Rs E w cs vs) (hg : SimG E w G nx) :
  Calls P g vs.toArray w fun e w' => ∃ v E', e = .returned v ∧ R E' w' r v ∧ ∃ q os, w' = Sort.grow (w.drewN q) os := by
 have he : EvR E w (E.only fun n => (G n).isSome) w := EvR.only E _ fun _ _ _ => rfl
 have hg2 : SimG (E.only fun n => (G n).isSome) w G nx := hg.move he rfl (Nat.le_refl _) rfl (fun n t ht => (Env.only_of ht).1) (fun n o ho => ⟨ho, Env.only_same (by rw [ho]; rfl)⟩) (fun _ _ _ _ _ => rfl)
 refine (ult (fun e w' ⟨_, v, _, _, _, h, _⟩ => ⟨v, h⟩) (hp _ w vs (hr.evr he) hg2)).mono ?_
 rintro e w' ⟨⟨r', v, E', G', nx', rfl, hev, hrv, hg', h5, h6, h7⟩, hd⟩
 subst h5; subst h6; subst h7
 refine ⟨v, E', rfl, hrv, uiv hev.below.os hev.below.tape hev.below.output hd fun b o hb => ?_⟩
 by_cases ht : ∃ n t, (E.only fun n => (G' n).isSome).T n = some t ∧ blk t.2.2 = some b
 ·obtain ⟨n, ⟨ver, wv, val⟩, ht, hbl⟩ := ht
  obtain ⟨o', ho'⟩ := Option.isSome_iff_exists.1 (Env.only_of ht).2
  obtain ⟨val', hT'⟩ := (hg2.obj n o' ho').tags ht (hg'.obj n o' ho')
  obtain ⟨ver0, wv0, val0, q1, q2, q3⟩ := hev.T n (hg2.lt n _ ht) _ _ _ hT'
  rw [ht] at q1
  cases q1
  exact ((q3 rfl).2 rfl b hbl).trans hb
 ·exact hev.x.oth b o hb fun n t ht' hbl => ht ⟨n, t, ht', hbl⟩

/-! ### Cells that are values -/
def og : C → Value
 | .v x => x
 | _ => undef
def Plain (cs : List C) : Prop := ∀ c ∈ cs, ∃ x, c = .v x ∧ okV x = true
theorem Plain.rs {E : Env} {w : World} {cs : List C} (h : Plain cs) : Rs E w cs (cs.map og) := by
 refine ⟨by simp, fun j c v h1 h2 => ?_⟩
 rw [List.getElem?_map, h1] at h2
 cases h2
 obtain ⟨x, rfl, hx⟩ := h c (List.mem_of_getElem? h1)
 exact .v hx
theorem Plain.eq {E : Env} {w : World} {cs : List C} {vs : List Value} (h : Plain cs) (hr : Rs E w cs vs) : vs = cs.map og := by
 apply List.ext_getElem?
 intro j
 rw [List.getElem?_map]
 cases hc : cs[j]? with
 | none =>
  have := List.getElem?_eq_none_iff.1 hc
  rw [List.getElem?_eq_none (by rw [hr.1]; exact this)]; rfl
 | some c =>
  have hj : j < vs.length := by rw [hr.1]; exact (List.getElem?_eq_some_iff.1 hc).1
  obtain ⟨x, rfl, hx⟩ := h c (List.mem_of_getElem? hc)
  rw [List.getElem?_eq_getElem hj, (hr.2 j _ _ hc (List.getElem?_eq_getElem hj)).v_inv]
  rfl
theorem Plain.one {cs : List C} (h : Plain cs) : ∀ v ∈ cs.map og, v.oneCell' = true := fun v hv => by
 obtain ⟨c, hc, rfl⟩ := List.mem_map.1 hv
 obtain ⟨x, rfl, hx⟩ := h c hc
 exact zp hx

theorem ui4 {α : Type} [Inhabited α] (enc : α → List Value) (k : Nat) (hk : ∀ x, (enc x).length = k) (d : Array α) : (Sort.flatK enc k d).toList = (d.toList.map enc).flatten := by
 have hl : ∀ r ∈ d.toList.map enc, r.length = k := fun r hr => by
  obtain ⟨x, _, rfl⟩ := List.mem_map.1 hr
  exact hk x
 have hlen : (d.toList.map enc).flatten.length = d.size * k := by rw [ka hl, List.length_map, Array.length_toList]
 apply List.ext_getElem?
 intro t
 by_cases ht : t < d.size * k
 ·have hkp : 0 < k := Nat.pos_of_ne_zero fun e => by subst e; simp at ht
  have hq : t / k < d.size := by rw [Nat.div_lt_iff_lt_mul hkp]; exact ht
  have hm : t % k < k := Nat.mod_lt _ hkp
  have h1 : d.toList[t / k]? = some d[t / k]! := by rw [Array.getElem?_toList, Array.getElem?_eq_getElem hq, getElem!_pos d _ hq]
  have hlt2 : t % k < (enc d[t / k]!).length := by rw [hk]; exact hm
  have h2 : (enc d[t / k]!)[t % k]? = some (enc d[t / k]!)[t % k]! := by rw [List.getElem?_eq_getElem hlt2, getElem!_pos (enc d[t / k]!) (t % k) hlt2]
  have h3 := rl hl (cm (f := enc) h1) h2
  rw [Nat.div_add_mod'] at h3
  rw [h3, Array.getElem?_toList, Array.getElem?_eq_getElem (by rw [Sort.size_flatK]; exact ht), ← getElem!_pos (Sort.flatK enc k d) t (by rw [Sort.size_flatK]; exact ht), Sort.get_flatK _ _ _ _ ht]
 ·rw [List.getElem?_eq_none (by rw [Array.length_toList, Sort.size_flatK]; omega), List.getElem?_eq_none (by omega)]

theorem ubd {w : World} {g n : Nat} {os : Array Obj} {cur : Array Value} {e : TypeId} {fr : Nat × Nat} (F : Array Value) (hb : w.heap[g]? = some (.cells cur e fr)) :
  (Sort.grow (Sort.putRow id (Sort.ahead w n) g 0 F) os).heap[g]? = some (.cells (Sort.putCells id 0 F cur) e fr) := by
 have hg : g < w.heap.size := (Array.getElem?_eq_some_iff.1 hb).1
 rw [Sort.heap_grow_old _ _ (by simpa using hg)]
 simp [Sort.putRow, Sort.mapBlock, Sort.ahead, Array.getElem?_modify, hb, Sort.onCells]
theorem wl {w : World} {g n k : Nat} {os : Array Obj} (F : Array Value) (hk : k < w.heap.size) (hne : k ≠ g) : (Sort.grow (Sort.putRow id (Sort.ahead w n) g 0 F) os).heap[k]? = w.heap[k]? := by
 rw [Sort.heap_grow_old _ _ (by simpa using hk)]
 simp [Sort.putRow, Sort.mapBlock, Sort.ahead, Array.getElem?_modify, Ne.symm hne]
theorem yk (cur F : Array Value) (m : Nat) (hm : m = F.size) (h : F.size ≤ cur.size) : (Sort.putCells id 0 F cur).toList.take m = F.toList := by
 subst hm
 apply List.ext_getElem?
 intro j
 by_cases hj : j < F.size
 ·rw [List.getElem?_take_of_lt hj, Array.getElem?_toList, Array.getElem?_toList]
  simp [Sort.putCells, hj, show j < cur.size by omega]
 ·rw [List.getElem?_take_eq_none (by omega), List.getElem?_eq_none (by simp; omega)]

/-- An order of what p holds of. -/
structure Ord3 {β : Type} (p : β → Prop) (cf : β → β → Int) : Prop where
 irrefl : ∀ x, p x → ¬ cf x x < 0
 trans : ∀ x y z, p x → p y → p z → cf x y < 0 → cf y z < 0 → cf x z < 0
 ntrans : ∀ x y z, p x → p y → p z → ¬ cf x y < 0 → ¬ cf y z < 0 → ¬ cf x z < 0

/-- slices.SortFunc of what is the frame's own, by what only reads. -/
theorem ub3 {β : Type} [Enc β] {P : Program} {o : Oper} {st : St} {K : St → Prop} {q : Go.Shelf.Ren} (L : SlLaysF0.n6 P q) [Ty P (q.t 24) true (Enc.n β)] {n ver wv m : Nat} {e : TypeId} {xs : List β} {cs : List C} (p : β → Prop) (cf : β → β → Int) {f g : FuncId} [Fun P g] {caps : List C} {fv s x : Operand} {ats : Array TypeId}
  (ho : o.op = .call { callee := .value fv, args := #[s, x], argTypes := ats }) (hf : evC st fv = .fn (.func f) []) (hfq : f = q.f 6) (hs : evC st s = .own n ver m) (hG : st.G n = some (.arr ver wv e (Enc.n β) m cs)) (hcs : cs = co xs) (hm : m = xs.length) (hx : evC st x = .fn (.func g) caps)
  (hpl : ∀ y, p y → Plain (cells y)) (hxs : ∀ y ∈ xs, p y) (hlen : xs.length < 4611686018427387904)
  (hcf : ∀ a b, p a → p b → PC P g (.agg (cells a) :: .agg (cells b) :: caps) (gu st.G n) st.nx fun r G' nx' => r = .v (.int .i64 (cf a b)) ∧ G' = gu st.G n ∧ nx' = st.nx) (hO : Ord3 p cf)
  (h : ∀ ys : List β, ys.Perm xs → ys.Pairwise (fun a b => ¬ cf b a < 0) → K (St.put { st with G := ak st.G n (.arr ver (wv + 1) e (Enc.n β) m (co ys)) } o.dst (.tup []))) : EStep P o st K := by
 subst hfq; subst hcs; subst hm
 intro E w a hsim Kr Q hq
 obtain ⟨fs, e1, hfs⟩ := (hf ▸ hsim.ev fv).fn_inv
 have hfs0 : fs = [] := List.eq_nil_of_length_eq_zero hfs.1
 subst hfs0
 obtain ⟨vs, e2, hvs⟩ := (hx ▸ hsim.ev x).fn_inv
 obtain ⟨val, us, hT, hown, hcone, hrs, hL, hsz1⟩ := hsim.g.obj n _ hG
 obtain ⟨e3, q1, ad, cap, e4, h6, h7⟩ := sm (hs ▸ hsim.ev s) hT hown
 unfold Oper.wp
 have hrun : (execOp a.eval o).run P w = .ok (.enter (q.f 6) #[a.eval s, a.eval x]) w := by
  simp only [execOp, ho, resolve, e1]
  have hcf6 := L.f6.enters rfl #[a.eval s, a.eval x] w
  simpa [Deferred.ofValue, invoke] using hcf6
 rw [hrun, e2, e4]
 -- what is changed
 have fin : ∀ (w' : World) (ys : List β), ys.Perm xs → ys.Pairwise (fun a b => ¬ cf b a < 0) → Below E.B w w' → (∀ k, k < w.heap.size → blk val ≠ some k → w'.heap[k]? = w.heap[k]?) →
   (∀ b (o : Obj), blk val = some b → w.heap[b]? = some o → ∃ o' : Obj, w'.heap[b]? = some o' ∧ o'.isCells = o.isCells) → (∃ us', w'.ownsRow E.B e (Enc.n β) val xs.length us' ∧ us' = (co ys).map og ∧ Plain (co ys)) →
   Kr (a.put o.dst (.tuple #[])) w' := by
  intro w' ys hp1 hp2 hb hold hic ⟨us', how', hus, hpy⟩
  have hchg : Chg E w w' ver wv val ver (wv + 1) val 0 := ⟨hb, hold, fun b hb => .inl ⟨hb, by rw [hL b hb]; exact Nat.le_refl _⟩, fun b i hb hi => by rw [hL b hb] at hi; omega, .inr ⟨rfl, rfl, by omega⟩, hic, fun hv => absurd hv (Nat.lt_irrefl _), fun b _ hl => absurd hl (Nat.not_lt_zero _)⟩
  have hev := Ev.chg hsim.g hT hchg
  have hobj : ObjOk (E.chg n (ver, wv + 1, val) 0) w' n (.arr ver (wv + 1) e (Enc.n β) xs.length (co ys)) :=
   ⟨val, us', by simp [Env.chg], how', fun c hc => by obtain ⟨v, rfl, _⟩ := hpy c hc; rfl, hus ▸ hpy.rs, fun b hb => by simp [Env.chg, hb], hsz1⟩
  exact hq _ _ _ _ hev ((hsim.evd hev (SimG.chg hsim.g hT hchg hobj)).put o.dst (R.undef _ _)) (h ys hp1 hp2)
 by_cases h0 : xs = []
 ·subst h0
  refine (AnyF.slices_SortFunc_none L ad cap _ w).mono ?_
  rintro e' w' ⟨rfl, rfl⟩
  refine fin w' [] List.Perm.nil List.Pairwise.nil (Below.refl _ _) (fun _ _ _ => rfl) (fun b o _ ho => ⟨o, ho, rfl⟩) ⟨us, hown, ?_, fun c hc => by simp [co] at hc⟩
  exact List.eq_nil_of_length_eq_zero (by rw [hrs.1]; rfl)
 ·obtain ⟨y0, hy0⟩ := List.exists_mem_of_ne_nil xs h0
  letI : Inhabited { y : β // p y } := ⟨⟨y0, hxs y0 hy0⟩⟩
  have hn1 : 1 ≤ xs.length := by cases xs with | nil => exact absurd rfl h0 | cons => simp
  obtain ⟨gb, cap', cur, hval, hgB, hh, hc1, hc2, hc3, hc4⟩ : ∃ gb cap' cur, val = .slice (some ⟨gb, 0, none⟩) xs.length cap' ∧ E.B ≤ gb ∧ w.heap[gb]? = some (.cells cur e (0, 0)) ∧ xs.length ≤ cap' ∧ cap' ≤ maxLen ∧ cur.size = cap' * Enc.n β ∧ us = cur.toList.take (xs.length * Enc.n β) := by
   rcases hown.2 with ⟨_, q0⟩ | ⟨g', c', cu, q2, q3, q4, q5, q6, q7, q8⟩
   ·omega
   ·exact ⟨g', c', cu, q2, q3, q4, q5, q6, q7, q8.symm⟩
  have e5 : ad = some ⟨gb, 0, none⟩ ∧ cap = cap' := by
   have := e4.symm.trans (e3.trans hval)
   simp only [Value.slice.injEq] at this
   exact ⟨this.1, this.2.2⟩
  obtain ⟨rfl, rfl⟩ := e5
  have hgb := (Array.getElem?_eq_some_iff.1 hh).1
  have hpx : Plain (co xs) := fun c hc => by
   obtain ⟨r, hr, hc⟩ := List.mem_flatten.1 hc
   obtain ⟨y, hy, rfl⟩ := List.mem_map.1 hr
   exact hpl y (hxs y hy) c hc
  have hus := hpx.eq hrs
  -- the row of the elements
  let enc : { y : β // p y } → List Value := fun y => (cells y.1).map og
  have hk : ∀ y, (enc y).length = Enc.n β := fun y => by simp only [enc, List.length_map, Enc.len]
  have hfl : ∀ ds : List { y : β // p y }, (ds.map enc).flatten = (co (ds.map (·.1))).map og := fun ds => by
   induction ds with
   | nil => rfl
   | cons y ds ih =>
    simp only [List.map_cons, List.flatten_cons, ih]
    simp [co, enc]
  let d : Array { y : β // p y } := (xs.attachWith p hxs).toArray
  have hd : d.toList.map (·.1) = xs := by simp [d]
  have hds : d.size = xs.length := by simp [d]
  have hF : ∀ d' : Array { y : β // p y }, (Sort.flatK enc (Enc.n β) d').toList = (co (d'.toList.map (·.1))).map og := fun d' => (ui4 enc _ hk d').trans (hfl _)
  have hcur : xs.length * Enc.n β ≤ cur.size := by rw [hc3]; exact Nat.mul_le_mul_right _ hc1
  have hH : Sort.HoldsK enc (Enc.n β) w gb 0 d := by
   intro j hj
   rw [Sort.size_flatK, hds] at hj
   have h8 : (Sort.flatK enc (Enc.n β) d).toList = us := by rw [hF, hd, hus]
   have h9 : us[j]? = some (Sort.flatK enc (Enc.n β) d)[j]! := by
    rw [← h8, Array.getElem?_toList, getElem!_pos _ j (by rw [Sort.size_flatK, hds]; exact hj), Array.getElem?_eq_getElem]
   rw [hc4, List.getElem?_take_of_lt hj, Array.getElem?_toList] at h9
   refine ⟨by rw [Nat.zero_add]; exact ly hh h9, ?_⟩
   simp [World.frozen?, hh]
  have hcmp : CmpLays P g vs.toArray enc (Enc.n β) (fun a b => cf a.1 b.1) gb 0 d.size w := by
   intro mm os dk hdk y z
   have hW1 : ∀ k, k < w.heap.size → k ≠ gb → (sortWorldK enc (Enc.n β) w gb 0 mm dk os).heap[k]? = w.heap[k]? := fun k hk hne => wl _ hk hne
   have hW2 : w.heap.size ≤ (sortWorldK enc (Enc.n β) w gb 0 mm dk os).heap.size := by
    show _ ≤ (Sort.grow (Sort.putRow id (Sort.ahead w mm) gb 0 _) os).heap.size
    rw [Sort.size_grow, Sort.size_putRow]; exact Nat.le_add_right _ _
   generalize sortWorldK enc (Enc.n β) w gb 0 mm dk os = W at hW1 hW2
   have hLg : E.L gb = 0 := hL gb (by rw [hval]; rfl)
   have he : EvR E w (E.only fun k => decide (k ≠ n)) W := EvR.only E _ fun b i hi => by
    by_cases hbg : b = gb
    ·subst hbg; omega
    ·by_cases hbs : b < w.heap.size
     ·exact World.cell?_of_block (hW1 b hbs hbg)
     ·rw [hsim.g.fresh b (by omega)] at hi; omega
   have hg3 : SimG (E.only fun k => decide (k ≠ n)) W (gu st.G n) st.nx := hsim.g.move he rfl hW2 rfl (fun k t ht => (Env.only_of ht).1) (fun k o' ho' => by
    have hkn : k ≠ n := fun e => by subst e; simp [gu] at ho'
    exact ⟨(k7 hkn).symm.trans ho', Env.only_same (decide_eq_true hkn)⟩) (fun k t b ht hb => by
    obtain ⟨h8, h9⟩ := Env.only_of ht
    have hkn : k ≠ n := of_decide_eq_true h9
    refine hW1 b (hsim.g.tb k _ _ _ b h8 hb).2 fun e => ?_
    subst e
    exact hsim.g.ap k n _ _ b h8 hT hkn hb (by show blk val = some b; rw [hval]; rfl))
   have hagg : ∀ y : { y : β // p y }, R (E.only fun k => decide (k ≠ n)) W (.agg (cells y.1)) (.agg (enc y).toArray) := fun y => (hpl y.1 y.2).rs.agg fun c hc => by obtain ⟨v, rfl, _⟩ := hpl y.1 y.2 c hc; rfl
   have hr3 := Rs.cons (hagg y) (Rs.cons (hagg z) (hvs.evr he))
   have hc := ujl (hcf y.1 z.1 y.2 z.2) hr3 hg3
   have hargs : (#[.agg (enc y).toArray, .agg (enc z).toArray] ++ vs.toArray : Array Value) = (Value.agg (enc y).toArray :: .agg (enc z).toArray :: vs).toArray := by simp
   rw [hargs]
   refine hc.mono ?_
   rintro e' w' ⟨v, E', rfl, hv, hw⟩
   rw [hv.v_inv]
   exact ⟨rfl, hw⟩
  have hO' : Sort.SWO (ltOf fun a b : { y : β // p y } => cf a.1 b.1) := ⟨fun y => decide_eq_false (hO.irrefl _ y.2), fun y z u h8 h9 => decide_eq_true (hO.trans _ _ _ y.2 z.2 u.2 (of_decide_eq_true h8) (of_decide_eq_true h9)), fun y z u h8 h9 => decide_eq_false (hO.ntrans _ _ _ y.2 z.2 u.2 (of_decide_eq_false h8) (of_decide_eq_false h9))⟩
  have hcall := AnyQ.slices_SortFunc L (Enc.n β) (fun w => Ty.row (P := P) (w := w)) (fun w => Ty.size (P := P) (w := w)) enc hk (fun y => (hpl y.1 y.2).one) (fun a b => cf a.1 b.1) hO' g vs.toArray gb 0 cap d w (fun args w => uz args w) hcmp hH hgb (by rw [hds]; exact hlen)
  rw [hds] at hcall
  refine hcall.mono ?_
  rintro e' w' ⟨rfl, d', nn, os, hperm, hsorted, hw⟩
  have hd's : d'.size = xs.length := hperm.1.trans hds
  have hpm : d'.toList.Perm d.toList := by
   have := hperm.2.2
   rwa [← hds, Array.extract_size, hds, ← hd's, Array.extract_size] at this
  subst hw
  refine fin _ (d'.toList.map (·.1)) (hd ▸ hpm.map _) ?_ ⟨rfl, rfl, rfl, ?_, fun k hk => wl _ (Nat.lt_of_lt_of_le hk hsim.g.base) (by omega)⟩ (fun k hk hne => wl _ hk fun e => hne (by rw [e, hval]; rfl)) (fun b o hb ho => ?_) ⟨_, ⟨?_, .inr ⟨gb, cap, _, hval, hgB, ubd _ hh, hc1, hc2, ?_, rfl⟩⟩, ?_, ?_⟩
  ·rw [List.pairwise_map, List.pairwise_iff_getElem]
   intro i j hi hj hij
   rw [Array.length_toList] at hi hj
   have := of_decide_eq_false (hsorted i j (Nat.zero_le _) hij (by omega))
   rw [getElem!_pos d' i hi, getElem!_pos d' j hj] at this
   simpa using this
  ·show _ ≤ (Sort.grow (Sort.putRow id (Sort.ahead w nn) gb 0 _) os).heap.size
   rw [Sort.size_grow, Sort.size_putRow]; exact Nat.le_add_right _ _
  ·rw [hval] at hb
   simp only [blk, Option.some.injEq] at hb
   subst hb
   rw [hh] at ho
   cases ho
   exact ⟨_, ubd _ hh, rfl⟩
  ·rw [yk _ _ _ (by rw [Sort.size_flatK, hd's]) (by rw [Sort.size_flatK, hd's]; exact hcur), Array.length_toList, Sort.size_flatK, hd's]
  ·simp only [Sort.putCells, Array.size_mapIdx]; exact hc3
  ·rw [yk _ _ _ (by rw [Sort.size_flatK, hd's]) (by rw [Sort.size_flatK, hd's]; exact hcur)]
   exact hF d'
  ·intro c hc
   obtain ⟨r, hr, hc⟩ := List.mem_flatten.1 hc
   obtain ⟨y, hy, rfl⟩ := List.mem_map.1 hr
   obtain ⟨y', _, rfl⟩ := List.mem_map.1 hy
   exact hpl y'.1 y'.2 c hc
/-- The whole of an array that is laid for good, as a slice. -/
theorem px {P : Program} {o : Oper} {st : St} {t e : TypeId} {m sz : Nat} {ag : Bool} [ArrT P t m e] [Ty P e ag sz] {x : Operand} {cs : List C} {rows : List (List C)} (ho : o.op = .slice t x none none none) (hx : evC st x = .elem cs) (hcs : rows.flatten = cs) (hm : rows.length = m) (hl : ∀ r ∈ rows, r.length = sz) (hsz : 1 ≤ sz) (hmax : m ≤ 1000) : NStep P o st (.list rows .none) := fun E w a hs => by
 obtain ⟨b, off, us, hv, h1, h2, h3, h4, h5⟩ := (hx ▸ hs.ev x).elem_inv
 have q1 := ArrT.spec (P := P) (t := t) (n := m) (e := e)
 have q2 := fun w => Ty.size (P := P) (w := w) (t := e) (ag := ag) (n := sz)
 refine ⟨.slice (some ⟨b, off, none⟩) rows.length m, ?_, fun w' => ?_⟩
 ·have hmx : maxLen = 9223372036854775807 := rfl
  refine R.list (sz := sz) (us := us) (by omega) (by omega) hsz hl (fun r hr c hc => h4 c (hcs ▸ List.mem_flatten.2 ⟨r, hr, hc⟩)) ?_ (by rw [hcs]; exact h3) (by simp) (by simp) (by simp)
  rw [hcs]
  exact .inr ⟨b, off, rfl, h1, h2⟩
 ·simp [execOp, ho, hv, hm, Instr.sliceAt, Instr.sureAddr, run_underlying q1, q2, Instr.sliceBounds, Addr.add]
end Go.AB
