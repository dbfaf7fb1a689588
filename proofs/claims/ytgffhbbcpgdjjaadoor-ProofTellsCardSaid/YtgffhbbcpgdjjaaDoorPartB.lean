/-
  What the walks through the program rest on: values, states, steps, calls (AbMap, AbScope, AbRange, AbIter, AbYield, AbGive, AbMix, AbNamed, AbConv, AbWords, AbDrawn, AbDrawnB, Ty, AdData, ItData, AbTypes, ItAll, CdData, CfFuncs, AcOne, AcEq, AcTwo, AcThree, AcFour, AcFive, CrOne, CePlain, CsRows, CtPlain, CuFuncs, CkKeys, LcCheck, CvOpen, CwLines, CxTells, DaPlain, EaPlain, EbRef, CyPlain, EcRefer, EdLead, AbSort, EgComp).
-/
import Derived.Test.YtgffhbbcpgdjjaaDoorPartA
import Derived.Maps.Keyed
import Derived.DeepKeys4
import Derived.LoopNIn
import Derived.Laws.IdiomRangeMap
import Derived.RangeFuncWrites
import Derived.Laws.IdiomStrings
import Derived.WalkKit
import Derived.Test.YtgffhbbcpgdjjaaDoorProg
import Derived.Tactics
import Derived.Laws.StructEq
import Derived.Maps.Own
import Derived.WalkMore
import Derived.Shelf.SlSortCmp.NoneTotal
namespace Go.AB
open Go Go.RowKit
open Go.Maps (Keyed)
open Go.AB.Enc (cells)
variable {ρ : Option Nat}
/-- Keys as plain data. -/
class KeyV (α : Type) where
 kv : α → Value
 kc : α → C
 inv : ∀ {E : Env} {w : World} {x : α} {v : Value}, R E w (kc x) v → v = kv x
 inj : ∀ {x y : α}, kv x = kv y → x = y
 any : ∀ {E : Env} {w : World} {x : α} {v : Value}, R E w (kc x) v → ∀ (E' : Env) (w' : World), R E' w' (kc x) (kv x)
def ubs (P : Program) (t k e : TypeId) : Bool := match P.underlying t with | some (.map k' e') => k' == k && e' == e | _ => false
class MapT (P : Program) (t : TypeId) (k e : outParam TypeId) : Prop where
 chk : ubs P t k e = true
theorem MapT.spec {P : Program} {t k e : TypeId} [h : MapT P t k e] : P.underlying t = some (.map k e) := by
 have := h.chk
 unfold ubs at this
 split at this
 ·rename_i k' e' he
  simp only [Bool.and_eq_true, beq_iff_eq] at this
  rw [he, this.1, this.2]
 ·cases this
class KeyT (P : Program) (k : TypeId) (α : Type) [KeyV α] : Prop where
 keyed : Keyed P k
 has : ∀ {E : Env} {w : World} {x : α} {v : Value}, R E w (KeyV.kc x) v → ∃ l, keyOf P k (KeyV.kv x) = some l
def okK1 (P : Program) (k : TypeId) (α : Type) [KeyV α] : MapEntry → Prop := fun e => ∃ (x : α) (l : Lit), e.key = KeyV.kv x ∧ keyOf P k e.key = some l ∧ ∀ (E : Env) (w : World), R E w (KeyV.kc x) e.key
def okK (P : Program) (k : TypeId) (α : Type) [KeyV α] : List MapEntry → Nat → Prop := fun es _ => ∀ e ∈ es, okK1 P k α e
open Classical in
noncomputable def kd {α : Type} [KeyV α] (m : α → Option C) : Value → Option C := fun v => if h : ∃ x : α, v = KeyV.kv x then m h.choose else none
theorem iu {α : Type} [KeyV α] (m : α → Option C) (x : α) : kd m (KeyV.kv x) = m x := by
 have h : ∃ y : α, KeyV.kv x = KeyV.kv y := ⟨x, rfl⟩
 unfold kd
 rw [dif_pos h]
 exact congrArg m (KeyV.inj h.choose_spec).symm
theorem sf {α : Type} [KeyV α] (m : α → Option C) {v : Value} (h : ¬ ∃ x : α, v = KeyV.kv x) : kd m v = none := by
 unfold kd
 rw [dif_neg h]
/-- A map whose keys are data. -/
noncomputable def fe (P : Program) (k : TypeId) {α : Type} [KeyV α] (wv : Nat) (m : α → Option C) : GObj := .map wv (okK P k α) (kd m)
def jq {α : Type} [DecidableEq α] (m : α → Option C) (x : α) (c : C) : α → Option C := fun y => if y = x then some c else m y
def pm {α : Type} [DecidableEq α] (m : α → Option C) (x : α) : α → Option C := fun y => if y = x then none else m y

/-- What the run of an update leaves. -/
theorem ug2 {P : Program} {k t e : TypeId} {w : World} {r : Nat} {es : Array MapEntry} {clock : Nat} (K : Keyed P k) (ht : P.underlying t = some (.map k e)) (hb : w.heap[r]? = some (.map es clock))
  (h1 : ∀ e ∈ es.toList, ∃ l, keyOf P k e.key = some l) (h2 : es.toList.Pairwise (fun a b => a.key ≠ b.key)) {key : Value} {kl : Lit} (hkey : keyOf P k key = some kl) (val : Value) (hcl : es.all (·.born < clock) = true) :
  ∃ es' clock', (Instr.mapUpdate t (.map (some r)) key val).run P w = .ok () (ChangeMaps.setBlock w r (.map es' clock')) ∧ (∀ e ∈ es'.toList, (e.key = key ∧ e.val = val ∧ ((∃ e0 ∈ es.toList, e0.key = key ∧ e0.born = e.born) ∨ ((∀ e0 ∈ es.toList, e0.key ≠ key) ∧ e.born = clock))) ∨ (e ∈ es.toList ∧ e.key ≠ key)) ∧ es'.toList.Pairwise (fun a b => a.key ≠ b.key) ∧
   (∃ e ∈ es'.toList, e.key = key) ∧ (∀ e ∈ es.toList, e.key ≠ key → e ∈ es'.toList) ∧ es'.all (·.born < clock') = true ∧ (es.toList.Pairwise (fun a b => a.born ≠ b.born) → es'.toList.Pairwise fun a b => a.born ≠ b.born) ∧ ((∃ e0 ∈ es.toList, e0.key = key) → clock' = clock) := by
 have hcl' : ∀ e ∈ es.toList, e.born < clock := fun e he => by simpa using Array.all_eq_true_iff_forall_mem.1 hcl e (by simpa using he)
 rcases K.find w hkey es.toList h1 with ⟨hf, hn⟩ | ⟨j, e0, hf, hj, hk⟩
 ·refine ⟨es.push ⟨key, val, clock⟩, clock + 1, ?_, fun e he => ?_, ?_, ⟨⟨key, val, clock⟩, by simp, rfl⟩, fun e he _ => by simp [Array.mem_toList_iff.1 he], ?_, fun hb => ?_, fun ⟨e0, h1, h2⟩ => absurd h2 (hn e0 h1)⟩
  ·simp [Instr.mapUpdate, run_underlying ht, MapKept.run_getObj_map hb, K.check w false hkey, hf, MapKept.run_setObj_map _ hb, Result.andThen, ChangeMaps.setBlock]
  ·simp only [Array.toList_push, List.mem_append, List.mem_singleton] at he
   rcases he with he | rfl
   ·exact .inr ⟨he, hn e he⟩
   ·exact .inl ⟨rfl, rfl, .inr ⟨fun e0 he0 => hn e0 he0, rfl⟩⟩
  ·simp only [Array.toList_push]
   refine List.pairwise_append.2 ⟨h2, by simp, ?_⟩
   intro a ha b hb
   simp only [List.mem_singleton] at hb
   subst hb
   exact hn a ha
  ·refine Array.all_eq_true_iff_forall_mem.2 fun e he => ?_
   rcases Array.mem_push.1 he with he | rfl
   ·have := hcl' e (by simpa using he)
    simp; omega
   ·simp
  ·simp only [Array.toList_push]
   refine List.pairwise_append.2 ⟨hb, by simp, ?_⟩
   intro a ha b hb
   simp only [List.mem_singleton] at hb
   subst hb
   have := hcl' a ha
   show a.born ≠ clock
   omega
 ·have hj' : es[j]? = some e0 := by simpa using hj
  have hjl : j < es.toList.length := (List.getElem?_eq_some_iff.1 hj).1
  have hlist : (es.modify j (fun e' => { e' with key := key, val := val })).toList = es.toList.set j { e0 with key := key, val := val } := by rw [Array.toList_modify, ChangeMaps.modify_eq_set _ _ _ _ hj]
  have hother : ∀ (i : Nat) (a : MapEntry), i ≠ j → es.toList[i]? = some a → a.key ≠ key := by
   intro i a hi ha
   rw [← hk]
   have hil : i < es.toList.length := (List.getElem?_eq_some_iff.1 ha).1
   have ea := (List.getElem?_eq_some_iff.1 ha).2
   have ej := (List.getElem?_eq_some_iff.1 hj).2
   rw [List.pairwise_iff_getElem] at h2
   rcases Nat.lt_or_gt_of_ne hi with hlt | hlt
   ·have := h2 i j hil hjl hlt
    rw [ea, ej] at this
    exact this
   ·have := h2 j i hjl hil hlt
    rw [ea, ej] at this
    exact this.symm
  have who : ∀ x ∈ es.toList.set j { e0 with key := key, val := val }, x = { e0 with key := key, val := val } ∨ (x ∈ es.toList ∧ x.key ≠ key) := by
   intro x hx
   obtain ⟨i, hi, ex⟩ := List.getElem_of_mem hx
   rw [List.getElem_set] at ex
   split at ex
   ·exact Or.inl ex.symm
   ·rename_i hne
    have hi' : i < es.toList.length := by simpa using hi
    exact Or.inr ⟨ex ▸ List.getElem_mem hi', hother i x (fun e => hne e.symm) (by rw [List.getElem?_eq_getElem hi', ex])⟩
  have hin : ∀ i a, i ≠ j → es.toList[i]? = some a → a ∈ es.toList.set j { e0 with key := key, val := val } := by
   intro i a hi ha
   have : (es.toList.set j { e0 with key := key, val := val })[i]? = some a := by rw [List.getElem?_set_ne (fun e => hi e.symm)]; exact ha
   exact List.mem_of_getElem? this
  have hinj : ({ e0 with key := key, val := val } : MapEntry) ∈ es.toList.set j { e0 with key := key, val := val } := by
   refine List.mem_of_getElem? (i := j) ?_
   rw [List.getElem?_set_self hjl]
  refine ⟨es.modify j (fun e' => { e' with key := key, val := val }), clock, ?_, ?_, ?_, ⟨_, hlist ▸ hinj, rfl⟩, ?_, ?_, fun hb => ?_, fun _ => rfl⟩
  ·simp [Instr.mapUpdate, run_underlying ht, MapKept.run_getObj_map hb, K.check w false hkey, hf, hj', hk, K.stays w hkey, MapKept.run_setObj_map _ hb, Result.andThen, ChangeMaps.setBlock]
  ·intro e he
   rw [hlist] at he
   rcases who e he with rfl | h
   ·exact .inl ⟨rfl, rfl, .inl ⟨e0, List.mem_of_getElem? hj, hk, rfl⟩⟩
   ·exact .inr h
  ·rw [hlist, List.pairwise_iff_getElem]
   intro i i' hi hi' hlt
   rw [List.pairwise_iff_getElem] at h2
   have hil : i < es.toList.length := by simpa using hi
   have hil' : i' < es.toList.length := by simpa using hi'
   have hh := h2 i i' hil hil' hlt
   have ej := (List.getElem?_eq_some_iff.1 hj).2
   simp only [List.getElem_set]
   by_cases hij : j = i
   ·have hij' : ¬ j = i' := by omega
    simp only [hij, if_true]
    rw [if_neg (by omega)]
    subst hij
    rw [ej, hk] at hh
    exact hh
   ·rw [if_neg hij]
    by_cases hij' : j = i'
    ·subst hij'
     rw [ej, hk] at hh
     simpa using hh
    ·rw [if_neg hij']
     exact hh
  ·intro e he hne
   rw [hlist]
   obtain ⟨i, hi⟩ := List.mem_iff_getElem?.1 he
   refine hin i e (fun hij => ?_) hi
   subst hij
   rw [hj] at hi
   injection hi with hi
   subst hi
   exact hne hk
  ·refine Array.all_eq_true_iff_forall_mem.2 fun e he => ?_
   have he' : e ∈ es.toList.set j { e0 with key := key, val := val } := by rw [← hlist]; exact Array.mem_toList_iff.2 he
   rcases who e he' with rfl | ⟨h, _⟩
   ·have := hcl' e0 (List.mem_of_getElem? hj)
    simpa using this
   ·simpa using hcl' e h
  ·rw [hlist]
   have e1 : (es.toList.set j { e0 with key := key, val := val }).map (·.born) = es.toList.map (·.born) := by
    rw [List.map_set]
    have : (es.toList.map (·.born))[j]? = some e0.born := by rw [List.getElem?_map, hj]; rfl
    exact List.ext_getElem? fun i => by
     rw [List.getElem?_set]
     split
     ·rename_i hij
      subst hij
      split
      ·exact this.symm
      ·rename_i h0; rw [List.getElem?_eq_none (by omega)]
     ·rfl
   exact List.pairwise_map.1 (e1 ▸ List.pairwise_map.2 hb)

theorem ts (w : World) (r b : Nat) (o : Obj) (h : b ≠ r) : (ChangeMaps.setBlock w r o).heap[b]? = w.heap[b]? := by
 simp [ChangeMaps.setBlock, Ne.symm h]
section
variable {P : Program} {o : Oper} {st : St} {K : St → Prop} {α : Type} [KeyV α]
theorem qk {E : Env} {w : World} {v : Value} {n wv : Nat} {r : Option Nat} (hp : R E w (.map n) v) (hT : E.T n = some (0, wv, .map r)) : v = .map r := by
 cases hp with
 | map h1 h2 =>
  have := h2 _ _ _ hT rfl
  exact this.symm
theorem ug5 {D : Nat → Prop} {t k e : TypeId} [MapT P t k e] [KeyT P k α] {x i : Operand} {n wv : Nat} {ok : List MapEntry → Nat → Prop} {m : α → Option C} {key : α} {z : Value} [Zero P e z] (hx : evC st x = .map n) (hG : st.G n = some (.map wv ok (kd m))) (hk0 : ∀ es cl, ok es cl → okK P k α es cl) (hD : D n) (hi : evC st i = KeyV.kc key) :
  ∀ E w a, Sim E w st a → ∃ v, R E w ((m key).getD (nw z)) v ∧ ∀ w', Keeps E D w w' → (Instr.lookup t (a.eval x) (a.eval i) true).run P w' = .ok (.tuple #[v, .bool (m key).isSome]) w' ∧ (Instr.lookup t (a.eval x) (a.eval i) false).run P w' = .ok v w' := by
 intro E w a hs
 obtain ⟨r, es, clock, hT, hh, hok, _⟩ := hs.g.obj n _ hG
 have e1 := qk (hx ▸ hs.ev x) hT
 have hkr := hi ▸ hs.ev i
 have e2 := KeyV.inv hkr
 obtain ⟨kl, hkey⟩ := KeyT.has (P := P) (k := k) hkr
 have ht := MapT.spec (P := P) (t := t) (k := k) (e := e)
 have Kd := KeyT.keyed (P := P) (k := k) (α := α)
 have hz := fun w' => Zero.run (P := P) (t := e) (v := z) (w := w')
 have hk1 : ∀ e ∈ es.toList, ∃ l, keyOf P k e.key = some l := fun e he => let ⟨_, l, _, h, _⟩ := hk0 _ _ hok.ok e he; ⟨l, h⟩
 rw [e1, e2]
 cases hm : m key with
 | none =>
  refine ⟨z, R.const E w z, fun w' hk => ?_⟩
  have hb := (hk.2 n hD _ _ _ r hT rfl).trans hh
  rcases Kd.find w' hkey es.toList hk1 with ⟨hf, _⟩ | ⟨j, e0, hf, hj, hke⟩
  ·simp [Instr.lookup, run_underlying ht, MapKept.run_getObj_map hb, Kd.check w' _ hkey, hf, hz, Result.andThen]
  ·obtain ⟨c, hc, _⟩ := hok.val e0 (List.mem_of_getElem? hj)
   rw [hke, iu, hm] at hc
   cases hc
 | some c =>
  obtain ⟨e0, he0, hke0⟩ := hok.has (KeyV.kv key) c (by rw [iu, hm])
  obtain ⟨c', hc', hr'⟩ := hok.val e0 he0
  rw [hke0, iu, hm] at hc'
  cases hc'
  refine ⟨e0.val, hr', fun w' hk => ?_⟩
  have hb := (hk.2 n hD _ _ _ r hT rfl).trans hh
  rcases Kd.find w' hkey es.toList hk1 with ⟨hf, hn⟩ | ⟨j, e1', hf, hj, hke⟩
  ·exact absurd hke0 (hn e0 he0)
  ·have : e1' = e0 := Go.entry_eq_of_key hok.pw (List.mem_of_getElem? hj) he0 (hke.trans hke0.symm)
   subst this
   simp [Instr.lookup, run_underlying ht, MapKept.run_getObj_map hb, Kd.check w' _ hkey, hf, Result.andThen]
theorem ue8 {D : Nat → Prop} {t k e : TypeId} [MapT P t k e] [KeyT P k α] {x i : Operand} {n wv : Nat} {m : α → Option C} {r : Option C} {z : Value} [Zero P e z] (key : α) (ho : o.op = .lookup t x i false) (hx : evC st x = .map n) (hG : st.G n = some (fe P k wv m)) (hD : D n) (hi : evC st i = KeyV.kc key) (hm : m key = r) : SStep P D o st (r.getD (nw z)) := fun E w a hs => by
 subst hm
 obtain ⟨v, h1, h2⟩ := ug5 (P := P) (t := t) (e := e) (z := z) hx hG (fun _ _ h => h) hD hi E w a hs
 refine ⟨v, h1, fun w' hk => ?_⟩
 simp only [execOp, ho, Sem.run_bind, (h2 w' hk).2, Result.andThen_ok]
 rfl
theorem ug3 [DecidableEq α] {t k e : TypeId} [MapT P t k e] [KeyT P k α] {x i y : Operand} {n wv : Nat} {ok ok' : List MapEntry → Nat → Prop} {m m' : α → Option C} (key : α) (ho : o.op = .mapUpdate t x i y) (hd : o.dst = none) (hx : evC st x = .map n) (hG : st.G n = some (.map wv ok (kd m))) (hk0 : ∀ es cl, ok es cl → okK P k α es cl)
  (hnw : ∀ (E : Env) (w : World) (es es' : List MapEntry) (clock clock' : Nat), MapOk E w ok (kd m) es clock → (∀ e ∈ es', (okK1 P k α e ∧ e.key = KeyV.kv key ∧ ((∃ e0 ∈ es, e0.key = KeyV.kv key ∧ e0.born = e.born) ∨ ((∀ e0 ∈ es, e0.key ≠ KeyV.kv key) ∧ e.born = clock))) ∨ (e ∈ es ∧ e.key ≠ KeyV.kv key)) → ((∃ e0 ∈ es, e0.key = KeyV.kv key) → clock' = clock) → ok' es' clock') (hi : evC st i = KeyV.kc key) (hm : jq m key (evC st y) = m')
  (h : K { st with G := ai st.G n (.map (wv + 1) ok' (kd m')) }) : EStep P o st K := fun E w a hs Kr Q hq => by
 subst hm
 obtain ⟨r, es, clock, hT, hh, hok, hcl⟩ := hs.g.obj n _ hG
 have e1 := qk (hx ▸ hs.ev x) hT
 have hkr := hi ▸ hs.ev i
 have e2 := KeyV.inv hkr
 obtain ⟨kl, hkey⟩ := KeyT.has (P := P) (k := k) hkr
 have ht := MapT.spec (P := P) (t := t) (k := k) (e := e)
 have Kd := KeyT.keyed (P := P) (k := k) (α := α)
 obtain ⟨es', clock', hrun, h1, h2, h3, h4, h5, h6, h7⟩ := ug2 (w := w) Kd ht hh (fun e he => let ⟨_, l, _, h, _⟩ := hk0 _ _ hok.ok e he; ⟨l, h⟩) hok.pw hkey (a.eval y) hcl
 have hnew : (ChangeMaps.setBlock w r (.map es' clock')).heap[r]? = some (.map es' clock') := ChangeMaps.heap_setBlock_same hh _
 have hchg : Chg E w (ChangeMaps.setBlock w r (.map es' clock')) 0 wv (.map (some r)) 0 (wv + 1) (.map (some r)) (E.L r) := by
  have hbn := hs.g.tb n _ _ _ r hT rfl
  refine ⟨⟨rfl, rfl, rfl, by simp [ChangeMaps.setBlock], fun k hk => ts w r k _ (by omega)⟩, fun k _ hk => ts w r k _ (fun e => hk (by simp [blk, e])), fun b hb => .inl ⟨hb, ?_⟩, fun b i hb hi => ?_, .inr ⟨rfl, rfl, by omega⟩, fun b o hb ho => ?_, fun hv => absurd hv (Nat.lt_irrefl _), fun b hb hl => ?_⟩
  ·simp only [blk, Option.some.injEq] at hb; subst hb; exact Nat.le_refl _
  ·simp only [blk, Option.some.injEq] at hb; subst hb
   simp [World.cell?, hh, hnew]
  ·simp only [blk, Option.some.injEq] at hb; subst hb; rw [hh] at ho; cases ho; exact ⟨_, hnew, rfl⟩
  ·simp only [blk, Option.some.injEq] at hb; subst hb; omega
 have hev := Ev.chg hs.g hT hchg
 have hobj : ObjOk (E.chg n (0, wv + 1, .map (some r)) (E.L r)) (ChangeMaps.setBlock w r (.map es' clock')) n (.map (wv + 1) ok' (kd (jq m key (evC st y)))) := by
  refine ⟨r, es', clock', by simp [Env.chg], hnew, ⟨?_, h2, h6 hok.pb, fun e he => ?_, fun x c hx => ?_⟩, h5⟩
  ·refine hnw E w es.toList es'.toList clock clock' hok (fun e he => ?_) h7
   rcases h1 e he with ⟨h, _, hb⟩ | ⟨h, hne⟩
   ·exact .inl ⟨⟨key, kl, h, h ▸ hkey, fun E' w' => h ▸ KeyV.any hkr E' w'⟩, h, hb⟩
   ·exact .inr ⟨h, hne⟩
  ·rcases h1 e he with ⟨hk, hv, _⟩ | ⟨hm, hne⟩
   ·refine ⟨evC st y, by rw [hk, iu]; simp [jq], ?_⟩
    rw [hv]
    exact (hs.ev y).ev hev
   ·obtain ⟨c, hc, hr⟩ := hok.val e hm
    refine ⟨c, ?_, hr.ev hev⟩
    obtain ⟨y, l, hy, _⟩ := hk0 _ _ hok.ok e hm
    rw [hy, iu] at hc ⊢
    have : y ≠ key := fun e2 => hne (by rw [hy, e2])
    simp [jq, this, hc]
  ·by_cases hex : ∃ y : α, x = KeyV.kv y
   ·obtain ⟨y, rfl⟩ := hex
    rw [iu] at hx
    by_cases hyk : y = key
    ·subst hyk; exact h3
    ·simp only [jq, hyk, if_false] at hx
     obtain ⟨e, he, hek⟩ := hok.has (KeyV.kv y) c (by rw [iu]; exact hx)
     exact ⟨e, h4 e he (by rw [hek]; exact fun e2 => hyk (KeyV.inj e2)), hek⟩
   ·rw [sf _ hex] at hx; cases hx
 have hg := SimG.chg hs.g hT hchg hobj
 unfold Oper.wp
 have hex : (execOp a.eval o).run P w = .ok .skip (ChangeMaps.setBlock w r (.map es' clock')) := by simp [execOp, ho, e1, e2, hrun]
 rw [hex]
 refine hq _ _ _ _ hev ?_ h
 have h8 := hs.evd hev hg
 simpa [Act.put, hd] using h8
theorem lk [DecidableEq α] {t k e : TypeId} [MapT P t k e] [KeyT P k α] {x i y : Operand} {n wv : Nat} {m m' : α → Option C} (key : α) (ho : o.op = .mapUpdate t x i y) (hd : o.dst = none) (hx : evC st x = .map n) (hG : st.G n = some (fe P k wv m)) (hi : evC st i = KeyV.kc key) (hm : jq m key (evC st y) = m')
  (h : K { st with G := ai st.G n (fe P k (wv + 1) m') }) : EStep P o st K :=
 ug3 key ho hd hx hG (fun _ _ h => h) (fun _ _ es es' _ _ hk he _ e h => by
  rcases he e h with h | h
  ·exact h.1
  ·exact hk.ok e h.1) hi hm h
/-- A new map. -/
theorem uh4 {t k e : TypeId} [MapT P t k e] {ok : List MapEntry → Nat → Prop} (h0 : ok [] 0) (ho : o.op = .makeMap t none) (h : K (St.put { st with G := ai st.G st.nx (.map 0 ok (kd (α := α) fun _ => none)), nx := st.nx + 1 } o.dst (.map st.nx))) : EStep P o st K := jj fun E w a hs => by
 have hnx := hs.g.nx
 have hold : ∀ b, b < w.heap.size → (w.alloc (.map #[] 0)).heap[b]? = w.heap[b]? := fun b hb => Below.heap_alloc w _ b hb
 have hnew : (w.alloc (.map #[] 0)).heap[w.heap.size]? = some (.map #[] 0) := heap_alloc_new w _
 have hTn : ∀ n t, E.T n = some t → (E.name (.map (some w.heap.size))).T n = some t := fun n t ht => by
  have := hs.g.lt n t ht
  simp only [Env.name]; rw [if_neg (by omega)]; exact ht
 have hTo : ∀ n t, (E.name (.map (some w.heap.size))).T n = some t → (n = E.nx ∧ t = (0, 0, .map (some w.heap.size))) ∨ E.T n = some t := fun n t ht => by
  simp only [Env.name] at ht
  split at ht
  ·rename_i e; exact .inl ⟨e, by simpa using ht.symm⟩
  ·exact .inr ht
 have hev : Ev E w (E.name (.map (some w.heap.size))) (w.alloc (.map #[] 0)) := by
  refine ⟨(Below.refl _ _).alloc hs.g.base _, rfl, fun _ => Nat.le_refl _, fun b i hi => ?_, Nat.le_succ _, fun n hn ver wv val ht => ?_, fun n ver wv wv' val h1 h2 hn => ?_, ?_⟩
  ·have hb : b < w.heap.size := Nat.lt_of_not_le fun hle => by have := hs.g.fresh b hle; omega
   exact World.cell?_of_block (w := w) (hold b hb)
  ·rcases hTo n _ ht with ⟨e, _⟩ | ht
   ·omega
   ·exact ⟨ver, wv, val, ht, Nat.le_refl _, fun _ => ⟨rfl, fun _ b hb => hold b (hs.g.tb n ver wv val b ht hb).2⟩⟩
  ·rcases hTo n _ h2 with ⟨e, _⟩ | h2
   ·omega
   ·rw [h1] at h2; simp at h2; omega
  ·refine ⟨rfl, fun b hb => absurd hb (Nat.lt_irrefl _), fun b o ho _ => (hold b (Array.getElem?_eq_some_iff.1 ho).1).trans ho, fun b o ho => ⟨o, (hold b (Array.getElem?_eq_some_iff.1 ho).1).trans ho, rfl⟩, fun n t' b o ht hb ho => ?_, fun n t t' b hn h1 h2 hv _ => ?_⟩
   ·rcases hTo n _ ht with ⟨_, rfl⟩ | ht
    ·simp only [blk, Option.some.injEq] at hb
     subst hb
     have := (Array.getElem?_eq_some_iff.1 ho).1
     omega
    ·exact ⟨t', ht, hb⟩
   ·rcases hTo n _ h2 with ⟨e, _⟩ | h2
    ·omega
    ·rw [h1] at h2; cases h2; omega
 refine ⟨.map (some w.heap.size), w.alloc (.map #[] 0), _, _, _, .map st.nx, ?_, hev, ?_, ?_, h⟩
 ·simp [execOp, ho, Instr.makeMap]
 ·refine .map (by simp [Env.name]; omega) fun ver wv val ht _ => ?_
  simp only [Env.name] at ht
  rw [if_pos hnx.symm] at ht
  simp only [Option.some.injEq, Prod.mk.injEq] at ht
  exact ht.2.2.symm
 ·refine ⟨by simp [Env.name, hnx], fun n o ho => ?_, fun n t ht => ?_, fun n ver wv val b ht hb => ?_, fun n m t t' b h1 h2 hne hb => ?_, fun b hb => ?_, ?_⟩
  ·simp only [ai] at ho
   split at ho
   ·rename_i en
    subst en
    simp only [Option.some.injEq] at ho
    subst ho
    exact ⟨w.heap.size, #[], 0, by simp [Env.name, hnx], hnew, ⟨h0, by simp, by simp, by simp, fun x c hx => by
     by_cases hex : ∃ y : α, x = KeyV.kv y
     ·obtain ⟨y, rfl⟩ := hex
      rw [iu] at hx; cases hx
     ·rw [sf _ hex] at hx; cases hx⟩, by simp⟩
   ·rename_i en
    refine (hs.g.obj n o ho).keep hev (by simp only [Env.name]; rw [if_neg (by omega)]) fun ver wv val b h1 h2 => ⟨hold b (hs.g.tb n ver wv val b h1 h2).2, rfl⟩
  ·rcases hTo n _ ht with ⟨e, _⟩ | ht
   ·simp [Env.name]; omega
   ·have := hs.g.lt n t ht
    simp [Env.name]; omega
  ·rcases hTo n _ ht with ⟨_, e⟩ | ht
   ·simp only [Prod.mk.injEq] at e
    obtain ⟨rfl, rfl, rfl⟩ := e
    simp only [blk, Option.some.injEq] at hb
    subst hb
    exact ⟨hs.g.base, by simp⟩
   ·have := hs.g.tb n ver wv val b ht hb
    exact ⟨this.1, by simp; omega⟩
  ·rcases hTo n _ h1 with ⟨e, rfl⟩ | h1 <;> rcases hTo m _ h2 with ⟨e', rfl⟩ | h2
   ·omega
   ·intro hb'
    simp only [blk, Option.some.injEq] at hb
    subst hb
    have := hs.g.tb m _ _ _ w.heap.size h2 hb'
    omega
   ·intro hb'
    simp only [blk, Option.some.injEq] at hb'
    subst hb'
    have := hs.g.tb n _ _ _ w.heap.size h1 hb
    omega
   ·exact hs.g.ap n m t t' b h1 h2 hne hb
  ·exact hs.g.fresh b (by simp at hb; omega)
  ·have := hs.g.base
   simp [Env.name]; omega
theorem qv {t k e : TypeId} [MapT P t k e] (ho : o.op = .makeMap t none) (h : K (St.put { st with G := ai st.G st.nx (fe P k (α := α) 0 fun _ => none), nx := st.nx + 1 } o.dst (.map st.nx))) : EStep P o st K :=
 uh4 (ok := okK P k α) (fun e he => by simp at he) ho h
end
end Go.AB
namespace Go.AB
open Go Go.RowKit
open Go.AB.Enc (cells)
theorem py {P : Program} {b : Frame} {a : Act} {k : List Item} {cs : List Frame} {w : World} {c : Code} : step P (lone (b.atR a (.code (.scope c) :: k)) cs w) = .next (lone (b.atR a (.code c :: .inScope c :: k)) cs w) :=
 step_lone_go (by simp [stepG, stepG.exec, Frame.atR])
theorem ueo {P : Program} {b : Frame} {a : Act} {k : List Item} {cs : List Frame} {w : World} {c : Code} : step P (lone (b.atR a (.inScope c :: k)) cs w) = .next (lone (b.atR a k) cs w) :=
 step_lone_go (by simp [stepG, stepG.exec, Frame.atR])
def ugq (Q : Exit → Act → World → Prop) : Exit → Act → World → Prop
 | .goto _, _, _ => False
 | e, a, w => Q e a w
theorem udo {F : Fence} {n : Nat} {P : Program} {Q : Exit → Act → World → Prop} {a : Act} {w : World} {c : Code} (h : c.wpIn F n P (ugq Q) a w) : (Code.scope c).wpIn F n P Q a w := by
 intro b k cs hro hb hr
 have h0 : (lone (b.atR a (.code (.scope c) :: k)) cs w).fenced P F := fenced_calm hb hr rfl
 obtain ⟨e, a₁, w₁, hq, harr⟩ := h b (.inScope c :: k) cs hro hb hr
 cases e with
 | normal => exact ⟨.normal, a₁, w₁, hq, .head h0 py (StepsIn.trans harr (.one (fenced_calm hb hr rfl) ueo))⟩
 | exit id' =>
  have hx : exitTo id' (.inScope c :: k) = exitTo id' k := by simp [exitTo]
  exact ⟨.exit id', a₁, w₁, hq, fun k' hk => .head h0 py (harr.1 k' (by rw [hx]; exact hk)),
   fun hr' hk => let ⟨k₁, h1, h2⟩ := harr.2 hr' (by rw [hx]; exact hk); ⟨k₁, h1, .head h0 py h2⟩⟩
 | goto l => exact hq.elim
 | ret => exact ⟨_, a₁, w₁, hq, .of_steps (.one h0 py) harr⟩
 | panic ch => exact ⟨_, a₁, w₁, hq, .of_steps (.one h0 py) harr⟩
 | outgrown => exact ⟨_, a₁, w₁, hq, .of_steps (.one h0 py) harr⟩
section
variable {ρ : Option Nat} {P : Program} {Q : Exit → St → Prop} {st : St}
def ujr (Q : Exit → St → Prop) : Exit → St → Prop
 | .goto _, _ => False
 | e, st => Q e st
theorem yv {c : Code} (h : AW ρ P c (ujr Q) st) : AW ρ P (.scope c) Q st := by
 intro E w a hs
 refine udo (gz ?_ (h E w a hs))
 rintro e a' w' ⟨st', E', h1, h2, h3⟩
 cases e with
 | goto l => exact h3
 | _ => exact ⟨st', E', h1, h2, h3⟩
/-- Round by round. -/
def tc (ρ : Option Nat) (P : Program) (c : Code) (Q : Exit → St → Prop) : Nat → St → Prop
 | 0, _ => False
 | m + 1, st => AW ρ P c (n8 (tc ρ P c Q m) Q) st
theorem vp {c : Code} (m : Nat) (h : tc ρ P c Q m st) : AW ρ P (.loop c) Q st := by
 intro E w a hs
 refine wpIn_loop_rounds m ?_
 have key : ∀ m st E1 w1 a1, Ev E w E1 w1 → Sim E1 w1 st a1 → tc ρ P c Q m st → Code.roundsIn (fen ρ) 1 P c (l6 E w Q) m a1 w1 := by
  intro m
  induction m with
  | zero => intro st E1 w1 a1 _ _ h; exact h.elim
  | succ m ih =>
   intro st E1 w1 a1 hev hs1 h
   refine gz ?_ (h E1 w1 a1 hs1)
   rintro e a' w' ⟨st', E', h1, h2, h3⟩
   cases e with
   | normal => exact ih st' E' w' a' (hev.trans h1) h2 h3
   | _ => exact ⟨st', E', hev.trans h1, h2, h3⟩
 exact key m st E w a (Ev.refl E w) hs h
theorem pa {c : Code} {m : Nat} (h : ∀ K : St → Prop, (∀ st', tc ρ P c Q m st' → K st') → AW ρ P c (n8 K Q) st) : tc ρ P c Q (m + 1) st := h _ fun _ h => h
end
end Go.AB
namespace Go.AB
open Go Go.RowKit
open Go.Maps (Keyed)
variable {ρ : Option Nat}

theorem ufa {P : Program} (w : World) (ty : TypeId) (b bm since c0 : Nat) (seen : Array Nat) (es : Array MapEntry) (clock : Nat) (hi : w.heap[b]? = some (.mapIter (some bm) since seen c0)) (hb : w.heap[bm]? = some (.map es clock)) (hold : ∀ x ∈ es.toList, x.born < since) (hsc : since ≤ c0) :
  ((leftOf es seen).size = 0 ∧ (Instr.next (.pointer (some ⟨b, 0, none⟩)) false ty).run P w = .ok (.tuple #[.bool false]) w) ∨
  ∃ e ∈ (leftOf es seen).toList, ∃ w1 : World, (w1 = w ∨ w1 = w.drew) ∧ (Instr.next (.pointer (some ⟨b, 0, none⟩)) false ty).run P w = .ok (.tuple #[.bool true, e.key, e.val]) (w1.putObj b (.mapIter (some bm) since (seen.push e.born) clock)) := by
 simp only [Instr.next, getObj, Sem.run_bind, Sem.run, hi, hb, Result.andThen, next_test_false seen es since c0 hold hsc, Bool.false_eq_true, if_false]
 unfold leftOf
 have hmem : ∀ x ∈ (Array.filter (fun e => !seen.contains e.born) es).toList, x.born < since := fun x hx => hold x (by simp at hx ⊢; exact hx.1)
 generalize Array.filter (fun e => !seen.contains e.born) es = L at hmem ⊢
 have e1 : L.filter (fun x => decide (x.born < since)) = L := Array.filter_eq_self.2 (fun x hx => by simpa using hmem x (by simpa using hx))
 have e2 : L.filter (fun x => decide (x.born ≥ since)) = #[] := by
  rw [Array.filter_eq_empty_iff]
  intro x hx
  have := hmem x (by simpa using hx)
  simp
  omega
 simp only [e1, e2, Array.append_empty]
 by_cases h0 : L.size = 0
 ·left
  have : L = #[] := Array.eq_empty_of_size_eq_zero h0
  subst this
  refine ⟨rfl, ?_⟩
  simp [choose, Sem.run, Question.forced]
 ·right
  have hne : L.isEmpty = false := by simp [Array.isEmpty, h0]
  simp only [hne, Bool.false_eq_true, if_false, Array.empty_append, Array.size_map]
  have hch : ∃ (j : Nat) (w1 : World), j < L.size ∧ (w1 = w ∨ w1 = w.drew) ∧ (choose (Question.mapNext L.size)).run P w = .ok j w1 := by
   by_cases hf : L.size ≤ 1
   ·exact ⟨0, w, by omega, .inl rfl, by simp [choose, Sem.run, Question.forced, hf]⟩
   ·exact ⟨_, w.drew, Nat.mod_lt _ (by omega), .inr rfl, by
     simp only [choose, Sem.run, Question.forced, decide_eq_true_eq, hf, if_false, Question.cut]
     rfl⟩
  obtain ⟨j, w1, hj, hal, hrun⟩ := hch
  refine ⟨L[j], by simp, w1, hal, ?_⟩
  have hi1 : w1.heap[b]? = some (.mapIter (some bm) since seen c0) := by rcases hal with rfl | rfl <;> exact hi
  have hset : ∀ (o' : Obj), (setObj b o').run P w1 = .ok () (w1.putObj b o') := fun o' => by
   simp only [setObj, Sem.run, hi1]
   rfl
  simp only [hrun, Array.getElem?_map, Array.getElem?_eq_getElem hj, Option.map_some, Sem.run_bind, hset, Result.andThen]
  rfl

/-- A map over which a range runs: what was there when it began; the stamps of its keys. -/
def okB (P : Program) (k : TypeId) (α : Type) [KeyV α] (β : Value → Nat) (cl : Nat) : List MapEntry → Nat → Prop := fun es clock => okK P k α es clock ∧ clock = cl ∧ ∀ e ∈ es, e.born = β e.key
noncomputable def ji (P : Program) (k : TypeId) {α : Type} [KeyV α] (wv : Nat) (m : α → Option C) (β : Value → Nat) (cl : Nat) : GObj := .map wv (okB P k α β cl) (kd m)
/-- The stamps of what has come. -/
def gl {α : Type} [KeyV α] (β : Value → Nat) (done : List α) : Array Nat := (done.map fun x => β (KeyV.kv x)).toArray

section
variable {P : Program} {o : Oper} {st : St} {K : St → Prop} {α : Type} [KeyV α]
/-- A new object that is no cells. -/
theorem ufp {E : Env} {w : World} {G : Nat → Option GObj} {nx : Nat} (hg : SimG E w G nx) (ob : Obj) (hob : ob.isCells = false) :
  ∃ E', Ev E w E' (w.alloc ob) ∧ SimG E' (w.alloc ob) (ai G nx (.raw 0 ob)) (nx + 1) ∧ R E' (w.alloc ob) (.box nx 0 0) (.pointer (some ⟨w.heap.size, 0, none⟩)) ∧ ∀ n, n < nx → E'.T n = E.T n := by
 have hnx := hg.nx
 have hold : ∀ b, b < w.heap.size → (w.alloc ob).heap[b]? = w.heap[b]? := fun b hb => Below.heap_alloc w _ b hb
 have hnew : (w.alloc ob).heap[w.heap.size]? = some ob := heap_alloc_new w _
 have hTo : ∀ n t, (E.name (.pointer (some ⟨w.heap.size, 0, none⟩))).T n = some t → (n = E.nx ∧ t = (0, 0, .pointer (some ⟨w.heap.size, 0, none⟩))) ∨ E.T n = some t := fun n t ht => by
  simp only [Env.name] at ht
  split at ht
  ·rename_i e; exact .inl ⟨e, by simpa using ht.symm⟩
  ·exact .inr ht
 have hev : Ev E w (E.name (.pointer (some ⟨w.heap.size, 0, none⟩))) (w.alloc ob) := by
  refine ⟨(Below.refl _ _).alloc hg.base _, rfl, fun _ => Nat.le_refl _, fun b i hi => ?_, Nat.le_succ _, fun n hn ver wv val ht => ?_, fun n ver wv wv' val h1 h2 hn => ?_, ?_⟩
  ·have hb : b < w.heap.size := Nat.lt_of_not_le fun hle => by have := hg.fresh b hle; omega
   exact World.cell?_of_block (w := w) (hold b hb)
  ·rcases hTo n _ ht with ⟨e, _⟩ | ht
   ·omega
   ·exact ⟨ver, wv, val, ht, Nat.le_refl _, fun _ => ⟨rfl, fun _ b hb => hold b (hg.tb n ver wv val b ht hb).2⟩⟩
  ·rcases hTo n _ h2 with ⟨e, _⟩ | h2
   ·omega
   ·rw [h1] at h2; simp at h2; omega
  ·refine ⟨rfl, fun b hb => absurd hb (Nat.lt_irrefl _), fun b o ho _ => (hold b (Array.getElem?_eq_some_iff.1 ho).1).trans ho, fun b o ho => ⟨o, (hold b (Array.getElem?_eq_some_iff.1 ho).1).trans ho, rfl⟩, fun n t' b o ht hb ho => ?_, fun n t t' b hn h1 h2 hv _ => ?_⟩
   ·rcases hTo n _ ht with ⟨_, rfl⟩ | ht
    ·simp only [blk, Option.some.injEq] at hb
     subst hb
     have := (Array.getElem?_eq_some_iff.1 ho).1
     omega
    ·exact ⟨t', ht, hb⟩
   ·rcases hTo n _ h2 with ⟨e, _⟩ | h2
    ·omega
    ·rw [h1] at h2; cases h2; omega
 refine ⟨_, hev, ⟨by simp [Env.name, hnx], fun n o ho => ?_, fun n t ht => ?_, fun n ver wv val b ht hb => ?_, fun n m t t' b h1 h2 hne hb => ?_, fun b hb => ?_, ?_⟩, ?_, fun n hn => ?_⟩
 ·simp only [ai] at ho
  split at ho
  ·rename_i en
   subst en
   simp only [Option.some.injEq] at ho
   subst ho
   exact ⟨w.heap.size, by simp [Env.name, hnx], hnew, hob⟩
  ·rename_i en
   refine (hg.obj n o ho).keep hev (by simp only [Env.name]; rw [if_neg (by omega)]) fun ver wv val b h1 h2 => ⟨hold b (hg.tb n ver wv val b h1 h2).2, rfl⟩
 ·rcases hTo n _ ht with ⟨e, _⟩ | ht
  ·simp [Env.name]; omega
  ·have := hg.lt n t ht
   simp [Env.name]; omega
 ·rcases hTo n _ ht with ⟨_, e⟩ | ht
  ·simp only [Prod.mk.injEq] at e
   obtain ⟨rfl, rfl, rfl⟩ := e
   simp only [blk, Option.some.injEq] at hb
   subst hb
   exact ⟨hg.base, by simp⟩
  ·have := hg.tb n ver wv val b ht hb
   exact ⟨this.1, by simp; omega⟩
 ·rcases hTo n _ h1 with ⟨e, rfl⟩ | h1 <;> rcases hTo m _ h2 with ⟨e', rfl⟩ | h2
  ·omega
  ·intro hb'
   simp only [blk, Option.some.injEq] at hb
   subst hb
   have := hg.tb m _ _ _ w.heap.size h2 hb'
   omega
  ·intro hb'
   simp only [blk, Option.some.injEq] at hb'
   subst hb'
   have := hg.tb n _ _ _ w.heap.size h1 hb
   omega
  ·exact hg.ap n m t t' b h1 h2 hne hb
 ·exact hg.fresh b (by simp at hb; omega)
 ·have := hg.base
  simp [Env.name]; omega
 ·refine .box (by simp [Env.name]; omega) fun ver wv val ht => ⟨Nat.zero_le _, fun _ => ?_⟩
  simp only [Env.name] at ht
  rw [if_pos hnx.symm] at ht
  simp only [Option.some.injEq, Prod.mk.injEq] at ht
  rw [← ht.2.2]; rfl
 ·simp only [Env.name]
  rw [if_neg (by omega)]

/-- A fact among the named objects. -/
theorem uck {E : Env} {w : World} {G : Nat → Option GObj} {nx : Nat} (hg : SimG E w G nx) {v : Value} {c : C} (hr : R E w c v) :
  ∃ E', Ev E w E' w ∧ SimG E' w (ai G nx (.fact v c)) (nx + 1) := by
 refine ⟨_, Ev.name hg undef (fun b o hb => by cases hb), hg.name undef _ (fun b hb => by cases hb) ⟨by simp [Env.name, hg.nx], hr.ev (Ev.name hg undef (fun b o hb => by cases hb))⟩⟩

/-- The stamps of a map's keys. -/
theorem tp {E : Env} {w : World} {k : TypeId} {m : α → Option C} {es : List MapEntry} {clock : Nat} (h : MapOk E w (okK P k α) (kd m) es clock) (hall : ∀ e ∈ es, e.born < clock) :
  ∃ (β : Value → Nat) (ks : List α), MapOk E w (okB P k α β clock) (kd m) es clock ∧ ks.Nodup ∧ (∀ x, m x ≠ none ↔ x ∈ ks) ∧ (∀ x ∈ ks, ∀ y ∈ ks, β (KeyV.kv x) = β (KeyV.kv y) → x = y) := by
 classical
 have hkey : ∀ e ∈ es, ∃ x : α, e.key = KeyV.kv x := fun e he => let ⟨x, _, hx, _⟩ := h.ok e he; ⟨x, hx⟩
 let β : Value → Nat := fun v => if hv : ∃ e ∈ es, e.key = v then hv.choose.born else 0
 have hβ : ∀ e ∈ es, e.born = β e.key := fun e he => by
  have hv : ∃ e' ∈ es, e'.key = e.key := ⟨e, he, rfl⟩
  show e.born = if hv : ∃ e' ∈ es, e'.key = e.key then hv.choose.born else 0
  rw [dif_pos hv]
  have h1 := hv.choose_spec
  have : hv.choose = e := Go.entry_eq_of_key h.pw h1.1 he h1.2
  rw [this]
 let f : MapEntry → Option α := fun e => if hx : ∃ x : α, e.key = KeyV.kv x then some hx.choose else none
 have hf : ∀ e ∈ es, ∀ x : α, e.key = KeyV.kv x → f e = some x := fun e he x hx => by
  have h1 : ∃ x : α, e.key = KeyV.kv x := ⟨x, hx⟩
  show (if hx : ∃ x : α, e.key = KeyV.kv x then some hx.choose else none) = some x
  rw [dif_pos h1]
  congr 1
  exact KeyV.inj (h1.choose_spec.symm.trans hx)
 have hmem : ∀ x, x ∈ es.filterMap f ↔ ∃ e ∈ es, e.key = KeyV.kv x := fun x => by
  rw [List.mem_filterMap]
  constructor
  ·rintro ⟨e, he, hx⟩
   obtain ⟨y, hy⟩ := hkey e he
   rw [hf e he y hy] at hx
   cases hx
   exact ⟨e, he, hy⟩
  ·rintro ⟨e, he, hx⟩
   exact ⟨e, he, hf e he x hx⟩
 refine ⟨β, es.filterMap f, ⟨⟨h.ok, rfl, hβ⟩, h.pw, h.pb, h.val, h.has⟩, ?_, fun x => ?_, fun x hx y hy e => ?_⟩
 ·have : ∀ l : List MapEntry, (∀ e ∈ l, e ∈ es) → l.Pairwise (fun a b => a.key ≠ b.key) → (l.filterMap f).Nodup := by
   intro l
   induction l with
   | nil => intro _ _; exact List.nodup_nil
   | cons a l ih =>
    intro hs hp
    obtain ⟨x, hx⟩ := hkey a (hs a (List.mem_cons_self ..))
    rw [List.filterMap_cons_some (hf a (hs a (List.mem_cons_self ..)) x hx), List.nodup_cons]
    rw [List.pairwise_cons] at hp
    refine ⟨fun hm => ?_, ih (fun e he => hs e (List.mem_cons_of_mem _ he)) hp.2⟩
    rw [List.mem_filterMap] at hm
    obtain ⟨e, he, h1⟩ := hm
    obtain ⟨y, hy⟩ := hkey e (hs e (List.mem_cons_of_mem _ he))
    rw [hf e (hs e (List.mem_cons_of_mem _ he)) y hy] at h1
    cases h1
    exact hp.1 e he (hx.trans hy.symm)
  exact this es (fun _ h => h) h.pw
 ·rw [hmem]
  constructor
  ·intro hx
   obtain ⟨c, hc⟩ := Option.ne_none_iff_exists'.1 hx
   exact h.has (KeyV.kv x) c (by rw [iu, hc])
  ·rintro ⟨e, he, hx⟩
   obtain ⟨c, hc, _⟩ := h.val e he
   rw [hx, iu] at hc
   rw [hc]; simp
 ·obtain ⟨e1, h1, k1⟩ := (hmem x).1 hx
  obtain ⟨e2, h2, k2⟩ := (hmem y).1 hy
  have q : e1.born = e2.born := by rw [hβ e1 h1, hβ e2 h2, k1, k2, e]
  have : e1 = e2 := by
   obtain ⟨i, hi⟩ := List.getElem?_of_mem h1
   obtain ⟨j, hj⟩ := List.getElem?_of_mem h2
   rcases Nat.lt_trichotomy i j with hij | hij | hij
   ·exact absurd q (List.pairwise_iff_getElem.1 h.pb i j (List.getElem?_eq_some_iff.1 hi).1 (List.getElem?_eq_some_iff.1 hj).1 hij |> fun hh => by
     rw [(List.getElem?_eq_some_iff.1 hi).2, (List.getElem?_eq_some_iff.1 hj).2] at hh; exact hh)
   ·subst hij; rw [hi] at hj; cases hj; rfl
   ·exact absurd q.symm (List.pairwise_iff_getElem.1 h.pb j i (List.getElem?_eq_some_iff.1 hj).1 (List.getElem?_eq_some_iff.1 hi).1 hij |> fun hh => by
     rw [(List.getElem?_eq_some_iff.1 hi).2, (List.getElem?_eq_some_iff.1 hj).2] at hh; exact hh)
  subst this
  exact KeyV.inj (k1.symm.trans k2)

/-- A map is known better. -/
theorem SimG.remap {E : Env} {w : World} {G : Nat → Option GObj} {nx : Nat} (hg : SimG E w G nx) {n wv : Nat} {ok ok' : List MapEntry → Nat → Prop} {f : Value → Option C} (hG : G n = some (.map wv ok f))
  (h : ∀ es clock, MapOk E w ok f es clock → (∀ r, E.T n = some (0, wv, .map (some r)) → ∀ es', w.heap[r]? = some (.map es' clock) → es'.toList = es → es'.all (·.born < clock) = true → MapOk E w ok' f es clock)) : SimG E w (ai G n (.map wv ok' f)) nx := by
 refine ⟨hg.nx, fun k ob hk => ?_, hg.lt, hg.tb, hg.ap, hg.fresh, hg.base⟩
 simp only [ai] at hk
 split at hk
 ·rename_i e
  subst e
  cases hk
  obtain ⟨r, es, clock, h1, h2, h3, h4⟩ := hg.obj k _ hG
  exact ⟨r, es, clock, h1, h2, h _ _ h3 r h1 es h2 rfl h4, h4⟩
 ·exact hg.obj k ob hk

/-- A range over a map begins. -/
theorem qt {t k e : TypeId} [MapT P t k e] {x : Operand} {n wv : Nat} {m : α → Option C} (ho : o.op = .range t x) (hx : evC st x = .map n) (hG : st.G n = some (fe P k wv m))
  (h : ∀ (r : Nat) (β : Value → Nat) (cl : Nat) (ks : List α), ks.Nodup → (∀ x, m x ≠ none ↔ x ∈ ks) → (∀ x ∈ ks, ∀ y ∈ ks, β (KeyV.kv x) = β (KeyV.kv y) → x = y) →
   K (St.put { st with G := ai (ai (ai st.G n (ji P k wv m β cl)) st.nx (.raw 0 (.mapIter (some r) cl (gl β ([] : List α)) cl))) (st.nx + 1) (.fact (.map (some r)) (.map n)), nx := st.nx + 1 + 1 } o.dst (.box st.nx 0 0))) : EStep P o st K := jj fun E w a hs => by
 obtain ⟨r, es, clock, hT, hh, hok, hcl⟩ := hs.g.obj n _ hG
 have e1 := qk (hx ▸ hs.ev x) hT
 have ht := MapT.spec (P := P) (t := t) (k := k) (e := e)
 have hcl' : ∀ e ∈ es.toList, e.born < clock := fun e he => by simpa using Array.all_eq_true_iff_forall_mem.1 hcl e (by simpa using he)
 obtain ⟨β, ks, hB, q1, q2, q3⟩ := tp hok hcl'
 have hg1 : SimG E w (ai st.G n (ji P k wv m β clock)) st.nx := by
  refine hs.g.remap hG fun es' clock' h3 r' h1 es2 h2 h5 _ => ?_
  rw [hT] at h1
  simp only [Option.some.injEq, Prod.mk.injEq, Value.map.injEq, true_and] at h1
  subst h1
  rw [hh] at h2
  cases h2
  subst h5
  exact hB
 obtain ⟨E1, v1, g1, r1, t1⟩ := ufp hg1 (.mapIter (some r) clock #[] clock) rfl
 have hlt : n < st.nx := by have := hs.g.lt n _ hT; have := hs.g.nx; omega
 have hT1 : E1.T n = some (0, wv, .map (some r)) := (t1 n hlt).trans hT
 have hmr : R E1 (w.alloc (.mapIter (some r) clock #[] clock)) (.map n) (.map (some r)) := .map (by have := g1.nx; omega) fun ver wv' val hv _ => by
  rw [hT1] at hv; cases hv; rfl
 obtain ⟨E2, v2, g2⟩ := uck g1 hmr
 refine ⟨.pointer (some ⟨w.heap.size, 0, none⟩), w.alloc (.mapIter (some r) clock #[] clock), E2, _, _, .box st.nx 0 0, ?_, v1.trans v2, r1.ev v2, g2, h r β clock ks q1 q2 q3⟩
 simp [execOp, ho, e1, run_range_map w t k e r es clock ht hh]

theorem seenOf_contains {β : Value → Nat} {done : List α} {b : Nat} : (gl β done).contains b = true ↔ ∃ x ∈ done, β (KeyV.kv x) = b := by
 simp [gl]

/-- The range goes on, or ends. -/
theorem qu {k : TypeId} {x : Operand} {i fx n wv wn r cl : Nat} {β : Value → Nat} {m : α → Option C} {ks done : List α} (ho : o.op = .next x false) (hx : evC st x = .box i 0 0) (hI : st.G i = some (.raw wv (.mapIter (some r) cl (gl β done) cl))) (hF : st.G fx = some (.fact (.map (some r)) (.map n))) (hG : st.G n = some (ji P k wn m β cl))
  (hks : ∀ x, m x ≠ none ↔ x ∈ ks) (hinj : ∀ x ∈ ks, ∀ y ∈ ks, β (KeyV.kv x) = β (KeyV.kv y) → x = y) (hd : ∀ y ∈ done, y ∈ ks)
  (hend : (∀ y ∈ ks, y ∈ done) → K (st.put o.dst (.tup [.v (.bool false)])))
  (hmore : ∀ y c, m y = some c → y ∈ ks → y ∉ done → K (St.put { st with G := ai st.G i (.raw (wv + 1) (.mapIter (some r) cl (gl β (done ++ [y])) cl)) } o.dst (.tup [.v (.bool true), KeyV.kc y, c]))) : EStep P o st K := fun E w a hs Kr Q hq => by
 obtain ⟨r', es, clock, hT, hh, hok, hcl⟩ := hs.g.obj n _ hG
 obtain ⟨b, hTi, hi, _⟩ := hs.g.obj i _ hI
 have hfact := (hs.g.obj fx _ hF).2
 have hr' : r' = r := by
  have := qk hfact hT
  simpa using this.symm
 subst hr'
 obtain ⟨hokK, hclk, hβ⟩ := hok.ok
 subst hclk
 have hcl' : ∀ e ∈ es.toList, e.born < clock := fun e he => by simpa using Array.all_eq_true_iff_forall_mem.1 hcl e (by simpa using he)
 have e1 : a.eval x = .pointer (some ⟨b, 0, none⟩) := by
  have hp := hx ▸ hs.ev x
  generalize hv : a.eval x = v at hp
  cases hp with
  | @box _ _ _ b' h1 h2 =>
   have := (h2 _ _ _ hTi).2 rfl
   simp only [blk, Option.some.injEq] at this
   rw [this]
 have hkey : ∀ e ∈ es.toList, ∃ y : α, e.key = KeyV.kv y ∧ y ∈ ks ∧ ∃ c, m y = some c ∧ R E w c e.val ∧ R E w (KeyV.kc y) e.key := fun e he => by
  obtain ⟨y, _, hy, _, hr⟩ := hokK e he
  obtain ⟨c, hc, hrc⟩ := hok.val e he
  rw [hy, iu] at hc
  exact ⟨y, hy, (hks y).1 (by rw [hc]; simp), c, hc, hrc, hr E w⟩
 rcases ufa (P := P) w o.type b r' clock clock (gl β done) es clock hi hh hcl' (Nat.le_refl _) with ⟨hz, hrun⟩ | ⟨en, hen, w1, hw1, hrun⟩
 ·have hall := all_seen es (gl β done) hz
  have hex : (execOp a.eval o).run P w = .ok (.value (.tuple #[.bool false])) w := by simp [execOp, ho, e1, hrun]
  unfold Oper.wp
  rw [hex]
  refine hq _ _ _ _ (Ev.refl E w) (hs.put o.dst (c := .tup [.v (.bool false)]) (Rs.cons (.v rfl) Rs.nil).tup) (hend fun y hy => ?_)
  obtain ⟨c, hc⟩ := Option.ne_none_iff_exists'.1 ((hks y).2 hy)
  obtain ⟨e, he, hek⟩ := hok.has (KeyV.kv y) c (by rw [iu, hc])
  obtain ⟨z, hz1, hz2⟩ := seenOf_contains.1 (hall e he)
  rw [hβ e he, hek] at hz2
  exact hinj z (hd z hz1) y hy hz2 ▸ hz1
 ·obtain ⟨hm1, hm2⟩ := mem_left hen
  obtain ⟨y, hy, hyk, c, hc, hrc, hrk⟩ := hkey en hm1
  have hnd : y ∉ done := fun hyd => by
   have : (gl β done).contains en.born = true := seenOf_contains.2 ⟨y, hyd, by rw [hβ en hm1, hy]⟩
   rw [hm2] at this; cases this
  have hseen : (gl β done).push en.born = gl β (done ++ [y]) := by simp [gl, hβ en hm1, hy]
  rw [hseen] at hrun
  have hhe : w1.heap = w.heap := by rcases hw1 with rfl | rfl <;> rfl
  have hblt : b < w1.heap.size := by rw [hhe]; exact (Array.getElem?_eq_some_iff.1 hi).1
  obtain ⟨ob, hob⟩ : ∃ ob, ob = (Obj.mapIter (some r') clock (gl β (done ++ [y])) clock) := ⟨_, rfl⟩
  rw [← hob] at hrun
  have hnew : (w1.putObj b ob).heap[b]? = some ob := World.putObj_heap_same hblt
  have hoth : ∀ k, k ≠ b → (w1.putObj b ob).heap[k]? = w.heap[k]? := fun k hk => by rw [World.putObj_heap_other hk, hhe]
  have htb := hs.g.tb i _ _ _ b hTi rfl
  have hbel1 : Below E.B w w1 := by
   rcases hw1 with rfl | rfl
   ·exact Below.refl _ _
   ·exact (Below.refl _ _).drew
  have hchg : Chg E w (w1.putObj b ob) 0 wv (.pointer (some ⟨b, 0, none⟩)) 0 (wv + 1) (.pointer (some ⟨b, 0, none⟩)) (E.L b) := by
   refine ⟨⟨hbel1.os, hbel1.tape, hbel1.output, by rw [World.putObj_size, hhe]; exact Nat.le_refl _, fun k hk => hoth k (by omega)⟩, fun k _ hk => hoth k (fun e => hk (by simp [blk, e])), fun b' hb' => .inl ⟨hb', ?_⟩, fun b' j hb' hj => ?_, .inr ⟨rfl, rfl, by omega⟩, fun b' o' hb' ho' => ?_, fun hv => absurd hv (Nat.lt_irrefl _), fun b' hb' hl => ?_⟩
   ·simp only [blk, Option.some.injEq] at hb'; subst hb'; exact Nat.le_refl _
   ·simp only [blk, Option.some.injEq] at hb'; subst hb'
    unfold World.cell?
    dsimp only
    rw [hi, hnew, hob]
   ·simp only [blk, Option.some.injEq] at hb'; subst hb'; rw [hi] at ho'; cases ho'; exact ⟨_, hnew, by rw [hob]; rfl⟩
   ·simp only [blk, Option.some.injEq] at hb'; subst hb'; omega
  have hev := Ev.chg hs.g hTi hchg
  have hobj : ObjOk (E.chg i (0, wv + 1, .pointer (some ⟨b, 0, none⟩)) (E.L b)) (w1.putObj b ob) i (.raw (wv + 1) ob) := ⟨b, by simp [Env.chg], hnew, by rw [hob]; rfl⟩
  have hg := SimG.chg hs.g hTi hchg hobj
  have hex : (execOp a.eval o).run P w = .ok (.value (.tuple #[.bool true, en.key, en.val])) (w1.putObj b ob) := by simp [execOp, ho, e1, hrun]
  unfold Oper.wp
  rw [hex]
  subst hob
  refine hq _ _ _ _ hev ((hs.evd hev hg).put o.dst (c := .tup [.v (.bool true), KeyV.kc y, c]) ((Rs.cons (.v rfl) (Rs.cons (hrk.ev hev) (Rs.cons (hrc.ev hev) Rs.nil))).tup)) (hmore y c hc hyk hnd)

/-- The entry that came last. -/
theorem p8 {D : Nat → Prop} {k : TypeId} {x : Operand} {i fx n wv wn r cl : Nat} {β : Value → Nat} {m : α → Option C} {done : List α} {y : α} {c : C} (ho : o.op = .entry x) (hx : evC st x = .box i 0 0) (hI : st.G i = some (.raw wv (.mapIter (some r) cl (gl β (done ++ [y])) cl))) (hDi : D i) (hF : st.G fx = some (.fact (.map (some r)) (.map n))) (hG : st.G n = some (ji P k wn m β cl)) (hDn : D n)
  (hm : m y = some c) : SStep P D o st (.tup [KeyV.kc y, c]) := fun E w a hs => by
 obtain ⟨r', es, clock, hT, hh, hok, hcl⟩ := hs.g.obj n _ hG
 obtain ⟨b, hTi, hi, _⟩ := hs.g.obj i _ hI
 have hfact := (hs.g.obj fx _ hF).2
 have hr' : r' = r := by
  have := qk hfact hT
  simpa using this.symm
 subst hr'
 obtain ⟨hokK, hclk, hβ⟩ := hok.ok
 subst hclk
 have e1 : a.eval x = .pointer (some ⟨b, 0, none⟩) := by
  have hp := hx ▸ hs.ev x
  generalize hv : a.eval x = v at hp
  cases hp with
  | @box _ _ _ b' h1 h2 =>
   have := (h2 _ _ _ hTi).2 rfl
   simp only [blk, Option.some.injEq] at this
   rw [this]
 obtain ⟨e, he, hek⟩ := hok.has (KeyV.kv y) c (by rw [iu, hm])
 obtain ⟨y', _, hy', _, hr⟩ := hokK e he
 have hyy : y' = y := KeyV.inj (hy'.symm.trans hek)
 subst hyy
 obtain ⟨c', hc', hrc⟩ := hok.val e he
 rw [hek, iu, hm] at hc'
 cases hc'
 refine ⟨.tuple #[e.key, e.val], (Rs.cons (hr E w) (Rs.cons hrc Rs.nil)).tup, fun w' hk => ?_⟩
 have hb' := (hk.2 n hDn _ _ _ r' hT rfl).trans hh
 have hi' := (hk.2 i hDi _ _ _ b hTi rfl).trans hi
 have hback : (gl β (done ++ [y'])).back? = some e.born := by
  rw [hβ e he, hek]; simp [gl]
 have hn : (es.toList.map (·.born)).Nodup := List.pairwise_map.2 hok.pb
 have hf : es.find? (·.born == e.born) = some e := by rw [← Array.find?_toList]; exact find_born e es.toList hn he
 simp [execOp, ho, e1, Instr.entry, getObj, Sem.run, hi', hb', hback, hf, Result.andThen]

/-- What the run of a deletion leaves. -/
theorem qw [DecidableEq α] {t kt k e : TypeId} [MapT P t k e] [KeyT P k α] {x i : Operand} {n wv : Nat} {m m' : α → Option C} (key : α) (ho : o.op = .call { callee := .builtin .delete, args := #[x, i], argTypes := #[t, kt] }) (hx : evC st x = .map n) (hG : st.G n = some (fe P k wv m)) (hi : evC st i = KeyV.kc key) (hm : pm m key = m')
  (h : K (St.put { st with G := ai st.G n (fe P k (wv + 1) m') } o.dst (.tup []))) : EStep P o st K := fun E w a hs Kr Q hq => by
 subst hm
 obtain ⟨r, es, clock, hT, hh, hok, hcl⟩ := hs.g.obj n _ hG
 have e1 := qk (hx ▸ hs.ev x) hT
 have hkr := hi ▸ hs.ev i
 have e2 := KeyV.inv hkr
 obtain ⟨kl, hkey⟩ := KeyT.has (P := P) (k := k) hkr
 have ht := MapT.spec (P := P) (t := t) (k := k) (e := e)
 have Kd := KeyT.keyed (P := P) (k := k) (α := α)
 have hk1 : ∀ e ∈ es.toList, ∃ l, keyOf P k e.key = some l := fun e he => let ⟨_, l, _, h, _⟩ := hok.ok e he; ⟨l, h⟩
 obtain ⟨es', hrun, h1, h2, h3⟩ : ∃ es' : Array MapEntry, (Builtin.delete_ #[t, kt] o.type #[.map (some r), KeyV.kv key]).run P w = .ok (.tuple #[]) (ChangeMaps.setBlock w r (.map es' clock)) ∧ es'.toList.Sublist es.toList ∧ (∀ e ∈ es'.toList, e.key ≠ KeyV.kv key) ∧ ∀ e ∈ es.toList, e.key ≠ KeyV.kv key → e ∈ es'.toList := by
  rcases Kd.find w hkey es.toList hk1 with ⟨hf, hn⟩ | ⟨j, e0, hf, hj, hke⟩
  ·exact ⟨es, by simp [Builtin.delete_, run_underlying ht, MapKept.run_getObj_map hh, Kd.check w _ hkey, hf, MapKept.run_setObj_map _ hh, Result.andThen, ChangeMaps.setBlock], List.Sublist.refl _, hn, fun e he _ => he⟩
  ·have hjl : j < es.toList.length := (List.getElem?_eq_some_iff.1 hj).1
   refine ⟨es.eraseIdxIfInBounds j, by simp [Builtin.delete_, run_underlying ht, MapKept.run_getObj_map hh, Kd.check w _ hkey, hf, MapKept.run_setObj_map _ hh, Result.andThen, ChangeMaps.setBlock], ?_, fun e he => ?_, fun e he hne => ?_⟩
   ·rw [Array.toList_eraseIdxIfInBounds]; exact List.eraseIdx_sublist _ _
   ·rw [Array.toList_eraseIdxIfInBounds] at he
    obtain ⟨i, hi, hij, hie⟩ := List.mem_eraseIdx_iff_getElem.1 he
    intro hk
    have hee : e ∈ es.toList := hie ▸ List.getElem_mem hi
    have : e = e0 := Go.entry_eq_of_key hok.pw hee (List.mem_of_getElem? hj) (hk.trans hke.symm)
    have h0 := List.pairwise_iff_getElem.1 hok.pw
    have hjj := (List.getElem?_eq_some_iff.1 hj).2
    rcases Nat.lt_or_gt_of_ne hij with hlt | hlt
    ·exact h0 i j hi hjl hlt (by rw [hie, hjj, this])
    ·exact h0 j i hjl hi hlt (by rw [hie, hjj, this])
   ·rw [Array.toList_eraseIdxIfInBounds]
    obtain ⟨i, hi, hie⟩ := List.getElem_of_mem he
    refine List.mem_eraseIdx_iff_getElem.2 ⟨i, hi, fun hij => hne ?_, hie⟩
    subst hij
    rw [← hie, (List.getElem?_eq_some_iff.1 hj).2]; exact hke
 have hnew : (ChangeMaps.setBlock w r (.map es' clock)).heap[r]? = some (.map es' clock) := ChangeMaps.heap_setBlock_same hh _
 have hchg : Chg E w (ChangeMaps.setBlock w r (.map es' clock)) 0 wv (.map (some r)) 0 (wv + 1) (.map (some r)) (E.L r) := by
  have hbn := hs.g.tb n _ _ _ r hT rfl
  refine ⟨⟨rfl, rfl, rfl, by simp [ChangeMaps.setBlock], fun k hk => ts w r k _ (by omega)⟩, fun k _ hk => ts w r k _ (fun e => hk (by simp [blk, e])), fun b hb => .inl ⟨hb, ?_⟩, fun b i hb hi => ?_, .inr ⟨rfl, rfl, by omega⟩, fun b o hb ho => ?_, fun hv => absurd hv (Nat.lt_irrefl _), fun b hb hl => ?_⟩
  ·simp only [blk, Option.some.injEq] at hb; subst hb; exact Nat.le_refl _
  ·simp only [blk, Option.some.injEq] at hb; subst hb
   simp [World.cell?, hh, hnew]
  ·simp only [blk, Option.some.injEq] at hb; subst hb; rw [hh] at ho; cases ho; exact ⟨_, hnew, rfl⟩
  ·simp only [blk, Option.some.injEq] at hb; subst hb; omega
 have hev := Ev.chg hs.g hT hchg
 have hobj : ObjOk (E.chg n (0, wv + 1, .map (some r)) (E.L r)) (ChangeMaps.setBlock w r (.map es' clock)) n (fe P k (wv + 1) (pm m key)) := by
  have hin : ∀ e ∈ es'.toList, e ∈ es.toList := fun e he => h1.subset he
  refine ⟨r, es', clock, by simp [Env.chg], hnew, ⟨fun e he => hok.ok e (hin e he), hok.pw.sublist h1, hok.pb.sublist h1, fun e he => ?_, fun x c hx => ?_⟩, ?_⟩
  ·obtain ⟨c, hc, hr⟩ := hok.val e (hin e he)
   refine ⟨c, ?_, hr.ev hev⟩
   obtain ⟨y, l, hy, _⟩ := hok.ok e (hin e he)
   rw [hy, iu] at hc ⊢
   have : y ≠ key := fun e2 => h2 e he (by rw [hy, e2])
   simp [pm, this, hc]
  ·by_cases hex : ∃ y : α, x = KeyV.kv y
   ·obtain ⟨y, rfl⟩ := hex
    rw [iu] at hx
    by_cases hyk : y = key
    ·subst hyk; simp [pm] at hx
    ·simp only [pm, hyk, if_false] at hx
     obtain ⟨e, he, hek⟩ := hok.has (KeyV.kv y) c (by rw [iu]; exact hx)
     exact ⟨e, h3 e he (by rw [hek]; exact fun e2 => hyk (KeyV.inj e2)), hek⟩
   ·rw [sf _ hex] at hx; cases hx
  ·refine Array.all_eq_true_iff_forall_mem.2 fun e he => ?_
   exact Array.all_eq_true_iff_forall_mem.1 hcl e (by simpa using hin e (by simpa using he))
 have hg := SimG.chg hs.g hT hchg hobj
 have hex : (execOp a.eval o).run P w = .ok (.value (.tuple #[])) (ChangeMaps.setBlock w r (.map es' clock)) := by simp [execOp, ho, resolve, invoke, builtin, e1, e2, hrun]
 unfold Oper.wp
 rw [hex]
 exact hq _ _ _ _ hev ((hs.evd hev hg).put o.dst (R.undef _ _)) h
end
end Go.AB
namespace Go.AB
open Go Go.RowKit

end Go.AB
namespace Go.AB
open Go Go.RowKit

def noG : Nat → Option GObj := fun _ => none
/-- An iterator at work: what lay when it began; what is laid; the two invariants of who asks. -/
structure ItC (β : Type) where
 xs : List β
 encv : β → List Value
 L : Nat → Nat
 Ws : World
 l : Nat
 J : List { x // x ∈ xs } → World → Prop
 Jx : List { x // x ∈ xs } → World → Prop

section
variable {β : Type} (P : Program) (I : ItC β)
end

section
variable {β : Type} {P : Program} {I : ItC β} {Q : Exit → St → Bool × List β → Prop} {st : St} {y : Bool × List β}
variable {zs : List β}
variable {ops : Array Oper} {K : St → Bool × List β → Prop} {rest : List Oper} {o : Oper}
end
end Go.AB
namespace Go.AB
open Go Go.RowKit

end Go.AB
namespace Go.AB
open Go Go.RowKit
variable {ρ : Option Nat}

def ky : List (Nat × Option Nat) → Array Bool → Array Bool
  | [], l => l
  | p :: r, l => ky r (l.setIfInBounds p.1 true)
def me (ops : Array Oper) (late N : Nat → Bool) : List (Nat × Option Nat) → Array Bool → Bool
  | [], _ => true
  | (_, some _) :: _, _ => false
  | (i, none) :: rest, listed =>
    ((Region.ready .any ops listed).contains i && Region.free .any ops listed i && (ops[i]?).isSome &&
       (N i || ((List.range ops.size).all fun j => !late j || j == i || ot .any ops ops.size j i))) &&
    me ops late N rest (listed.setIfInBounds i true)

section
variable {P : Program} {ops : Array Oper} {Q : Exit → Act → World → Prop} {S : World → Prop} {late N : Nat → Bool}
theorem v7 (fin : Act → World → Prop) (fuel : Nat) (hs : Region.noSelect ops = true) (hQ : ∀ (o : Option Tmp) (v : Value) c a w, Q (.panic c) (a.put o v) w → Q (.panic c) a w) :
    ∀ (π : List (Nat × Option Nat)) (listed : Array Bool) (a : Act) (w : World), Closed .any ops listed → me ops late N π listed = true → S w →
      (∀ a, fin a w → g9 P .any ops Q S late fuel (ky π listed) a w) → gf P ops (ib fin) S late (fun _ => false) N π a w → g9 P .any ops Q S late (gh π + fuel) listed a w := by
  intro π
  induction π with
  | nil =>
    intro listed a w _ _ _ hf h
    have := hf a h
    simpa [gh, ky] using this
  | cons p rest ih =>
    obtain ⟨i, m⟩ := p
    intro listed a w hcl hc hSw hf h
    cases m with
    | some j => simp [me] at hc
    | none =>
      simp only [me, Bool.and_eq_true] at hc
      obtain ⟨⟨⟨⟨hready, hfree⟩, hsome⟩, hlate⟩, hc2⟩ := hc
      simp only [gf, Bool.false_eq_true, if_false] at h
      cases ho : ops[i]? with
      | none => rw [ho] at hsome; cases hsome
      | some o =>
        rw [ho] at h
        obtain ⟨v, hy, hrest⟩ := h
        have hi : i ∈ Region.ready .any ops listed := by simpa using hready
        have hrec := ih _ _ _ (hcl.set hi) hc2 hSw hf hrest
        have hp : gh ((i, none) :: rest) + fuel = gh rest + fuel + 1 := by simp only [gh]; omega
        rw [hp]
        by_cases hN : N i = true
        · rw [if_pos hN] at hy
          exact rm (depth := ops.size) (fun _ => True) ho (Region.noSelect_spec hs) (fun c a w => hQ o.dst v c a w) (.inl fun _ => trivial) (gh rest + fuel) listed a w hcl (Region.free_spec ho hfree) hi hy trivial hrec
        · rw [if_neg hN] at hy
          refine rm (depth := ops.size) S ho (Region.noSelect_spec hs) (fun c a w => hQ o.dst v c a w) (.inr ⟨rfl, ?_⟩) (gh rest + fuel) listed a w hcl (Region.free_spec ho hfree) hi hy hSw hrec
          intro j oj hoj hlj hne
          have hlate' := (Bool.or_eq_true _ _ ▸ hlate).resolve_left hN
          rw [List.all_eq_true] at hlate'
          have := hlate' j (List.mem_range.2 (Array.getElem?_eq_some_iff.1 hoj).1)
          simp only [Bool.or_eq_true, Bool.not_eq_true', beq_iff_eq] at this
          rcases this with (h1 | h1) | h1
          · rw [hlj] at h1; cases h1
          · exact absurd h1 hne
          · exact h1
end

section
variable (P : Program) (ol : List Oper) (K : St → Prop) (late : Nat → Bool)
/-- What is left, in whatever order. -/
def mi (fuel : Nat) (listed : List Bool) (st : St) : Prop :=
  ∀ (E0 : Env) (w0 : World) (Q : Act → World → Prop), (∀ a' w' st' E', Ev E0 w0 E' w' → Sim E' w' st' a' → K st' → Q a' w') →
    ∀ E1 w1 a, Ev E0 w0 E1 w1 → Sim E1 w1 st a → g9 P .any ol.toArray (ib Q) (Keeps E0 (· ∈ ([] : List Nat)) w0) late fuel listed.toArray a w1
/-- One operation, then the rest. -/
def td (fuel : Nat) (listed : List Bool) (i : Nat) (st : St) : Prop :=
  ∃ o, ol[i]? = some o ∧ ((fk ol.toArray st o = some true ∧ EStep P o st (mi P ol K late fuel (listed.set i true))) ∨ (fk ol.toArray st o = some false ∧ mi P ol K late fuel (listed.set i true) (st.put o.dst (.tup []))))
def rk (fuel : Nat) (listed : List Bool) (st : St) : List Nat → Prop
  | [] => True
  | i :: is => td P ol K late fuel listed i st ∧ rk fuel listed st is
end
section
variable {P : Program} {ol : List Oper} {K : St → Prop} {late : Nat → Bool} {fuel : Nat} {listed : List Bool} {st : St} {i : Nat} {is : List Nat} {o : Oper} {c : C}
theorem dd : rk P ol K late fuel listed st [] := trivial
theorem dg (h : td P ol K late fuel listed i st) (k : rk P ol K late fuel listed st is) : rk P ol K late fuel listed st (i :: is) := ⟨h, k⟩
theorem gu (hol : ol[i]? = some o) (hg : fk ol.toArray st o = some true) {listed' : List Bool} (hl : listed.set i true = listed') (h : EStep P o st (mi P ol K late fuel listed')) : td P ol K late fuel listed i st :=
  ⟨o, hol, .inl ⟨hg, by rw [hl]; exact h⟩⟩
theorem fa (hol : ol[i]? = some o) (hg : fk ol.toArray st o = some false) {listed' : List Bool} (hl : listed.set i true = listed') (h : mi P ol K late fuel listed' (st.put o.dst (.tup []))) : td P ol K late fuel listed i st :=
  ⟨o, hol, .inr ⟨hg, by rw [hl]; exact h⟩⟩
theorem ge (hr : (Region.ready .any ol.toArray listed.toArray == []) = true) (h : K st) : mi P ol K late fuel listed st := by
  intro E0 w0 Q hQ E1 w1 a hev hs
  have hr' : Region.ready .any ol.toArray listed.toArray = [] := by simpa using hr
  have hq := hQ a w1 st E1 hev hs h
  cases fuel with
  | zero => exact ⟨hr', hq⟩
  | succ n => exact ⟨fun _ => hq, fun i hi => by rw [hr'] at hi; cases hi⟩
theorem dc (is : List Nat) (hr : (Region.ready .any ol.toArray listed.toArray == is) = true) (hne : is ≠ []) (h : rk P ol K late fuel listed st is) : mi P ol K late (fuel + 1) listed st := by
  intro E0 w0 Q hQ E1 w1 a hev hs
  have hr' : Region.ready .any ol.toArray listed.toArray = is := by simpa using hr
  refine ⟨fun e => absurd (hr'.symm.trans e) hne, fun i hi => ?_⟩
  rw [hr'] at hi
  have hi' : td P ol K late fuel listed i st := by
    clear hr hr' hne
    induction is with
    | nil => cases hi
    | cons j is ih =>
      rcases List.mem_cons.1 hi with rfl | hi
      · exact h.1
      · exact ih h.2 hi
  obtain ⟨o, hol, hcase⟩ := hi'
  have ho : ol.toArray[i]? = some o := by simpa using hol
  have hset : listed.toArray.setIfInBounds i true = (listed.set i true).toArray := by simp
  refine wpOp_step ho fun Kr hK => ?_
  rcases hcase with ⟨hg, h1⟩ | ⟨hg, h1⟩
  · rw [if_pos (l9 hg hs)]
    refine h1 E1 w1 a hs Kr _ fun a' w' st' E' q1 q2 q3 => ?_
    refine hK a' w' ⟨.inr fun hS => ⟨fun b j hj => (q1.cell b j (Nat.lt_of_lt_of_le hj (hev.L b))).trans (hS.1 b j hj), fun n hn => by cases hn⟩, ?_⟩
    rw [hset]
    exact q3 E0 w0 Q hQ E' w' a' (hev.trans q1) q2
  · rw [if_neg (by rw [l9 hg hs]; simp)]
    refine hK _ _ ⟨.inr id, ?_⟩
    rw [hset]
    exact h1 E0 w0 Q hQ E1 w1 _ hev (hs.put o.dst (R.undef E1 w1))
theorem o8 {id : Nat} {l : List Oper} {Q : Exit → St → Prop} (π : List (Nat × Option Nat)) (late N : Nat → Bool) (fuel : Nat) (listed : List Bool) (hm : P.follows .mixedOrders = true)
    (hchk : (qi l && (Region.noSelect l.toArray && (me l.toArray late N π (Array.replicate l.toArray.size false) && ((ky π (Array.replicate l.toArray.size false)).toList == listed && gh π + fuel == l.toArray.size)))) = true)
    (h : jf P l.toArray (mi P l (Q .normal) late fuel listed) [] late (fun _ => false) N π st) : AW ρ P (.region id l.toArray true) Q st := by
  intro E w a hs
  simp only [Bool.and_eq_true, beq_iff_eq] at hchk
  obtain ⟨h0, h1, h2, h3, h4⟩ := hchk
  have hev : Ev E w E w.drew := Ev.same ((Below.refl _ _).drew) rfl
  have hend : ky π (Array.replicate l.toArray.size false) = listed.toArray := by rw [← h3]
  have key : g9 P .any l.toArray (ib fun a' w' => l6 E w Q .normal a' w') (Keeps E (· ∈ ([] : List Nat)) w.drew) late (gh π + fuel) (Array.replicate l.toArray.size false) a w.drew := by
    refine v7 (fun a' w' => g9 P .any l.toArray (ib fun a' w' => l6 E w Q .normal a' w') (Keeps E (· ∈ ([] : List Nat)) w.drew) late fuel listed.toArray a' w') fuel h1 (fun _ _ _ _ _ h => h) π _ a w.drew ?_ h2 (Keeps.refl _ _ _) (fun a' h' => by rw [hend]; exact h') ?_
    · intro j o _ hj
      rw [Array.getD_eq_getD_getElem?, Array.getElem?_replicate] at hj
      split at hj <;> simp at hj
    · exact h E w.drew _ (fun a' w' st' E' q1 q2 q3 => q3 E w.drew _ (fun a2 w2 st2 E2 r1 r2 r3 => ⟨st2, E2, hev.trans r1, r2, r3⟩) E' w' a' q1 q2) a hs.drew
  rw [h4] at key
  refine gz (Q := ib fun a' w' => l6 E w Q .normal a' w') ?_ (yg hm h0 (te _ _ _ _ key))
  intro e a' w' hq
  cases e with
  | normal => exact hq
  | _ => exact hq.elim
end
/-! ### Quiet operations between what acts -/
def yi (ops : Array Oper) (listed : Array Bool) : Bool :=
  (List.range ops.size).all fun j => !listed.getD j false || match ops[j]? with
    | some o => o.after.toList.all fun e => !Region.binds .any e || listed.getD e.on false
    | none => true
theorem ucz {ops : Array Oper} {listed : Array Bool} (h : yi ops listed = true) : Closed .any ops listed := by
  intro j o ho hj e he hb
  have hlt := (Array.getElem?_eq_some_iff.1 ho).1
  have := List.all_eq_true.1 h j (List.mem_range.2 hlt)
  simp only [hj, Bool.not_true, Bool.false_or, ho, List.all_eq_true] at this
  have := this e (by simpa using he)
  simpa [hb] using this
section
variable {P : Program} {ops : Array Oper} {Q : Exit → Act → World → Prop}
theorem y8 {S S2 : World → Prop} (hS : ∀ w, S2 w → S w) : ∀ (fuel : Nat) (listed : Array Bool) (a : Act) (w : World), S2 w → g9 P .any ops Q S2 (fun _ => false) fuel listed a w → g9 P .any ops Q S (fun _ => false) fuel listed a w
  | 0, _, _, _, _, h => h
  | fuel + 1, listed, a, w, hw, h => by
    refine ⟨h.1, fun i hi => wpOp_mono (fun a' w' h' => ?_) (h.2 i hi)⟩
    have h2 := (h'.1.resolve_left (by simp)) hw
    exact ⟨.inr fun _ => hS _ h2, y8 hS fuel _ a' w' h2 h'.2⟩
end
theorem d8 {P : Program} {ol : List Oper} {K : St → Prop} {total : Nat} {listed : List Bool} {st : St} (π : List (Nat × Option Nat)) (N : Nat → Bool) (fuel : Nat) (listed' : List Bool)
    (hchk : (yi ol.toArray listed.toArray && (Region.noSelect ol.toArray && (me ol.toArray (fun _ => false) N π listed.toArray && ((ky π listed.toArray).toList == listed' && total == gh π + fuel)))) = true)
    (h : jf P ol.toArray (mi P ol K (fun _ => false) fuel listed') [] (fun _ => false) (fun _ => false) N π st) : mi P ol K (fun _ => false) total listed st := by
  simp only [Bool.and_eq_true, beq_iff_eq] at hchk
  obtain ⟨h0, h1, h2, h3, h4⟩ := hchk
  subst h4
  intro E0 w0 Q hQ E1 w1 a hev hs
  have hend : ky π listed.toArray = listed'.toArray := by rw [← h3]
  refine y8 (S2 := Keeps E1 (· ∈ ([] : List Nat)) w1) (fun w' hk => ⟨fun b i hi => (hk.1 b i (Nat.lt_of_lt_of_le hi (hev.L b))).trans (hev.cell b i hi), fun n hn => by cases hn⟩) _ _ _ _ (Keeps.refl _ _ _) ?_
  refine v7 (fun a' w' => g9 P .any ol.toArray (ib Q) (Keeps E1 (· ∈ ([] : List Nat)) w1) (fun _ => false) fuel listed'.toArray a' w') fuel h1 (fun _ _ _ _ _ h => h) π _ a w1 (ucz h0) h2 (Keeps.refl _ _ _) (fun a' h' => by rw [hend]; exact h') ?_
  exact h E1 w1 _ (fun a' w' st' E' q1 q2 q3 => q3 E1 w1 Q (fun a2 w2 st2 E2 r1 r2 r3 => hQ a2 w2 st2 E2 (hev.trans r1) r2 r3) E' w' a' q1 q2) a hs
end Go.AB
namespace Go.AB
open Go Go.RowKit
open Go.AB.Enc (cells)
variable {ρ : Option Nat}
theorem C.low.mono {m k : Nat} {c : C} (h : c.low m) (hk : m ≤ k) : c.low k := by
 induction h with
 | v => exact .v
 | list _ h2 ih => exact .list ih fun n hn => Nat.lt_of_lt_of_le (h2 n hn) hk
 | elem _ ih => exact .elem ih
 | box h => exact .box (Nat.lt_of_lt_of_le h hk)
 | arr h => exact .arr (Nat.lt_of_lt_of_le h hk)
 | own h => exact .own (Nat.lt_of_lt_of_le h hk)
 | fn _ ih => exact .fn ih
 | map h => exact .map (Nat.lt_of_lt_of_le h hk)
 | agg _ ih => exact .agg ih
 | tup _ ih => exact .tup ih
 | any => exact .any
theorem GObj.low_mono {m k : Nat} {o : GObj} (h : o.low m) (hk : m ≤ k) : o.low k := by
 cases o with
 | box => exact fun c hc => (h c hc).mono hk
 | arr => exact fun c hc => (h c hc).mono hk
 | tip => trivial
 | fact => exact C.low.mono h hk
 | raw => trivial
 | map => exact fun x c hx => (h x c hx).mono hk
theorem SimG.lowG {E : Env} {w : World} {G : Nat → Option GObj} {nx : Nat} (hg : SimG E w G nx) {n : Nat} {o : GObj} (ho : G n = some o) : n < nx ∧ o.low nx := by
 have hnx := hg.nx
 have hlt : ∀ t, E.T n = some t → n < nx := fun t ht => by have := hg.lt n t ht; omega
 have := hg.obj n o ho
 cases o with
 | box => obtain ⟨b, us, tt, h1, _, _, h4, _⟩ := this; exact ⟨hlt _ h1, hnx ▸ h4.low⟩
 | arr => obtain ⟨b, us, h1, _, _, h4, _⟩ := this; exact ⟨hlt _ h1, hnx ▸ h4.low⟩
 | tip => obtain ⟨b, us, h1, _⟩ := this; exact ⟨hlt _ h1, trivial⟩
 | fact => exact ⟨hlt _ this.1, hnx ▸ this.2.low⟩
 | raw => obtain ⟨b, h1, _⟩ := this; exact ⟨hlt _ h1, trivial⟩
 | map wv ok f =>
  obtain ⟨r, es, cl, h1, _, h3, _⟩ := this
  refine ⟨hlt _ h1, fun x c hx => ?_⟩
  obtain ⟨e, he, rfl⟩ := h3.has x c hx
  obtain ⟨c', h4, h5⟩ := h3.val e he
  rw [hx] at h4; cases h4
  exact hnx ▸ h5.low

/-- A contract whose result has new named objects, out of the body's walk. -/
theorem kp {P : Program} {f : FuncId} {fn : Func} {c : Code} {args : List C} {r : C} {G : Nat → Option GObj} {nx : Nat} (g : Nat → Option GObj) (m : Nat) (hf : P.funcs[f]? = some fn) (hb : fn.body = some c) (hl : r.low m) (hm : nx ≤ m) (hg : (∀ n o, G n = some o → n < nx) → ∀ n o, g n = some o → G n = some o ∨ (n < m ∧ o.low m))
  (h : AW none P c (n7 P fn r g m) { n := args.length + (fn.ntmps - args.length), l := args, r := [], G := G, nx := nx }) : PC P f args G nx fun r' G' nx' => r' = r ∧ G' = g ∧ nx' = m := by
 intro E w vs hr hg0
 have key := w6 (K := fun r' G' nx' => r' = r ∧ m ≤ nx' ∧ ∀ n o, g n = some o → G' n = some o) hf hb (AW.mono h fun e st hq => by
  cases e with
  | normal => exact ⟨r, hq.1, rfl, hq.2.1, hq.2.2⟩
  | ret => exact ⟨r, hq.1, rfl, hq.2.1, hq.2.2⟩
  | _ => exact hq)
 refine (key E w vs hr hg0).mono ?_
 rintro e w' ⟨r', v, E', G', nx', e1, e2, e3, e4, rfl, e5, e6⟩
 have hnx := hg0.nx
 refine ⟨r', v, E'.drop m, g, m, e1, e2.drop (by omega), e3.drop hl, ?_, rfl, rfl, rfl⟩
 refine (e4.weak e6).drop fun n o ho => ?_
 rcases hg (fun n o ho => (hg0.lowG ho).1) n o ho with h1 | h1
 ·have := hg0.lowG h1
  exact ⟨by omega, GObj.low_mono this.2 hm⟩
 ·exact h1
theorem sv {P : Program} {o : Oper} {st : St} {K : St → Prop} {f : FuncId} [Fun P f] {fv : Operand} {args : List Operand} {ats : Array TypeId} {caps as1 : List C} {r : C} {g : Nat → Option GObj} {m : Nat} (ho : o.op = .call { callee := .value fv, args := args.toArray, argTypes := ats }) (hf : evC st fv = .fn (.func f) caps) (has : args.map (evC st) ++ caps = as1)
  (hp : PC P f as1 st.G st.nx fun r' G' nx' => r' = r ∧ G' = g ∧ nx' = m) (h : K (St.put { st with G := g, nx := m } o.dst r)) : EStep P o st K :=
 vh ho hf has (hp.mono fun r' G' nx' ⟨e1, e2, e3⟩ => by subst e1; subst e2; subst e3; exact h)

/-! ### Reading what is owned -/
/-- So many cells lie in a block. -/
def ny (w : World) (b : Nat) : Nat := match w.heap[b]? with
 | some (.cells us _ _) => us.size
 | _ => 0
theorem yl {w : World} {b j : Nat} {u : Value} (h : w.cell? ⟨b, j, none⟩ = some u) : j < ny w b := by
 unfold World.cell? at h
 unfold ny
 dsimp only at h ⊢
 split at h
 ·rename_i c tt fz e
  rw [e]
  simp only [Option.isSome_none, Bool.false_eq_true, if_false] at h
  exact (Array.getElem?_eq_some_iff.1 h).1
 ·cases h
/-- All that lies in a world is laid. -/
def gy (w : World) : Env := ⟨w.heap.size, fun b => ny w b, fun _ => none, 0, 0⟩
theorem udc (w : World) : SimG (gy w) w noG 0 := by
 refine ⟨rfl, fun n o ho => (by cases ho), fun n t ht => (by cases ht), fun n ver wv val b ht => (by cases ht), fun n m t t' b ht => (by cases ht), fun b hb => ?_, Nat.le_refl _⟩
 show ny w b = 0
 unfold ny
 rw [Array.getElem?_eq_none hb]
/-- A value is read as if its own slices were laid. -/
inductive Rdg (G : Nat → Option GObj) : C → C → Prop
 | low {c : C} : c.low 0 → Rdg G c c
 | own {α : Type} [Enc α] {n ver wv len sz : Nat} {tt : TypeId} {cs : List C} (xs : List α) : G n = some (.arr ver wv tt sz len cs) → sz = Enc.n α → cs = ci xs → len = xs.length → Rdg G (.own n ver len) (lst xs)
 | agg {cs ds : List C} : cs.length = ds.length → (∀ (j : Nat) (c d : C), cs[j]? = some c → ds[j]? = some d → Rdg G c d) → (∀ d ∈ ds, d.one = true) → Rdg G (.agg cs) (.agg ds)
theorem Rdg.to {E : Env} {w : World} {G : Nat → Option GObj} {nx : Nat} (hg : SimG E w G nx) {c d : C} (h : Rdg G c d) : ∀ {v : Value}, R E w c v → R (gy w) w d v := by
 have h0 : ∀ {c : C} {v : Value}, R E w c v → c.low 0 → R (gy w) w c v := fun hr hl => hr.to0 hl fun b i u hu => yl hu
 induction h with
 | low hl => exact fun hr => h0 hr hl
 | @own α _ n ver wv len sz tt cs xs hG hsz hcs hlen =>
  intro v hr
  subst hsz; subst hcs; subst hlen
  obtain ⟨val, us, hT, how, hone, hrs, _, hpos⟩ := hg.obj n _ hG
  obtain ⟨rfl, _, a, cap, rfl, hc1, hc2⟩ := qb hr hT how
  have hr0 : Rs (gy w) w (ci xs) us := ⟨hrs.1, fun j c v hc hv => h0 (hrs.2 j c v hc hv) (cc xs c (List.mem_of_getElem? hc))⟩
  have := R.mk_list (E := gy w) (w := w) (rows := xs.map cells) (a := a) (cap := cap) (sz := Enc.n α) (us := us) (tok := .none) (by simpa using hc1) hc2 hpos (kx xs) (fun r hr c hc => by
   obtain ⟨x, _, rfl⟩ := List.mem_map.1 hr
   exact Enc.one x c hc) hr0 (by
   rcases how.2 with ⟨e, h1⟩ | ⟨g, cap', cur, e, _, hh, h1, h2, h3, h4⟩
   ·exact .inl (by rw [List.length_eq_zero_iff] at h1; rw [h1]; rfl)
   ·cases e
    refine .inr ⟨g, 0, rfl, ?_, fun j u hu => ?_⟩
    ·show 0 + us.length ≤ ny w g
     unfold ny
     rw [hh]
     have := how.1
     have hle : xs.length * Enc.n α ≤ cap * Enc.n α := Nat.mul_le_mul_right _ h1
     simp only
     omega
    ·rw [Nat.zero_add, nh how rfl (by rw [← how.1]; exact (List.getElem?_eq_some_iff.1 hu).1)]
     exact hu) (by simp) (by simp) (by simp)
  rw [List.length_map] at this
  exact this
 | @agg cs ds hl hd hone ih =>
  intro v hr
  obtain ⟨vs, rfl, hrs, h1⟩ := hr.agg_inv
  refine Rs.agg ⟨by rw [hrs.1, hl], fun j d v hd' hv => ?_⟩ hone
  have hlt := (List.getElem?_eq_some_iff.1 hd').1
  obtain ⟨c, hc⟩ : ∃ c, cs[j]? = some c := ⟨_, List.getElem?_eq_getElem (by rw [hl]; exact hlt)⟩
  exact ih j c d hc hd' (hrs.2 j c v hc hv)
def Rdgs (G : Nat → Option GObj) : List C → List C → Prop
 | [], [] => True
 | c :: cs, d :: ds => Rdg G c d ∧ Rdgs G cs ds
 | _, _ => False
theorem Rdgs.to {E : Env} {w : World} {G : Nat → Option GObj} {nx : Nat} (hg : SimG E w G nx) : ∀ {cs ds : List C} {vs : List Value}, Rdgs G cs ds → Rs E w cs vs → Rs (gy w) w ds vs
 | [], [], vs, _, hr => ⟨hr.1, fun j c v hc => by cases hc⟩
 | c :: cs, d :: ds, [], _, hr => absurd hr.1 (by simp)
 | c :: cs, d :: ds, v :: vs, h, hr => Rs.cons (h.1.to hg (hr.2 0 c v rfl rfl)) (Rdgs.to hg (cs := cs) h.2 ⟨by simpa using hr.1, fun j c v h1 h2 => hr.2 (j + 1) c v (by simpa using h1) (by simpa using h2)⟩)
 | [], d :: ds, _, h, _ => h.elim
 | c :: cs, [], _, h, _ => h.elim
/-- What only exact values are in. -/
def Flat (r : C) : Prop := ∀ (E E' : Env) (w w' : World) (v : Value), R E w r v → R E' w' r v
theorem ucd (x : Value) : Flat (.v x) := fun _ _ _ _ _ h => by cases h with | v h => exact .v h
theorem uf1 {P : Program} {f : FuncId} {as1 as' : List C} {r : C} {G : Nat → Option GObj} {nx : Nat} (hp : Pure P f as' r) (hrd : Rdgs G as1 as') (hfl : Flat r) : PC P f as1 G nx fun r' G' nx' => r' = r ∧ G' = G ∧ nx' = nx := by
 intro E w vs hr hg
 refine (hp noG 0 (gy w) w vs (hrd.to hg hr) (udc w)).mono ?_
 rintro e w' ⟨r', v, E', G', nx', rfl, e2, e3, _, rfl, _, _⟩
 have hbel : Below w.heap.size w w' := e2.below
 have hlt : ∀ {b : Nat} {o : Obj}, w.heap[b]? = some o → w'.heap[b]? = some o := fun {b o} h => (hbel.block b (Array.getElem?_eq_some_iff.1 h).1).trans h
 have hev : Ev E w E w' := by
  refine ⟨hbel.mono hg.base, rfl, fun _ => Nat.le_refl _, fun b i hi => ?_, Nat.le_refl _, fun n _ ver wv val h => ⟨ver, wv, val, h, Nat.le_refl _, fun _ => ⟨rfl, fun _ b hb => hbel.block b (hg.tb n _ _ _ b h hb).2⟩⟩, fun n ver wv wv' val h h' _ => by rw [h] at h'; simp at h'; omega, ⟨rfl, fun b hb => absurd hb (Nat.lt_irrefl _), fun b o h _ => hlt h, fun b o h => ⟨o, hlt h, rfl⟩, fun n t _ _ h k _ => ⟨t, h, k⟩, fun n t t' b _ h h' hv _ => by rw [h] at h'; cases h'; omega⟩⟩
  have : b < w.heap.size := Nat.lt_of_not_le fun hle => by have := hg.fresh b hle; omega
  exact World.cell?_of_block (w := w) (hbel.block b this)
 refine ⟨r', v, E, G, nx, rfl, hev, hfl _ _ _ _ _ e3, ⟨hg.nx, fun n o ho => ?_, hg.lt, fun n ver wv val b h1 h2 => ?_, hg.ap, fun b hb => hg.fresh b (Nat.le_trans hbel.size hb), Nat.le_trans hg.base hbel.size⟩, rfl, rfl, rfl⟩
 ·exact (hg.obj n o ho).keep hev rfl fun ver wv val b h1 h2 => ⟨hbel.block b (hg.tb n ver wv val b h1 h2).2, rfl⟩
 ·have := hg.tb n ver wv val b h1 h2
  exact ⟨this.1, Nat.lt_of_lt_of_le this.2 hbel.size⟩
theorem ucv {P : Program} {o : Oper} {st : St} {K : St → Prop} {f : FuncId} [Fun P f] {fv : Operand} {args : List Operand} {ats : Array TypeId} {caps as1 as' : List C} {r : C} (ho : o.op = .call { callee := .value fv, args := args.toArray, argTypes := ats }) (hf : evC st fv = .fn (.func f) caps) (has : args.map (evC st) ++ caps = as1)
  (hp : Pure P f as' r) (hrd : Rdgs st.G as1 as') (hfl : Flat r) (h : K (st.put o.dst r)) : EStep P o st K :=
 ucw ho hf has (uf1 hp hrd hfl) h

/-! ### Own slices are laid for good -/
theorem w7 {E : Env} {w : World} {G : Nat → Option GObj} {nx : Nat} (hg : SimG E w G nx) {α : Type} [Enc α] {n ver wv len sz : Nat} {tt : TypeId} {cs : List C} (xs : List α) (hG : G n = some (.arr ver wv tt sz len cs)) (hsz : sz = Enc.n α) (hcs : cs = ci xs) (hlen : len = xs.length) :
  ∃ E', Ev E w E' w ∧ SimG E' w (lm G n) nx ∧ ∀ v, R E w (.own n ver len) v → R E' w (lst xs) v := by
 subst hsz; subst hcs; subst hlen
 obtain ⟨val, us, hT, how, hone, hrs, hL, hpos⟩ := hg.obj n _ hG
 have hE : Ev E w { E with L := fun k => if blk val = some k then us.length else E.L k } w := by
  refine ⟨Below.refl _ _, rfl, fun k => ?_, fun _ _ _ => rfl, Nat.le_refl _, fun n _ ver wv val h => ⟨ver, wv, val, h, Nat.le_refl _, fun _ => ⟨rfl, fun _ _ _ => rfl⟩⟩, fun n ver wv wv' v h h' _ => by rw [show ({ E with L := fun k => if blk val = some k then us.length else E.L k } : Env).T = E.T from rfl, h] at h'; simp at h'; omega, ?_⟩
  ·show E.L k ≤ if blk val = some k then us.length else E.L k
   split
   ·rename_i e; rw [hL k e]; exact Nat.zero_le _
   ·exact Nat.le_refl _
  ·refine ⟨rfl, fun k hk => ?_, fun _ _ h _ => h, fun _ o h => ⟨o, h, rfl⟩, fun _ t _ _ h k _ => ⟨t, h, k⟩, fun n t t' _ _ h1 h2 hv _ => by rw [show ({ E with L := fun k => if blk val = some k then us.length else E.L k } : Env).T = E.T from rfl, h1] at h2; cases h2; omega⟩
   have hk' : E.L k < if blk val = some k then us.length else E.L k := hk
   split at hk'
   ·rename_i e
    have h0 : 0 < us.length := by omega
    exact ⟨us[0], by rw [nh how e (by rw [← how.1]; exact h0), List.getElem?_eq_getElem h0]⟩
   ·omega
 refine ⟨_, hE, ⟨hg.nx, fun k o ho => ?_, hg.lt, hg.tb, hg.ap, fun k hk => ?_, hg.base⟩, fun v hr => ?_⟩
 ·have hkn : k ≠ n := fun e => by subst e; simp [lm] at ho
  rw [jk hkn] at ho
  refine (hg.obj k o ho).keep hE rfl fun ver wv v' b' h1 h2 => ⟨rfl, ?_⟩
  show (if blk val = some b' then us.length else E.L b') = E.L b'
  rw [if_neg (fun e => hg.ap k n _ _ b' h1 hT hkn h2 e)]
 ·show (if blk val = some k then us.length else E.L k) = 0
  rw [if_neg (fun e => by have := (hg.tb n _ _ _ k hT e).2; omega)]
  exact hg.fresh k hk
 ·obtain ⟨rfl, _, a, cap, rfl, hc1, hc2⟩ := qb hr hT how
  have := R.mk_list (E := { E with L := fun k => if blk (.slice a xs.length cap) = some k then us.length else E.L k }) (w := w) (rows := xs.map cells) (a := a) (cap := cap) (sz := Enc.n α) (us := us) (tok := .none) (by simpa using hc1) hc2 hpos (kx xs) (fun r hr c hc => by
   obtain ⟨x, _, rfl⟩ := List.mem_map.1 hr
   exact Enc.one x c hc) (hrs.ev hE) (by
   rcases how.2 with ⟨e, h1⟩ | ⟨g, cap', cur, e, _, hh, h1, h2, h3, h4⟩
   ·exact .inl (by rw [List.length_eq_zero_iff] at h1; rw [h1]; rfl)
   ·cases e
    refine .inr ⟨g, 0, rfl, ?_, fun j u hu => ?_⟩
    ·show 0 + us.length ≤ if some g = some g then us.length else E.L g
     rw [if_pos rfl]; omega
    ·rw [Nat.zero_add, nh how rfl (by rw [← how.1]; exact (List.getElem?_eq_some_iff.1 hu).1)]
     exact hu) (by simp) (by simp) (by simp)
  rw [List.length_map] at this
  exact this
/-- .. as a temporary holds it. -/
theorem sy {P : Program} {Q : Exit → St → Prop} {st : St} {c : Code} {α : Type} [Enc α] (i : Nat) {n ver wv len sz : Nat} {tt : TypeId} {cs : List C} (xs : List α) (h0 : st.at i = .own n ver len) (hG : st.G n = some (.arr ver wv tt sz len cs)) (hsz : sz = Enc.n α) (hcs : cs = ci xs) (hlen : len = xs.length) (h : AW ρ P c Q { st with r := (i, lst xs) :: st.r, G := lm st.G n }) : AW ρ P c Q st := by
 intro E w a hs
 obtain ⟨E', hE, hg', hl⟩ := w7 hs.g xs hG hsz hcs hlen
 have hp := hs.at i
 rw [h0] at hp
 have hs2 := hs.evd hE hg'
 refine gz (fun _ _ _ hq => lh hE hq) (h _ w a ⟨hs.d.ev hE, hs.sz, fun j v hj => ?_, hg'⟩)
 simp only [bw]
 cases hb : Nat.beq i j
 ·exact hs2.t j v hj
 ·have hij := Nat.eq_of_beq_eq_true hb
  subst hij
  have hv : a.tmps.getD i undef = v := by rw [Array.getD_eq_getD_getElem?, hj]; rfl
  exact hl v (hv ▸ hp)
/-- .. as a variable's cell holds it. -/
theorem yx {P : Program} {Q : Exit → St → Prop} {st : St} {c : Code} {α : Type} [Enc α] (m off : Nat) {n ver wv wm len sz : Nat} {tt : TypeId} {cs ds : List C} (xs : List α) (hM : st.G m = some (.box wm ds)) (h0 : ds[off]? = some (.own n ver len)) (hG : st.G n = some (.arr ver wv tt sz len cs)) (hnm : m ≠ n) (hsz : sz = Enc.n α) (hcs : cs = ci xs) (hlen : len = xs.length) (h : AW ρ P c Q { st with G := ai (lm st.G n) m (.box wm (ds.set off (lst xs))) }) : AW ρ P c Q st := by
 intro E w a hs
 obtain ⟨E', hE, hg', hl⟩ := w7 hs.g xs hG hsz hcs hlen
 obtain ⟨b, us, tt2, hT, hh, hone, hr, hL⟩ := hg'.obj m (.box wm ds) (by rw [jk hnm]; exact hM)
 obtain ⟨b2, us2, tt3, hT2, hh2, _, hr2, _⟩ := hs.g.obj m _ hM
 have hs2 := hs.evd hE hg'
 have hTT : E'.T m = E.T m := by
  obtain ⟨ver1, wv1, val1, q1, q2, q3⟩ := hE.T m (hs.g.lt m _ hT2) _ _ _ hT
  rw [hT2] at q1
  simp only [Option.some.injEq, Prod.mk.injEq] at q1
  obtain ⟨rfl, rfl, rfl⟩ := q1
  rw [hT, hT2, (q3 rfl).1]
 have e1 : us = us2 := by
  rw [hTT, hT2] at hT
  simp only [Option.some.injEq, Prod.mk.injEq, Value.pointer.injEq, Addr.mk.injEq, true_and, and_true] at hT
  subst hT
  rw [hh2] at hh
  simp only [Option.some.injEq, Obj.cells.injEq] at hh
  exact hh.1.symm
 subst e1
 refine gz (fun _ _ _ hq => lh hE hq) (h E' w a ⟨hs.d.ev hE, hs.sz, hs2.t, ⟨hg'.nx, fun k o ho => ?_, hg'.lt, hg'.tb, hg'.ap, hg'.fresh, hg'.base⟩⟩)
 simp only [ai] at ho
 split at ho
 ·rename_i ek
  subst ek
  simp only [Option.some.injEq] at ho
  subst ho
  refine ⟨b, us, tt2, hT, hh, fun d hd => ?_, ⟨by rw [hr.1]; simp, fun j d v hd hv => ?_⟩, hL⟩
  ·rcases List.mem_or_eq_of_mem_set hd with hd | rfl
   ·exact hone d hd
   ·rfl
  ·rw [List.getElem?_set] at hd
   split at hd
   ·rename_i ej
    subst ej
    split at hd
    ·simp only [Option.some.injEq] at hd
     subst hd
     exact hl v (hr2.2 off _ v h0 hv)
    ·cases hd
   ·exact hr.2 j d v hd hv
 ·exact hg'.obj k o ho

section
variable {P : Program} {st : St}
end
end Go.AB
namespace Go.AB
open Go Go.RowKit
open Go.AB.Enc (cells)
variable {ρ : Option Nat}
def u8s (s : ByteArray) : List U8 := s.data.toList.map fun b => ⟨(b.toNat : Int)⟩
theorem rp (s : ByteArray) : (u8s s).length = s.size := by simp [u8s]
section
variable {P : Program} {o : Oper} {st : St} {K : St → Prop}
theorem uh9 {src dst e : TypeId} [StrT P src] [Elt P dst e] {x : Operand} {s : ByteArray} (he : P.underlying e = some (.int .u8)) (ho : o.op = .convert src dst x) (hx : evC st x = .v (.string s)) (h : K (st.put o.dst (lst (u8s s)))) : EStep P o st K := jj fun E w a hs => by
 have hr := hx ▸ hs.ev x
 have e1 := hr.v_inv
 rw [e1] at hr
 have hsz : s.size ≤ 9223372036854775807 := by
  cases hr with | v h => exact okV_str.1 h
 have hrun := run_bytes_of_string (P := P) w src dst e s StrT.spec Elt.spec he
 have hcap : s.size ≤ grownCap w s.size 0 e := grownCap_ge w _ _ _
 have hcm : grownCap w s.size 0 e ≤ maxLen := grownCap_le_maxLen w _ _ _ (by simpa [maxLen] using hsz)
 generalize hc : grownCap w s.size 0 e = cap at hrun hcap hcm
 obtain ⟨ob, hob⟩ : ∃ ob, ob = Obj.cells (bytesRow s cap) e ((bytesRow s cap).size, (bytesRow s cap).size + 1) := ⟨_, rfl⟩
 rw [← hob] at hrun
 have hcell : ∀ j, (w.drew.alloc ob).cell? ⟨w.heap.size, j, none⟩ = (bytesRow s cap)[j]? := fun j => by
  rw [hob]
  exact World.cell?_alloc_mark w.drew (bytesRow s cap) e _ j
 have hrow : ∀ (j : Nat) (x : U8), (u8s s)[j]? = some x → (bytesRow s cap)[j]? = some (.int .u8 x.v) ∧ okV (.int .u8 x.v) = true := fun j x hj => by
  have hl := (List.getElem?_eq_some_iff.1 hj).1
  rw [rp] at hl
  unfold u8s at hj
  rw [List.getElem?_map, Array.getElem?_toList, Array.getElem?_eq_getElem hl] at hj
  simp only [Option.map_some, Option.some.injEq] at hj
  subst hj
  refine ⟨?_, uba ⟨by simp, by have := (s.data[j] : UInt8).toNat_lt; simp only; omega⟩⟩
  unfold bytesRow
  rw [Array.getElem?_append_left (by simpa using hl), Array.getElem?_map, Array.getElem?_eq_getElem hl]
  rfl
 have hx0 : s.size = 0 ∨ ∃ v, (w.drew.alloc ob).cell? ⟨w.heap.size, 0, none⟩ = some v := by
  rcases Nat.eq_zero_or_pos s.size with h | h
  ·exact .inl h
  ·obtain ⟨x, hx⟩ : ∃ x, (u8s s)[0]? = some x := ⟨_, List.getElem?_eq_getElem (by rw [rp]; exact h)⟩
   exact .inr ⟨_, (hcell 0).trans (hrow 0 x hx).1⟩
 have hev := Ev.laid hs.g (o := ob) s.size (.inr rfl) hx0
 refine ⟨.slice (some ⟨w.heap.size, 0, none⟩) s.size cap, w.drew.alloc ob, _, st.G, st.nx, lst (u8s s), ?_, hev, ?_, SimG.laid hs.g _ (.inr rfl) hx0, h⟩
 ·simp [execOp, ho, e1, hrun]
 ·have := R.mk_list (E := E.lay w.heap.size s.size) (w := w.drew.alloc ob) (rows := (u8s s).map cells) (a := some ⟨w.heap.size, 0, none⟩) (cap := cap) (sz := 1) (us := (u8s s).map fun x => .int .u8 x.v) (tok := .none) (by rw [List.length_map, rp]; exact hcap) hcm (Nat.le_refl _) (fun r hr => by
   obtain ⟨x, _, rfl⟩ := List.mem_map.1 hr; rfl) (fun r hr c hc => by
   obtain ⟨x, _, rfl⟩ := List.mem_map.1 hr
   exact Enc.one x c hc) ⟨by
    have : ∀ l : List U8, ((l.map cells).flatten).length = l.length := fun l => by rw [mx (kx l)]; simp [Enc.n]
    rw [this]; simp, fun j c v hc hv => by
    rw [List.getElem?_map] at hv
    cases hj : (u8s s)[j]? with
    | none => rw [hj] at hv; cases hv
    | some x =>
     rw [hj] at hv
     simp only [Option.map_some, Option.some.injEq] at hv
     subst hv
     have h1 := u7 (rows := (u8s s).map cells) (s := 1) (k := j) (j := 0) (c := .v (.int .u8 x.v)) (kx (u8s s)) (bn hj) rfl
     rw [Nat.mul_one, Nat.add_zero] at h1
     rw [h1] at hc
     cases hc
     exact .v (hrow j x hj).2⟩ (.inr ⟨w.heap.size, 0, rfl, by
    simp only [Env.lay, if_true, List.length_map, rp]; omega, fun j u hu => by
    rw [List.getElem?_map] at hu
    cases hj : (u8s s)[j]? with
    | none => rw [hj] at hu; cases hu
    | some x =>
     rw [hj] at hu
     simp only [Option.map_some, Option.some.injEq] at hu
     subst hu
     rw [Nat.zero_add, hcell j]
     exact (hrow j x hj).1⟩) (by simp) (by simp) (by simp)
  rw [List.length_map, rp] at this
  exact this
end
instance : KeyV Int where
 kv x := .int .i64 x
 kc x := .v (.int .i64 x)
 inv h := h.v_inv
 inj h := by simpa using h
 any h _ _ := by cases h with | v h => exact .v h
theorem ux {E : Env} {w : World} {x : Int} {v : Value} (h : R E w (.v (.int .i64 x)) v) : -9223372036854775808 ≤ x ∧ x ≤ 9223372036854775807 := by
 cases h with | v h => exact ubg h
theorem ur {x : Int} (h : -9223372036854775808 ≤ x ∧ x ≤ 9223372036854775807) : (Lit.int .i64 x).wf = true := by
 simp [Lit.wf, IntKind.min, IntKind.max, IntKind.signed, IntKind.bits]; omega
/-- What a map has for a key, or nothing. -/
theorem na {P : Program} {o : Oper} {st : St} {α : Type} [KeyV α] {D : Nat → Prop} {t k e : TypeId} [MapT P t k e] [KeyT P k α] {x i : Operand} {n wv : Nat} {m : α → Option C} {c : C} {z : Value} [Zero P e z] (key : α) (ho : o.op = .lookup t x i false) (hx : evC st x = .map n) (hG : st.G n = some (fe P k wv m)) (hD : D n) (hi : evC st i = KeyV.kc key) (hm : (m key).getD (nw z) = c) : SStep P D o st c := by
 subst hm
 exact ue8 key ho hx hG hD hi rfl
theorem ei {P : Program} {α : Type} [KeyV α] {k : TypeId} {wv n : Nat} {m : α → Option C} (h : ∀ x c, m x = some c → C.low n c) : (fe P k wv m).low n := by
 intro x c hx
 by_cases hex : ∃ y : α, x = KeyV.kv y
 ·obtain ⟨y, rfl⟩ := hex
  rw [iu] at hx
  exact h y c hx
 ·rw [sf _ hex] at hx; cases hx
theorem lj {P : Program} {α : Type} [KeyV α] {k : TypeId} {wv n cl : Nat} {β : Value → Nat} {m : α → Option C} (h : ∀ x c, m x = some c → C.low n c) : (ji P k wv m β cl).low n := by
 intro x c hx
 by_cases hex : ∃ y : α, x = KeyV.kv y
 ·obtain ⟨y, rfl⟩ := hex
  rw [iu] at hx
  exact h y c hx
 ·rw [sf _ hex] at hx; cases hx
end Go.AB
namespace Go.AB
open Go Go.RowKit
open Go.AB.Enc (cells)
theorem zG {p : Prop} (h : p := by (try dsimp only); repeat (first | exact i0 _ _ _ | assumption | rw [cm (by omega)] | rw [jk (by omega)])) : p := h
theorem zN {p : Prop} (h : p := by first | exact Nat.le_refl _ | omega | (simp; try omega)) : p := h
theorem zS {p : Prop} (h : p := by intro n o h; first | exact h | (have := hlt n o h; (try dsimp only); repeat (first | exact h | rw [cm (by omega)] | rw [jk (by omega)]))) : p := h
theorem zX {p : Prop} (h : p := by (repeat' (refine jw (by (try dsimp only); repeat (first | exact i0 _ _ _ | assumption | rw [cm (by omega)] | rw [jk (by omega)])) ?_)); (intro n o h; first | exact h | (have := hlt n o h; (try dsimp only); repeat (first | exact h | rw [cm (by omega)] | rw [jk (by omega)])))) : p := h
theorem zL {p : Prop} (h : p := by (try dsimp only); repeat' (first | exact trivial | refine ⟨?_, ?_⟩ | exact .v | exact .any | refine .elem ?_ | exact ar _ _ | exact c6 _ _ | exact cw _ _ | exact cy _ (by (try dsimp only); omega) | exact .box (by (try dsimp only); omega) | exact c5 | exact cg | refine c4 ?_ ?_ | exact .arr (by (try dsimp only); omega) | exact .own (by (try dsimp only); omega) | exact .map (by (try dsimp only); omega) | exact cc _ | refine bk ?_ ?_ | exact ar _ _)) : p := h
theorem zH {p : Prop} (h : p := by (repeat' (refine et ?_ (by (try dsimp only); omega) ?_)); all_goals (first | exact fq (by intro n o h; first | exact h | (have := hlt n o h; (try dsimp only); repeat (first | exact h | rw [cm (by omega)] | rw [jk (by omega)]))) | (repeat' (first | exact trivial | refine ⟨?_, ?_⟩ | exact .v | exact .any | refine .elem ?_ | exact ar _ _ | exact c6 _ _ | exact cw _ _ | exact cy _ (by (try dsimp only); omega) | exact .box (by (try dsimp only); omega) | exact c5 | exact cg | refine c4 ?_ ?_ | exact .arr (by (try dsimp only); omega) | exact .own (by (try dsimp only); omega) | exact .map (by (try dsimp only); omega) | exact cc _ | refine bk ?_ ?_ | exact ar _ _)))) : p := h
theorem zF {p : Prop} (h : p := by repeat' (first | exact trivial | refine ⟨?_, ?_⟩ | exact .inr rfl | exact .inl rfl | exact .inr (congrArg C.v (congrArg (Value.int _) (by simp; try omega))))) : p := h
theorem zB {p : Prop} (h : p := by first | exact .inl rfl | (refine .inr ?_; repeat' (first | exact trivial | refine ⟨?_, ?_⟩ | exact .inr rfl | exact .inl rfl | exact .inr (congrArg C.v (congrArg (Value.int _) (by simp; try omega)))))) : p := h
theorem zD {p : Prop} (h : p := by repeat (first | exact zr | refine zt (by (try dsimp only [St.put]); exact (by (try dsimp only); repeat (first | exact i0 _ _ _ | assumption | rw [cm (by omega)] | rw [jk (by omega)]))) (by (try dsimp only [St.put]); exact (by (try dsimp only); repeat (first | exact i0 _ _ _ | assumption | rw [cm (by omega)] | rw [jk (by omega)]))) rfl ?_)) : p := h
theorem zA {p : Prop} (h : p := by first | omega | (simp only [List.length_take, List.length_cons, List.length_nil, List.length_append, List.length_map]; omega) | (simp; omega)) : p := h
theorem zO {p : Prop} (h : p := by first | (simp; done) | (simp; omega) | exact Nat.lt_of_lt_of_eq (by decide) (Enc.len _).symm) : p := h
theorem zE {p : Prop} (h : p := by first | rfl | simp) : p := h
theorem zC {p : Prop} (h : p := by first | exact List.cons_ne_nil _ _ | (simp; done) | (simp [putAt]; done)) : p := h
def rl : List Nat → List Bool
  | [] => []
  | [a] => List.replicate a true
  | a :: b :: r => List.replicate a true ++ (List.replicate b false ++ rl r)
theorem zQ {p q : Prop} (h : q) (e : p = q := by (simp only [firsts, bw, Nat.reduceAdd, List.getD_cons_zero, List.getD_cons_succ, List.getD_nil, ugs, Nat.reduceBEq, cond_true, cond_false]) <;> rfl) : p := e ▸ h
theorem zR {p : Prop} (h : p := by first | (simp; done) | (intro r hr; simp only [List.mem_cons, List.not_mem_nil, or_false] at hr; first | (subst hr; rfl) | (rcases hr with hr | hr <;> (subst hr; rfl)) | (rcases hr with hr | hr | hr <;> (subst hr; rfl)) | (rcases hr with hr | hr | hr | hr <;> (subst hr; rfl)))) : p := h
theorem zW {p : Prop} (h : p := by repeat' (first | exact Wk.refl _ | exact Wk.tok | refine Wk.agg ?_ | refine ⟨?_, ?_⟩ | exact trivial)) : p := h
section
variable {ρ : Option Nat} {P : Program} {ops : Array Oper} {K : St → Prop} {rest : List Oper} {o : Oper} {st : St} {Q : Exit → St → Prop} {x : Operand} {c : C}
theorem yM (ho : o.op = .move x) (hg : fk ops st o = some true) (h : f5 ρ P ops K rest (st.put o.dst c)) (hx : Is (evC st x) c := by constructor) : f5 ρ P ops K (o :: rest) st := aa hg (gi ho hx) h
theorem yA (ho : o.op = .assign x) (hg : fk ops st o = some true) (h : f5 ρ P ops K rest (st.put o.dst c)) (hx : Is (evC st x) c := by constructor) : f5 ρ P ops K (o :: rest) st := aa hg (gn ho hx) h
theorem yL {t : TypeId} {cs : List C} [Ty P t false 1] (ho : o.op = .load t x) (hg : fk ops st o = some true) (hx : evC st x = .elem (c :: cs)) (h : f5 ρ P ops K rest (st.put o.dst c)) : f5 ρ P ops K (o :: rest) st := du hg (bv ho hx) h
theorem yE {α : Type} [Enc α] {t : TypeId} {a : α} [Ty P t true (Enc.n α)] (ho : o.op = .load t x) (hg : fk ops st o = some true) (hx : evC st x = .elem (cells a)) (h : f5 ρ P ops K rest (st.put o.dst (.agg (cells a)))) : f5 ρ P ops K (o :: rest) st := du hg (d9 ho hx (Enc.len a)) h
theorem yX {i : Nat} {cs : List C} (ho : o.op = .extract x i) (hg : fk ops st o = some true) (hx : evC st x = .tup cs) (hc : cs[i]? = some c) (h : f5 ρ P ops K rest (st.put o.dst c)) : f5 ρ P ops K (o :: rest) st := aa hg (ugx ho hx hc) h
theorem yF {t : TypeId} {f off : Nat} {ft : TypeId} [Fld P t f off ft] {cs : List C} {d : C} {ds : List C} (ho : o.op = .fieldAddr t x f) (hg : fk ops st o = some true) (hx : evC st x = .elem cs) (hd : cs.drop off = d :: ds) (h : f5 ρ P ops K rest (st.put o.dst (.elem (d :: ds)))) : f5 ρ P ops K (o :: rest) st := aa hg (cb ho hx hd) h
theorem yB {e : TypeId} {cs : List C} (ho : o.op = .box e x) (hg : fk ops st o = some true) (hx : jl (evC st x) = some cs) (h : f5 ρ P ops K rest (st.put o.dst (.elem cs))) (hne : cs ≠ [] := by simp) : f5 ρ P ops K (o :: rest) st := af hg (e_box ho hx hne h)
theorem yK (hg : fk ops st o = some false) (h : f5 ρ P ops K rest (st.put o.dst (.tup []))) : f5 ρ P ops K (o :: rest) st := ui2 hg h
theorem yN (h : K st) : f5 ρ P ops K [] st := ui3 h
theorem yR {id : Nat} {l : List Oper} (h : f5 ρ P l.toArray (Q .normal) l st) : AW ρ P (.region id l.toArray false) Q st := uiy h
theorem yS {x y : Code} (h : ∀ K : St → Prop, (∀ st', AW ρ P y Q st' → K st') → AW ρ P x (n8 K Q) st) : AW ρ P (.seq x y) Q st := uiw h
end
section
variable {P : Program} {ol : List Oper} {K : St → Prop} {D : List Nat} {late Ef N : Nat → Bool} {i : Nat} {π : List (Nat × Option Nat)} {o : Oper} {st : St} {c : C} {x : Operand}
theorem xM (ho : o.op = .move x) (hE : Ef i = false) (hN : N i = true) (hol : ol[i]? = some o) (hg : fk ol.toArray st o = some true) (h : jf P ol.toArray K D late Ef N π (st.put o.dst c)) (hx : Is (evC st x) c := by constructor) : jf P ol.toArray K D late Ef N ((i, none) :: π) st := ae hE hN hol hg (gi ho hx) h
end
end Go.AB
namespace Go.AB
open Go Go.RowKit
variable {p : Program}

def RGe {α : Type} (d : Nat) : Result α → Prop
 | .ok _ w => d ≤ w.drawn
 | .halt _ w => d ≤ w.drawn
theorem RGe.le {α : Type} {d e : Nat} {r : Result α} (h : RGe e r) (hde : d ≤ e) : RGe d r := by
 cases r <;> exact Nat.le_trans hde h

theorem yy {α : Type} : ∀ (x : Ask α) (w : World), w.drawn ≤ (w.ask x).2.drawn
 | .done _, _ => Nat.le_refl _
 | .ask what range k, w => by
  unfold World.ask
  dsimp only
  split
  ·exact yy (k 0) w
  ·exact Nat.le_trans (Nat.le_succ _) (yy (k _) { w with drawn := w.drawn + 1 })
theorem uei (w : World) (c : Sys) : w.drawn ≤ (w.sys c).2.drawn := by
 unfold World.sys
 have h := yy (Kernel.perform c w.os) w
 split
 ·exact Nat.le_refl _
 ·rename_i e
  rw [e] at h
  exact h
theorem ud0 {w w' : World} {at_ k : Addr} {u : TypeId} {v : Value} {b : Bool} {l : List Addr} (h : w.viewStore p at_ u k v b = .ok (w', l)) : w'.drawn = w.drawn := by
 unfold World.viewStore at h
 simp only [bind, Except.bind, pure, Except.pure, throw, throwThe, MonadExceptOf.throw] at h
 repeat' (first | (cases h; done) | split at h)
 all_goals (first | (cases h; rfl) | (simp only [Except.ok.injEq, Prod.mk.injEq] at h; obtain ⟨rfl, _⟩ := h; rfl))
theorem uhx {w w' : World} {a : Addr} {v : Value} {b : Bool} {l : List Addr} (h : w.farStore p a v b = .ok (w', l)) : w'.drawn = w.drawn := by
 unfold World.farStore at h
 split at h
 ·split at h
  ·rename_i e
   cases h
   exact ud0 e
  ·cases h
 ·cases h
theorem uhn (w : World) (a : Addr) (n : Nat) : (w.freeze a n).drawn = w.drawn := by
 unfold World.freeze
 split <;> rfl

theorem t7 {α : Type} (s : Sem α) : ∀ w : World, RGe w.drawn (s.run p w) := by
 induction s with
 | pure a => exact fun w => Nat.le_refl _
 | load m a k ih =>
  intro w
  simp only [Sem.run]
  split
  ·exact ih _ w
  ·split
   ·exact ih _ w
   ·exact Nat.le_refl _
 | store m a v k ih =>
  intro w
  cases v
  all_goals simp only [Sem.run]
  all_goals (first | exact Nat.le_refl _ | skip)
  all_goals split
  all_goals split
  all_goals (first | exact Nat.le_refl _ | exact ih (w.setCell a _) | (rename_i e; exact (ih _).le (Nat.le_of_eq (uhx e).symm)))
 | new o k ih => exact fun w => ih _ { w with heap := w.heap.push o }
 | shape r k ih => exact fun w => ih _ w
 | freeze a n k ih => exact fun w => (ih (w.freeze a n)).le (Nat.le_of_eq (uhn w a n).symm)
 | frozen a k ih => exact fun w => ih _ w
 | getObj r k ih =>
  intro w
  simp only [Sem.run]
  split
  ·exact Nat.le_refl _
  ·exact ih _ w
  ·exact Nat.le_refl _
 | setObj r o k ih =>
  intro w
  simp only [Sem.run]
  split
  ·exact Nat.le_refl _
  ·exact ih { w with heap := w.heap.setIfInBounds r o }
  ·exact Nat.le_refl _
 | choose q k ih =>
  intro w
  simp only [Sem.run]
  split
  ·exact ih _ w
  ·exact (ih _ { w with drawn := w.drawn + 1 }).le (Nat.le_succ _)
 | sys c k ih => exact fun w => (ih _ (w.sys c).2).le (uei w c)
 | program k ih => exact fun w => ih p w
 | mark m k ih => exact fun w => ih w
 | halt h => exact fun w => Nat.le_refl _
theorem ufc {α : Type} (s : Sem α) : ∀ (w : World) (es : Array Event), (s.runT p w es).1 = s.run p w := by
 induction s with
 | pure a => exact fun w es => rfl
 | load m a k ih =>
  intro w es
  simp only [Sem.run, Sem.runT]
  split
  ·exact ih _ _ _
  ·split
   ·exact ih _ _ _
   ·rfl
 | store m a v k ih =>
  intro w es
  cases v
  all_goals simp only [Sem.run, Sem.runT]
  all_goals (first | done | skip)
  all_goals split
  all_goals split
  all_goals (first | rfl | exact ih _ _)
 | new o k ih => exact fun w es => ih _ _ _
 | shape r k ih => exact fun w es => ih _ _ _
 | freeze a n k ih => exact fun w es => ih _ _
 | frozen a k ih => exact fun w es => ih _ _ _
 | getObj r k ih =>
  intro w es
  simp only [Sem.run, Sem.runT]
  split
  ·rfl
  ·exact ih _ _ _
  ·rfl
 | setObj r o k ih =>
  intro w es
  simp only [Sem.run, Sem.runT]
  split
  ·rfl
  ·exact ih _ _
  ·rfl
 | choose q k ih =>
  intro w es
  simp only [Sem.run, Sem.runT]
  split
  ·exact ih _ _ _
  ·exact ih _ _ _
 | sys c k ih => exact fun w es => ih _ _ _
 | program k ih => exact fun w es => ih _ _ _
 | mark m k ih => exact fun w es => ih _ _
 | halt h => exact fun w es => rfl
theorem nd {α : Type} (s : Sem α) (w : World) (es : Array Event) : RGe w.drawn (s.runT p w es).1 := by
 rw [ufc]; exact t7 s w

theorem jp {α : Type} {s : Sem α} {w w1 : World} {a : α} (h : s.run p w = .ok a w1) : w.drawn ≤ w1.drawn := by
 have := t7 (p := p) s w
 rw [h] at this
 exact this
theorem sb {α : Type} {s : Sem α} {w w1 : World} {a : α} {es es' : Array Event} (h : s.runT p w es = (.ok a w1, es')) : w.drawn ≤ w1.drawn := by
 have := nd (p := p) s w es
 rw [h] at this
 exact this
theorem xe {α : Type} {s : Sem α} {w w1 : World} {a : Halt} {es es' : Array Event} (h : s.runT p w es = (.halt a w1, es')) : w.drawn ≤ w1.drawn := by
 have := nd (p := p) s w es
 rw [h] at this
 exact this

theorem uk {α : Type} {s : Sem α} {w w1 : World} {a : α} {es : Array Event} (h : (s.runT p w es).1 = .ok a w1) : w.drawn ≤ w1.drawn := by
 have := nd (p := p) s w es
 rw [h] at this
 exact this
theorem ugn {α : Type} {s : Sem α} {w w1 : World} {a : Halt} {es : Array Event} (h : (s.runT p w es).1 = .halt a w1) : w.drawn ≤ w1.drawn := by
 have := nd (p := p) s w es
 rw [h] at this
 exact this

def GGe (d : Nat) : GStep → Prop
 | .go _ w _ | .comm _ _ _ _ w _ | .spawn _ _ w _ | .count _ w _ | .timer _ _ w _ | .alone _ _ w _ | .newcoro _ _ _ w _ | .coroswitch _ _ _ w _ | .collect _ w _ | .watch _ w _ => d ≤ w.drawn
 | .ended _ _ _ => True
theorem rh {d : Nat} {es : Array Event} {g : GStep} (h : GGe d g) : GGe d (GStep.after es g) := by cases g <;> exact h
theorem uhi {d : Nat} {c : Prop} [Decidable c] {a b : GStep} (ha : GGe d a) (hb : GGe d b) : GGe d (if c then a else b) := by split <;> assumption
theorem uh1 {β : Type} {d : Nat} {o : Option β} {a : GStep} {f : β → GStep} (ha : GGe d a) (hf : ∀ x, GGe d (f x)) : GGe d (o.elim a f) := by
 cases o
 ·exact ha
 ·exact hf _
theorem uco {d : Nat} {fr : Frame} {m : String} {w : World} (h : d ≤ w.drawn) : GGe d (endThrow fr m w) := h
theorem ucp {d : Nat} {fr : Frame} {v : Value} {w : World} (h : d ≤ w.drawn) : GGe d (endPrinting p fr v w) := by
 unfold endPrinting
 dsimp only
 split
 ·exact h
 ·trivial
theorem ucq {fr : Frame} {cs : List Frame} {dy : Option Dying} {m : String} {w : World} {d : Nat} (h : d ≤ w.drawn) : GGe d (endFatal p fr cs dy m w) := by
 unfold endFatal
 dsimp only
 split
 ·rename_i e
  exact Nat.le_trans h (jp e)
 ·trivial
 ·trivial
theorem uh0 {d : Nat} {fd : Nat} {text : ByteArray} {o : Outcome} {w : World} : GGe d (endWith w fd text o) := by
 unfold endWith
 dsimp only
 split
 ·split <;> trivial
 ·trivial
 ·trivial
theorem udn {fr : Frame} {dy : Dying} {f : Fatal} {w : World} : GGe w.drawn (writeOn p fr dy f w) := by
 unfold writeOn
 dsimp only
 split
 ·trivial
 ·split
  ·rename_i e
   first | exact sb e | exact xe e
  ·rename_i e
   first | exact sb e | exact xe e
  ·trivial
  ·trivial
theorem uih {fr : Frame} {dy : Dying} {w : World} : GGe w.drawn (die p fr dy w) := by
 unfold die
 dsimp only
 split
 ·exact udn
 ·split
  ·split
   ·exact Nat.le_refl _
   ·exact uh0
  ·split
   ·exact Nat.le_refl _
   ·split
    ·rename_i e
     exact jp e
    ·trivial
   ·refine rh ?_
    rename_i t recv name _
    have key := nd (p := p) (invoke (.fn (.method name) #[]) #[.iface t recv]) w #[]
    split <;> first | trivial | (rename_i e; rw [e] at key; first | exact key | exact ucp key)
   ·trivial
theorem vk {main : Bool} {fr : Frame} {cs : List Frame} {dy : Option Dying} {v : Value} {w : World} {d : Nat} (h : d ≤ w.drawn) : GGe d (doReturn p main fr cs dy v w) := by
 unfold doReturn
 dsimp only
 repeat' (first | exact h | trivial | split)
theorem uiq {fr : Frame} {cs : List Frame} {dy : Option Dying} {de : Deferred} {w : World} : GGe w.drawn (callDeferred p fr cs dy de w) := by
 unfold callDeferred
 dsimp only
 refine uhi trivial ?_
 ·refine rh ?_
  have key := nd (p := p) (invoke de.target de.args) w #[]
  generalize (invoke de.target de.args).runT p w #[] = r at key ⊢
  obtain ⟨r, es⟩ := r
  dsimp only at key ⊢
  split <;> first | exact key | trivial | exact ucq key | exact uco key | (split <;> first | exact key | trivial)
theorem ud2 {main : Bool} {fr : Frame} {cs : List Frame} {dy : Option Dying} {w : World} : GGe w.drawn (unwind p main fr cs dy w) := by
 unfold unwind
 split
 ·rename_i block _ ds _
  refine rh ?_
  have key := nd (p := p) (Instr.takeDeferred block) w #[]
  split <;> first | trivial | (rename_i e; rw [e] at key; exact key)
 ·exact uiq
 ·split
  ·trivial
  ·split
   ·trivial
   ·split
    ·exact Nat.le_refl _
    ·split
     ·split
      ·exact Nat.le_refl _
      ·split
       ·rename_i e
        exact jp e
       ·trivial
       ·trivial
     ·split
      ·exact ucp (Nat.le_refl _)
      ·trivial
  ·split
   ·exact vk (Nat.le_refl _)
   ·rename_i fn _
    refine rh ?_
    have key := nd (p := p) (results fn fr.tmps) w #[]
    split <;> first | trivial | (rename_i e; rw [e] at key; exact vk key)
theorem ucs {fr : Frame} {cs : List Frame} {dy : Option Dying} {g : Nat} {w : World} {d : Nat} (h : d ≤ w.drawn) : GGe d (early p fr cs dy g w) := by
 unfold early
 dsimp only
 repeat' (first | exact h | trivial | split)
 all_goals (have key := t7 (p := p) (choose (.early g)) w; simp only [*] at key; exact Nat.le_trans h key)
end Go.AB
namespace Go.AB
open Go Go.RowKit
variable {p : Program}

theorem s9 {listen : Bool} {fr : Frame} {cs : List Frame} {dy : Option Dying} {s : Sem Next} {w : World} {d : Nat} (hd : d ≤ w.drawn) : GGe d (stepG.apply p listen fr cs dy s w) := by
 unfold stepG.apply
 have key : RGe d (if listen then s.runT p w #[] else (s.run p w, #[])).1 := by
  split
  ·exact (nd s w #[]).le hd
  ·exact (t7 s w).le hd
 dsimp only
 generalize (if listen then s.runT p w #[] else (s.run p w, #[])) = r at key ⊢
 obtain ⟨r, es⟩ := r
 dsimp only at key ⊢
 refine rh ?_
 split <;> first | exact key | trivial | exact ucq key | exact uco key | exact ucs key | (repeat' (first | exact key | exact ucs key | trivial | split))
theorem ugi {listen : Bool} {fr : Frame} {cs : List Frame} {dy : Option Dying} {w : World} : GGe w.drawn (stepG.oper p listen fr cs dy w) := by
 unfold stepG.oper
 split
 ·trivial
 ·split <;> exact s9 (Nat.le_refl _)
theorem uhy {main listen : Bool} {fr : Frame} {cs : List Frame} {dy : Option Dying} {w : World} : GGe w.drawn (stepG.exec p main listen fr cs dy w) := by
 unfold stepG.exec
 dsimp only
 repeat' (first | exact Nat.le_refl _ | trivial | exact s9 (Nat.le_refl _) | exact s9 (uk (by assumption)) | refine uh1 ?_ (fun _ => ?_) | refine rh ?_ | exact ugi | split)
 all_goals (try subst_vars)
 all_goals (first | exact s9 (uk (by assumption)) | exact vk (uk (by assumption)) | exact (uk (by assumption) : w.drawn ≤ _) | exact (ugn (by assumption) : w.drawn ≤ _) | exact s9 (sb (by assumption)) | exact vk (sb (by assumption)) | exact (sb (by assumption) : w.drawn ≤ _) | exact (xe (by assumption) : w.drawn ≤ _) | exact (jp (by assumption) : w.drawn ≤ _))
theorem uep {main listen : Bool} {g : Goroutine} {w : World} : GGe w.drawn (stepG p main g w listen) := by
 unfold stepG
 dsimp only
 split
 ·exact uih
 ·exact uhy
 ·exact ud2

/-! ### The machine -/
def SGe (d : Nat) : Stepped → Prop
 | .next m => d ≤ m.world.drawn
 | .ended _ _ => True
theorem xu {gs : Array Goroutine} {rest : Rest} {w : World} {d : Nat} (h : d ≤ w.drawn) : SGe d (look p gs rest w) := by
 unfold look
 dsimp only
 split
 ·split
  ·trivial
  ·split
   ·trivial
   ·split
    ·rename_i e
     first
     | exact h
     | (have h2 := Nat.le_trans h (jp e); exact h2)
    ·first | trivial | exact h | (rename_i e; exact Nat.le_trans h (jp e))
    ·trivial
 ·trivial
theorem udz {rest : Rest} {cases : Array CommCase} {w w1 : World} (h : waitingAt rest cases w = some w1) : w1.drawn = w.drawn := by
 unfold waitingAt at h
 split at h
 ·split at h
  ·cases h; rfl
  ·cases h
 ·cases h; rfl
theorem uii {rest : Rest} {gs : Array Goroutine} {i : Nat} {g : Goroutine} {cases : Array CommCase} {blocking : Bool} {shape : CommShape} {w : World} {d : Nat} (h : d ≤ w.drawn) : SGe d (communicate p rest gs i g cases blocking shape w).1 := by
 unfold communicate
 dsimp only
 split
 ·trivial
 ·split
  ·split
   ·split
    ·rename_i e
     exact Nat.le_trans h (Nat.le_of_eq (udz e).symm)
    ·trivial
   ·exact h
  ·split
   ·trivial
   ·rename_i e
    have h2 := Nat.le_trans h (jp e)
    repeat' (first | exact h2 | trivial | split)
    all_goals (have h3 := Nat.le_trans h2 (jp (p := p) (by assumption)); exact h3)
theorem uif (w : World) (c : Nat) : (drain w c).2.drawn = w.drawn := by
 unfold drain
 split <;> rfl
theorem uad (m : Machine) (k : Nat) (t : Timer) (x y : Nat) : (retime m k t x y).2.world.drawn = m.world.drawn := by
 unfold retime
 dsimp only
 split
 ·exact uif _ _
 ·rfl
theorem ud9 {m m1 : Machine} {op : TimerOp} {v : Value} (h : timerOp m op = .ok (v, m1)) : m1.world.drawn = m.world.drawn := by
 have named : ∀ (m0 : Machine) (var : Addr) (f : Nat → Timer → Value × Machine) (D : Nat), (∀ k t, (f k t).2.world.drawn = D) → timerOp.named m0 var f = .ok (v, m1) → m1.world.drawn = D := by
  intro m0 var f D hf h
  unfold timerOp.named at h
  split at h
  ·simp only [Except.ok.injEq] at h
   have := congrArg (fun z => z.2.world.drawn) h
   rw [← this]
   exact hf _ _
  ·cases h
 unfold timerOp at h
 dsimp only at h
 split at h
 ·split at h
  ·cases h; rfl
  ·split at h
   ·split at h
    ·cases h
    ·cases h; rfl
   ·cases h
 ·exact named _ _ _ _ (fun k t => uad _ _ _ _ _) h
 ·split at h
  ·rename_i e
   have h2 := named _ _ _ _ (fun k t => uad _ _ _ _ _) h
   rw [h2]
   unfold timerOp.opened at e
   split at e
   ·split at e
    ·cases e; rfl
    ·cases e
   ·cases e; rfl
  ·cases h
 ·cases h; rfl
theorem ufb {m : Machine} {i : Nat} {listen : Bool} : SGe m.world.drawn (runT p m i listen).1 := by
 unfold runT
 have key := uep (p := p) (main := i == 0) (listen := listen) (g := (m.gs.swapAt! i { (default : Goroutine) with status := .finished }).1) (w := m.world)
 dsimp only
 revert key
 generalize stepG p (i == 0) (m.gs.swapAt! i { (default : Goroutine) with status := .finished }).1 m.world listen = s
 intro key
 cases s <;> (try exact key)
 all_goals dsimp only
 all_goals (first | exact key | trivial | exact uii key | exact xu key | skip)
 all_goals (repeat' (first | exact key | trivial | split))
 all_goals (first | (rename_i e; exact Nat.le_trans key (Nat.le_of_eq (ud9 e).symm)) | (rename_i e; cases e; exact key))

def MGe (d : Nat) : Move → Prop
 | .goroutine m _ => d ≤ m.world.drawn
 | .machine s _ => SGe d s
theorem ue6 {m : Machine} {k d : Nat} (h : d ≤ m.world.drawn) : SGe d (serve p m k) := by
 unfold serve
 dsimp only
 repeat' (first | exact h | trivial | split)
theorem yz {m : Machine} {d : Nat} (h : d ≤ m.world.drawn) : MGe d (askOn p m) := by
 unfold askOn
 dsimp only
 split
 ·trivial
 ·rename_i e0
  have h0 := Nat.le_trans h (jp e0)
  split
  ·exact ue6 h0
  ·split
   ·split
    ·exact h0
    ·split
     ·exact h0
     ·split <;> trivial
   ·split
    ·split
     ·trivial
     ·rename_i e1
      have h1 := Nat.le_trans h0 (jp e1)
      split
      ·exact h1
      ·split
       ·trivial
       ·rename_i e2
        have q := jp e2
        exact Nat.le_trans h1 q
    ·split
     ·trivial
     all_goals (rename_i e1; have h1 := Nat.le_trans h0 (jp e1))
     all_goals (first | exact h1 | skip)
     all_goals split
     all_goals (first | trivial | skip)
     all_goals (rename_i e2; have q2 := jp e2; have h2 := Nat.le_trans h1 q2)
     all_goals split
     all_goals (first | exact h2 | skip)
     all_goals split
     all_goals (first | trivial | (rename_i e3; have q3 := jp e3; exact Nat.le_trans h2 q3))
theorem uc5 {m : Machine} {d : Nat} (h : d ≤ m.world.drawn) : MGe d (ask p m) := by
 unfold ask
 split
 ·split
  ·trivial
  ·rename_i e
   have h1 := Nat.le_trans h (jp e)
   split
   ·rename_i e2
    have := xu (p := p) (gs := m.gs) (rest := m.rest) h1
    rw [e2] at this
    exact yz this
   ·exact xu h1
  ·rename_i e
   exact yz (Nat.le_trans h (jp e))
 ·exact yz h
theorem ugz {m : Machine} {d : Nat} (h : d ≤ m.world.drawn) : MGe d (move p m) := by
 unfold move
 split
 ·split
  ·exact h
  ·trivial
 ·split
  ·split
   ·exact h
   ·exact uc5 h
  ·exact uc5 h
theorem uen {m : Machine} {d : Nat} (h : d ≤ m.world.drawn) : SGe d (step p m) := by
 unfold step stepT
 have key := ugz (p := p) h
 generalize move p m = v at key ⊢
 cases v with
 | goroutine m1 i =>
  have k2 := ufb (p := p) (m := m1) (i := i) (listen := true)
  dsimp only
  generalize (runT p m1 i true).1 = s at k2 ⊢
  cases s with
  | next m2 => exact Nat.le_trans key k2
  | ended => trivial
 | machine s ops => exact key
theorem zy {d : Nat} : ∀ (n : Nat) (m m1 : Machine), d ≤ m.world.drawn → runN p n m = .next m1 → d ≤ m1.world.drawn
 | 0, m, m1, h, e => by simp only [runN, Stepped.next.injEq] at e; exact e ▸ h
 | n + 1, m, m1, h, e => by
  have key := uen (p := p) h
  simp only [runN] at e
  split at e
  ·rename_i e2
   rw [e2] at key
   exact zy n _ m1 key e
  ·rename_i h2
   exact (h2 _ e).elim
theorem uem {m m1 : Machine} (h : Steps p m m1) : m.world.drawn ≤ m1.world.drawn := by
 obtain ⟨n, hn⟩ := h
 exact zy n m m1 (Nat.le_refl _) hn
/-- A call that comes back never takes back what was drawn. -/
theorem uio {P : Program} {f : FuncId} {args : Array Value} {w : World} {R : Ending → World → Prop} (hr : ∀ e w', R e w' → ∃ v, e = .returned v) (h : Calls P f args w R) : Calls P f args w fun e w' => R e w' ∧ w.drawn ≤ w'.drawn := by
 intro cs
 obtain ⟨e, w', fr, h1, h2, h3, h4⟩ := h cs
 refine ⟨e, w', fr, ⟨h1, ?_⟩, h2, h3, h4⟩
 obtain ⟨v, rfl⟩ := hr e w' h1
 exact uem (p := P) h2
end Go.AB
namespace Go.PB
structure ay where
 id : Int
 lines : List (List ByteArray)
 deriving DecidableEq
abbrev aj := List ay
structure PlaceD where
 ch : Int
 ln : Int
 wd : Int
 deriving DecidableEq
structure bh where
 pl : PlaceD
 kind : Int
 word : ByteArray
 deriving DecidableEq
structure bj where
 id : Int
 rs : List bh
 deriving DecidableEq
/-- How lines may go on: a kind of readings; how many words of each are used. -/
structure bi where
 kind : Int
 one : Nat
 two : Nat
 deriving DecidableEq
end Go.PB
namespace Go.AB
open Go Go.RowKit
open Go.AB.Enc (cells)
open Go.PB (ay aj PlaceD bh bj bi)


instance : Enc ay := ⟨fun x => [.v (.int .i64 x.id), lst x.lines], 2, fun _ => rfl, fun m x c h => by
 simp only [List.mem_cons, List.not_mem_nil, or_false] at h; rcases h with rfl | rfl; exact .v; exact ar m _, fun x c h => by
 simp only [List.mem_cons, List.not_mem_nil, or_false] at h; rcases h with rfl | rfl <;> rfl⟩
instance : Enc PlaceD := ⟨fun x => [.v (.int .i64 x.ch), .v (.int .i64 x.ln), .v (.int .i64 x.wd)], 3, fun _ => rfl, fun m x c h => by
 simp only [List.mem_cons, List.not_mem_nil, or_false] at h; rcases h with rfl | rfl | rfl <;> exact .v, fun x c h => by
 simp only [List.mem_cons, List.not_mem_nil, or_false] at h; rcases h with rfl | rfl | rfl <;> rfl⟩
/-- A struct by value. -/
def val {α : Type} [Enc α] (x : α) : C := .agg (cells x)
abbrev eu (t : aj) : C := .agg [lst t]

def I64 (n : Int) : Prop := -9223372036854775808 ≤ n ∧ n ≤ 9223372036854775807
theorem uhk {n : Int} (h : (C.v (.int .i64 n)).fit) : I64 n := ubg (fit_v.1 h)
/-- lengths and numbers of a text that is read out of memory -/
structure udh (t : aj) : Prop where
 len : t.length ≤ 9223372036854775807
 id : ∀ c ∈ t, I64 c.id
 lines : ∀ c ∈ t, c.lines.length ≤ 9223372036854775807
 words : ∀ c ∈ t, ∀ l ∈ c.lines, l.length ≤ 9223372036854775807
 size : ∀ c ∈ t, ∀ l ∈ c.lines, ∀ s ∈ l, s.size ≤ 9223372036854775807
theorem za {l : List ByteArray} (h : (lst l).fit) : l.length ≤ 9223372036854775807 ∧ ∀ s ∈ l, s.size ≤ 9223372036854775807 := by
 obtain ⟨h1, h2⟩ := fit_lst.1 h
 exact ⟨h1, fun s hs => okV_str.1 (fit_v.1 (h2 s hs _ (List.mem_cons_self ..)))⟩
theorem uea {t : aj} (h : (lst t).fit) : udh t := by
 obtain ⟨h1, h2⟩ := fit_lst.1 h
 have h3 : ∀ c ∈ t, (lst c.lines).fit := fun c hc => h2 c hc _ (List.mem_cons_of_mem _ (List.mem_cons_self ..))
 have h4 : ∀ c ∈ t, ∀ l ∈ c.lines, (lst l).fit := fun c hc l hl => (fit_lst.1 (h3 c hc)).2 l hl _ (List.mem_cons_self ..)
 exact ⟨h1, fun c hc => uhk (h2 c hc _ (List.mem_cons_self ..)), fun c hc => (fit_lst.1 (h3 c hc)).1, fun c hc l hl => (za (h4 c hc l hl)).1, fun c hc l hl => (za (h4 c hc l hl)).2⟩
theorem rq {t : aj} (h : (eu t).fit) : udh t := uea (fit_agg.1 h _ (List.mem_cons_self ..))
/-! ### Lists -/
theorem ez {α : Type} {l : List α} {k : Nat} {x : α} (h : l[k]? = some x) : x ∈ l := List.mem_of_getElem? h
theorem f8 {α : Type} {l : List α} {k : Nat} (h : l.length ≤ k) : l.take k = l := List.take_of_length_le h
theorem pr {α : Type} {l : List α} {k : Nat} {x : α} {p : α → Bool} (hx : l[k]? = some x) : (l.take (k + 1)).all p = ((l.take k).all p && p x) := by
 rw [List.take_add_one, hx]; simp
theorem j0 {α : Type} {l : List α} {k : Nat} {x : α} {p : α → Bool} (hx : l[k]? = some x) (hp : p x = false) : l.all p = false :=
 List.all_eq_false.2 ⟨x, List.mem_of_getElem? hx, by simp [hp]⟩
theorem vt {α : Type} {l : List α} {k : Nat} {x : α} {p : α → Bool} (hx : l[k]? = some x) : (l.take (k + 1)).any p = ((l.take k).any p || p x) := by
 rw [List.take_add_one, hx]; simp
theorem rf {α : Type} {l : List α} {k : Nat} {x : α} {p : α → Bool} (hx : l[k]? = some x) (hp : p x = true) : l.any p = true :=
 List.any_eq_true.2 ⟨x, List.mem_of_getElem? hx, hp⟩
theorem ti {α : Type} {a b : List α} {k : Nat} {x : α} (h : a.take k = b.take k) (ha : a[k]? = some x) (hb : b[k]? = some x) : a.take (k + 1) = b.take (k + 1) := by
 rw [List.take_add_one, List.take_add_one, h, ha, hb]
theorem qj {α : Type} {a b : List α} {k : Nat} {x y : α} (ha : a[k]? = some x) (hb : b[k]? = some y) (h : x ≠ y) : a ≠ b := fun e => by
 subst e; rw [ha] at hb; exact h (by simpa using hb)
theorem lf {α β : Type} {l : List α} {k : Nat} {x : α} {f : α → β} (hx : l[k]? = some x) : (l.take (k + 1)).map f = (l.take k).map f ++ [f x] := by
 rw [List.take_add_one, hx]; simp
theorem xg {α β : Type} {l : List α} {j k : Nat} {x y : α} {f : α → β} (hj : l[j]? = some x) (hk : l[k]? = some y) (hlt : j < k) (hf : f x = f y) : ¬ (l.map f).Nodup := by
 intro h
 rw [List.Nodup, List.pairwise_iff_getElem] at h
 have h1 : (l.map f)[j]? = some (f x) := by simp [hj]
 have h2 : (l.map f)[k]? = some (f y) := by simp [hk]
 obtain ⟨hj', e1⟩ := List.getElem?_eq_some_iff.1 h1
 obtain ⟨hk', e2⟩ := List.getElem?_eq_some_iff.1 h2
 exact h j k hj' hk' hlt (by rw [e1, e2, hf])
theorem xh {α : Type} {l : List α} {x : α} (h : l.Nodup) (hx : x ∉ l) : (l ++ [x]).Nodup := by
 rw [List.nodup_append]
 exact ⟨h, by simp, fun a ha b hb => by simp at hb; subst hb; exact fun e => hx (e ▸ ha)⟩
theorem ugp {α β : Type} [DecidableEq β] {l : List α} {k : Nat} {f : α → β} {b : β} (h : (l.take k).any (fun d => decide (f d = b)) = false) : b ∉ (l.take k).map f := by
 intro hm
 obtain ⟨d, hd, e⟩ := List.mem_map.1 hm
 rw [List.any_eq_false] at h
 exact h d hd (by simp [e])

theorem uq {α β : Type} {f : Nat → α → β} {l : List α} {k : Nat} {x : α} (h : l[k]? = some x) : (l.take (k + 1)).mapIdx f = (l.take k).mapIdx f ++ [f k x] := by
 have hlt := (List.getElem?_eq_some_iff.1 h).1
 rw [List.take_add_one, h, List.mapIdx_append]
 simp [List.length_take, Nat.min_eq_left (Nat.le_of_lt hlt)]
theorem xp {α β : Type} (f : Nat → α → β) (l : List α) (k : Nat) : (l.take k).mapIdx f <+: l.mapIdx f := by
 refine ⟨(l.drop k).mapIdx fun i => f (i + (l.take k).length), ?_⟩
 rw [← List.mapIdx_append, List.take_append_drop]
theorem ucc {α : Type} {a b : List (List α)} (h : a <+: b) : a.flatten <+: b.flatten := by
 obtain ⟨r, rfl⟩ := h
 exact ⟨r.flatten, by simp⟩
/-! ### What the functions compute -/
/-- from lo to hi -/
def inB (n lo hi : Int) : Bool := decide (lo ≤ n) && decide (n ≤ hi)
theorem inB_true {n lo hi : Int} : inB n lo hi = true ↔ lo ≤ n ∧ n ≤ hi := by simp [inB]
def okc (c : UInt8) : Bool := decide (97 ≤ c.toNat) && decide (c.toNat ≤ 122)
def ko (s : ByteArray) : Bool := inB s.size 1 12 && s.data.toList.all okc
def ke (l : List ByteArray) : Bool := inB l.length 1 10 && l.all ko
def i9 (c : ay) : Bool := inB c.id 0 9999 && inB c.lines.length 1 10 && c.lines.all ke
def dl (t : aj) : Bool := inB t.length 1 6 && t.all i9 && decide (t.map (·.id)).Nodup
def o4 (l : List ByteArray) : Bool := decide (15 < l.length) || l.any fun s => decide (40 < s.size)
def mu (c : ay) : Bool := decide (15 < c.lines.length) || c.lines.any o4
def kg (t : aj) : Bool := decide (10 < t.length) || t.any mu
end Go.AB
namespace Go.AB
open Go Go.RowKit
open Go.AB.Enc (cells)
open Go.PB (ay aj PlaceD bh bj bi)

section
variable {E : Env} {w : World}
end

/-! ### All places, with their words -/
abbrev PW := PlaceD × ByteArray
def jr (k n : Nat) (l : List ByteArray) : List PW := l.mapIdx fun w s => (⟨k, n, w⟩, s)
def lp (k : Nat) (ls : List (List ByteArray)) : List PW := (ls.mapIdx fun n l => jr k n l).flatten
def iy (t : aj) : List PW := (t.mapIdx fun k c => lp k c.lines).flatten
theorem ug9 (k n : Nat) {l : List ByteArray} {w : Nat} {s : ByteArray} (h : l[w]? = some s) : jr k n (l.take (w + 1)) = jr k n (l.take w) ++ [(⟨k, n, w⟩, s)] := uq h
theorem yk (k : Nat) {ls : List (List ByteArray)} {n : Nat} {l : List ByteArray} (h : ls[n]? = some l) : lp k (ls.take (n + 1)) = lp k (ls.take n) ++ jr k n l := by
 unfold lp
 rw [uq h, List.flatten_append]; simp
theorem uc9 {t : aj} {k : Nat} {c : ay} (h : t[k]? = some c) : iy (t.take (k + 1)) = iy (t.take k) ++ lp k c.lines := by
 unfold iy
 rw [uq h, List.flatten_append]; simp
theorem ui9 (t : aj) (k : Nat) : iy (t.take k) <+: iy t := ucc (xp _ _ _)
theorem uin (k : Nat) (ls : List (List ByteArray)) (n : Nat) : lp k (ls.take n) <+: lp k ls := ucc (xp _ _ _)
theorem uha (k n : Nat) (l : List ByteArray) (w : Nat) : jr k n (l.take w) <+: jr k n l := xp _ _ _
theorem ud1 {t : aj} {k n : Nat} {c : ay} {l : List ByteArray} (hc : t[k]? = some c) (hl : c.lines[n]? = some l) (w : Nat) : iy (t.take k) ++ lp k (c.lines.take n) ++ jr k n (l.take w) <+: iy t := by
 refine List.IsPrefix.trans ?_ (ui9 t (k + 1))
 rw [uc9 hc, List.append_assoc]
 refine (List.prefix_append_right_inj _).2 (List.IsPrefix.trans ?_ (uin k c.lines (n + 1)))
 rw [yk k hl]
 exact (List.prefix_append_right_inj _).2 (uha k n l w)
end Go.AB
namespace Go.Proofs.YtgffhbbcpgdjjaaDoor
open Go Go.AB
instance : Ty Tryd.prog 3 false 1 := ⟨by kernel_rfl⟩
instance : Zero Tryd.prog 4 (.bool false) := ⟨by kernel_rfl⟩
instance : Ty Tryd.prog 5 false 1 := ⟨by kernel_rfl⟩
instance : Ty Tryd.prog 9 false 1 := ⟨by kernel_rfl⟩
instance : StrT Tryd.prog 9 := ⟨by kernel_rfl⟩
instance : Ty Tryd.prog 22 false 1 := ⟨by kernel_rfl⟩
instance : Elt Tryd.prog 22 121 := ⟨by kernel_rfl⟩
instance : AppT Tryd.prog 22 121 2 32 := ⟨by kernel_rfl⟩
instance : Ty Tryd.prog 24 true 1 := ⟨by kernel_rfl⟩
instance : ZeroC Tryd.prog 24 [.list [] .nil] := ⟨(.agg #[(.slice none 0 0)]), by kernel_rfl, by rfl⟩
instance : Fld Tryd.prog 24 0 0 22 := ⟨by kernel_rfl⟩
instance : Ty Tryd.prog 25 false 1 := ⟨by kernel_rfl⟩
instance : Elt Tryd.prog 25 71 := ⟨by kernel_rfl⟩
instance : AppT Tryd.prog 25 71 2 16 := ⟨by kernel_rfl⟩
instance : Ty Tryd.prog 26 false 1 := ⟨by kernel_rfl⟩
instance : Elt Tryd.prog 26 69 := ⟨by kernel_rfl⟩
instance : AppT Tryd.prog 26 69 6 80 := ⟨by kernel_rfl⟩
instance : Ty Tryd.prog 28 true 4 := ⟨by kernel_rfl⟩
instance : ZeroC Tryd.prog 28 [.list [] .nil, .list [] .nil, .list [] .nil, .list [] .nil] := ⟨(.agg #[(.slice none 0 0), (.slice none 0 0), (.slice none 0 0), (.slice none 0 0)]), by kernel_rfl, by rfl⟩
instance : Bld Tryd.prog 28 [(0, 1), (1, 1), (2, 1), (3, 1)] := ⟨by kernel_rfl⟩
instance : Fld Tryd.prog 28 0 0 24 := ⟨by kernel_rfl⟩
instance : Fld Tryd.prog 28 1 1 25 := ⟨by kernel_rfl⟩
instance : Fld Tryd.prog 28 2 2 25 := ⟨by kernel_rfl⟩
instance : Fld Tryd.prog 28 3 3 26 := ⟨by kernel_rfl⟩
instance : Ty Tryd.prog 36 false 1 := ⟨by kernel_rfl⟩
instance : Elt Tryd.prog 36 54 := ⟨by kernel_rfl⟩
instance : AppT Tryd.prog 36 54 3 24 := ⟨by kernel_rfl⟩
instance : Ty Tryd.prog 47 true 2 := ⟨by kernel_rfl⟩
instance : ZeroC Tryd.prog 47 [.v (.int .i64 0), .v (.int .i64 0)] := ⟨(.agg #[(.int .i64 0), (.int .i64 0)]), by kernel_rfl, by rfl⟩
instance : Bld Tryd.prog 47 [(0, 1), (1, 1)] := ⟨by kernel_rfl⟩
instance : Ty Tryd.prog 52 false 1 := ⟨by kernel_rfl⟩
instance : Elt Tryd.prog 52 36 := ⟨by kernel_rfl⟩
instance : AppT Tryd.prog 52 36 1 24 := ⟨by kernel_rfl⟩
instance : Ty Tryd.prog 54 true 3 := ⟨by kernel_rfl⟩
instance : ZeroC Tryd.prog 54 [.v (.int .i64 0), .v (.int .i64 0), .v (.int .i64 0)] := ⟨(.agg #[(.int .i64 0), (.int .i64 0), (.int .i64 0)]), by kernel_rfl, by rfl⟩
instance : Bld Tryd.prog 54 [(0, 1), (1, 1), (2, 1)] := ⟨by kernel_rfl⟩
instance : Fld Tryd.prog 54 0 0 3 := ⟨by kernel_rfl⟩
instance : Fld Tryd.prog 54 1 1 3 := ⟨by kernel_rfl⟩
instance : Fld Tryd.prog 54 2 2 3 := ⟨by kernel_rfl⟩
instance : Ty Tryd.prog 57 false 1 := ⟨by kernel_rfl⟩
instance : Elt Tryd.prog 57 3 := ⟨by kernel_rfl⟩
instance : AppT Tryd.prog 57 3 1 8 := ⟨by kernel_rfl⟩
instance : Ty Tryd.prog 69 true 6 := ⟨by kernel_rfl⟩
instance : ZeroC Tryd.prog 69 [.v (.int .i64 0), .v (.int .i64 0), .v (.int .i64 0), .v (.int .i64 0), .list [] .nil, .list [] .nil] := ⟨(.agg #[(.int .i64 0), (.int .i64 0), (.int .i64 0), (.int .i64 0), (.slice none 0 0), (.slice none 0 0)]), by kernel_rfl, by rfl⟩
instance : Fld Tryd.prog 69 0 0 3 := ⟨by kernel_rfl⟩
instance : Fld Tryd.prog 69 1 1 3 := ⟨by kernel_rfl⟩
instance : Fld Tryd.prog 69 2 2 3 := ⟨by kernel_rfl⟩
instance : Fld Tryd.prog 69 3 3 3 := ⟨by kernel_rfl⟩
instance : Fld Tryd.prog 69 4 4 36 := ⟨by kernel_rfl⟩
instance : Fld Tryd.prog 69 5 5 36 := ⟨by kernel_rfl⟩
instance : Ty Tryd.prog 71 true 2 := ⟨by kernel_rfl⟩
instance : ZeroC Tryd.prog 71 [.v (.int .i64 0), .v (.int .i64 0)] := ⟨(.agg #[(.int .i64 0), (.int .i64 0)]), by kernel_rfl, by rfl⟩
instance : Fld Tryd.prog 71 0 0 3 := ⟨by kernel_rfl⟩
instance : Fld Tryd.prog 71 1 1 3 := ⟨by kernel_rfl⟩
instance : ZeroC Tryd.prog 82 [.list [] .nil, .list [] .nil, .list [] .nil, .list [] .nil, .list [] .nil, .list [] .nil, .list [] .nil] := ⟨(.agg #[(.slice none 0 0), (.slice none 0 0), (.slice none 0 0), (.slice none 0 0), (.slice none 0 0), (.slice none 0 0), (.slice none 0 0)]), by kernel_rfl, by rfl⟩
instance : Bld Tryd.prog 82 [(0, 4), (4, 1), (5, 1), (6, 1)] := ⟨by kernel_rfl⟩
instance : Fld Tryd.prog 82 0 0 28 := ⟨by kernel_rfl⟩
instance : Fld Tryd.prog 82 1 4 57 := ⟨by kernel_rfl⟩
instance : Fld Tryd.prog 82 2 5 52 := ⟨by kernel_rfl⟩
instance : Fld Tryd.prog 82 3 6 52 := ⟨by kernel_rfl⟩
instance : Ty Tryd.prog 87 false 1 := ⟨by kernel_rfl⟩
instance : Ty Tryd.prog 88 false 1 := ⟨by kernel_rfl⟩
instance : Ty Tryd.prog 89 false 1 := ⟨by kernel_rfl⟩
instance : Ty Tryd.prog 91 true 3 := ⟨by kernel_rfl⟩
instance : ZeroC Tryd.prog 91 [.v .nilFunc, .v .nilFunc, .v .nilFunc] := ⟨(.agg #[.nilFunc, .nilFunc, .nilFunc]), by kernel_rfl, by rfl⟩
instance : Fld Tryd.prog 91 0 0 87 := ⟨by kernel_rfl⟩
instance : Fld Tryd.prog 91 1 1 88 := ⟨by kernel_rfl⟩
instance : Fld Tryd.prog 91 2 2 89 := ⟨by kernel_rfl⟩
instance : Ty Tryd.prog 92 true 6 := ⟨by kernel_rfl⟩
instance : ArrT Tryd.prog 92 2 91 := ⟨by kernel_rfl⟩
instance : Ty Tryd.prog 118 false 1 := ⟨by kernel_rfl⟩
instance : Elt Tryd.prog 118 9 := ⟨by kernel_rfl⟩
instance : AppT Tryd.prog 118 9 1 16 := ⟨by kernel_rfl⟩
instance : Ty Tryd.prog 119 false 1 := ⟨by kernel_rfl⟩
instance : Elt Tryd.prog 119 118 := ⟨by kernel_rfl⟩
instance : AppT Tryd.prog 119 118 1 24 := ⟨by kernel_rfl⟩
instance : Ty Tryd.prog 121 true 2 := ⟨by kernel_rfl⟩
instance : ZeroC Tryd.prog 121 [.v (.int .i64 0), .list [] .nil] := ⟨(.agg #[(.int .i64 0), (.slice none 0 0)]), by kernel_rfl, by rfl⟩
instance : Bld Tryd.prog 121 [(0, 1), (1, 1)] := ⟨by kernel_rfl⟩
instance : Fld Tryd.prog 121 0 0 3 := ⟨by kernel_rfl⟩
instance : Fld Tryd.prog 121 1 1 119 := ⟨by kernel_rfl⟩
instance : MapT Tryd.prog 128 3 4 := ⟨by kernel_rfl⟩
instance : MapT Tryd.prog 145 54 4 := ⟨by kernel_rfl⟩
instance : Elt Tryd.prog 157 5 := ⟨by kernel_rfl⟩
instance : Fun Tryd.prog 6 := ⟨by kernel_rfl⟩
instance : Fun Tryd.prog 7 := ⟨by kernel_rfl⟩
instance : Fun Tryd.prog 8 := ⟨by kernel_rfl⟩
instance : Fun Tryd.prog 9 := ⟨by kernel_rfl⟩
instance : Fun Tryd.prog 10 := ⟨by kernel_rfl⟩
instance : Fun Tryd.prog 11 := ⟨by kernel_rfl⟩
instance : Fun Tryd.prog 12 := ⟨by kernel_rfl⟩
instance : Fun Tryd.prog 13 := ⟨by kernel_rfl⟩
instance : Fun Tryd.prog 14 := ⟨by kernel_rfl⟩
instance : Fun Tryd.prog 15 := ⟨by kernel_rfl⟩
instance : Fun Tryd.prog 16 := ⟨by kernel_rfl⟩
instance : Fun Tryd.prog 17 := ⟨by kernel_rfl⟩
instance : Fun Tryd.prog 18 := ⟨by kernel_rfl⟩
instance : Fun Tryd.prog 19 := ⟨by kernel_rfl⟩
instance : Fun Tryd.prog 20 := ⟨by kernel_rfl⟩
instance : Fun Tryd.prog 21 := ⟨by kernel_rfl⟩
instance : Fun Tryd.prog 33 := ⟨by kernel_rfl⟩
instance : Fun Tryd.prog 34 := ⟨by kernel_rfl⟩
instance : Fun Tryd.prog 35 := ⟨by kernel_rfl⟩
instance : Fun Tryd.prog 36 := ⟨by kernel_rfl⟩
instance : Fun Tryd.prog 37 := ⟨by kernel_rfl⟩
instance : Fun Tryd.prog 38 := ⟨by kernel_rfl⟩
instance : Fun Tryd.prog 39 := ⟨by kernel_rfl⟩
instance : Fun Tryd.prog 40 := ⟨by kernel_rfl⟩
instance : Fun Tryd.prog 41 := ⟨by kernel_rfl⟩
instance : Fun Tryd.prog 42 := ⟨by kernel_rfl⟩
instance : Fun Tryd.prog 43 := ⟨by kernel_rfl⟩
instance : Fun Tryd.prog 44 := ⟨by kernel_rfl⟩
instance : Fun Tryd.prog 45 := ⟨by kernel_rfl⟩
instance : Fun Tryd.prog 46 := ⟨by kernel_rfl⟩
instance : Fun Tryd.prog 63 := ⟨by kernel_rfl⟩
instance : Fun Tryd.prog 64 := ⟨by kernel_rfl⟩
instance : Fun Tryd.prog 65 := ⟨by kernel_rfl⟩
instance : Fun Tryd.prog 66 := ⟨by kernel_rfl⟩
instance : Fun Tryd.prog 67 := ⟨by kernel_rfl⟩
instance : Fun Tryd.prog 68 := ⟨by kernel_rfl⟩
instance : Fun Tryd.prog 69 := ⟨by kernel_rfl⟩
instance : Fun Tryd.prog 70 := ⟨by kernel_rfl⟩
instance : Fun Tryd.prog 71 := ⟨by kernel_rfl⟩
instance : Fun Tryd.prog 72 := ⟨by kernel_rfl⟩
instance : Fun Tryd.prog 73 := ⟨by kernel_rfl⟩
instance : Fun Tryd.prog 74 := ⟨by kernel_rfl⟩
instance : Fun Tryd.prog 75 := ⟨by kernel_rfl⟩
instance : Fun Tryd.prog 76 := ⟨by kernel_rfl⟩
instance : Fun Tryd.prog 77 := ⟨by kernel_rfl⟩
instance : Fun Tryd.prog 81 := ⟨by kernel_rfl⟩
instance : Fun Tryd.prog 86 := ⟨by kernel_rfl⟩
instance : Fun Tryd.prog 87 := ⟨by kernel_rfl⟩
instance : Fun Tryd.prog 88 := ⟨by kernel_rfl⟩
instance : Fun Tryd.prog 89 := ⟨by kernel_rfl⟩
instance : Fun Tryd.prog 90 := ⟨by kernel_rfl⟩
instance : Fun Tryd.prog 91 := ⟨by kernel_rfl⟩
instance : Fun Tryd.prog 93 := ⟨by kernel_rfl⟩
instance : Fun Tryd.prog 94 := ⟨by kernel_rfl⟩
instance : Fun Tryd.prog 95 := ⟨by kernel_rfl⟩
instance : Fun Tryd.prog 96 := ⟨by kernel_rfl⟩
instance : Fun Tryd.prog 97 := ⟨by kernel_rfl⟩
instance : Fun Tryd.prog 102 := ⟨by kernel_rfl⟩
instance : Fun Tryd.prog 103 := ⟨by kernel_rfl⟩
instance : Fun Tryd.prog 104 := ⟨by kernel_rfl⟩
instance : Fun Tryd.prog 105 := ⟨by kernel_rfl⟩
instance : Fun Tryd.prog 106 := ⟨by kernel_rfl⟩
instance : Fun Tryd.prog 109 := ⟨by kernel_rfl⟩
instance : Fun Tryd.prog 111 := ⟨by kernel_rfl⟩
instance : Fun Tryd.prog 145 := ⟨by kernel_rfl⟩
instance : Fun Tryd.prog 146 := ⟨by kernel_rfl⟩
instance : Fun Tryd.prog 147 := ⟨by kernel_rfl⟩
instance : Fun Tryd.prog 148 := ⟨by kernel_rfl⟩
instance : Fun Tryd.prog 149 := ⟨by kernel_rfl⟩
instance : Fun Tryd.prog 150 := ⟨by kernel_rfl⟩
end Go.Proofs.YtgffhbbcpgdjjaaDoor
namespace Go.Proofs.YtgffhbbcpgdjjaaDoor
set_option maxRecDepth 10000
open Go.RowKit Go.AB
open Go.PB (ay aj PlaceD bh bj bi)

end Go.Proofs.YtgffhbbcpgdjjaaDoor
namespace Go.AB
open Go Go.RowKit
open Go.AB.Enc (cells)
open Go.PB (ay aj PlaceD bh bj bi)
structure j5 where
 ch : Int
 fr : Int
 tt : Int
 au : Int
 fi : Int
 deriving DecidableEq
structure ujn where
 id : Int
 ss : List j5
 deriving DecidableEq
structure RowD where
 ch : Int
 ln : Int
 au : Int
 nu : Int
 ws : Int
 deriving DecidableEq
/-- numbers of an edition that is read out of memory -/
structure SFit (s : j5) : Prop where
 ch : I64 s.ch
 fr : I64 s.fr
 tt : I64 s.tt
 au : I64 s.au
 fi : I64 s.fi
structure EFit (e : ujn) : Prop where
 id : I64 e.id
 len : e.ss.length ≤ 9223372036854775807
 ss : ∀ s ∈ e.ss, SFit s
/-! ### What the functions compute -/
/-- so many lines has a chapter -/
def kr (t : aj) (c : Int) : Nat := match t[c.toNat]? with
 | some x => x.lines.length
 | none => 0
/-- the error of a text -/
def ie (t : aj) : Int := bif dl t then 0 else 10
/-- what is so of a valid stretch -/
structure SOk (s : j5) : Prop where
 fr : 0 ≤ s.fr
 lt : s.fr < s.tt
 tt : s.tt ≤ 10
 ch : 0 ≤ s.ch ∧ s.ch ≤ 5
 au : 1 ≤ s.au ∧ s.au ≤ 999
 fi : 1 ≤ s.fi ∧ s.fi + (s.tt - s.fr) ≤ 1000
theorem jo {t : aj} (h : dl t = true) : 1 ≤ t.length ∧ t.length ≤ 6 ∧ ∀ c ∈ t, 1 ≤ c.lines.length ∧ c.lines.length ≤ 10 ∧ ∀ l ∈ c.lines, 1 ≤ l.length ∧ l.length ≤ 10 := by
 simp only [dl, Bool.and_eq_true, inB_true, List.all_eq_true, i9, ke] at h
 refine ⟨by omega, by omega, fun c hc => ?_⟩
 have := h.1.2 c hc
 refine ⟨by omega, by omega, fun l hl => ?_⟩
 have := this.2 l hl
 omega
theorem ubi {t : aj} {c : Int} {k : Nat} {x : ay} (hc : c = (k : Int)) (hx : t[k]? = some x) : kr t c = x.lines.length := by
 subst hc; simp [kr, hx]
end Go.AB
namespace Go.AB
/-- where the first one stands of which it is so; -1 if there is none -/
def nm {α : Type} (p : α → Bool) (xs : List α) : Int := match xs.findIdx? p with
 | some n => (n : Int)
 | none => -1
theorem x4 {α : Type} {p : α → Bool} {xs : List α} (h : ∀ x ∈ xs, p x = false) : nm p xs = -1 := by
 have : xs.findIdx? p = none := List.findIdx?_eq_none_iff.2 h
 simp [nm, this]
theorem xz {α : Type} {p : α → Bool} {xs : List α} {k : Nat} {x : α} (hx : xs[k]? = some x) (hp : p x = true) (h : ∀ y ∈ xs.take k, p y = false) : nm p xs = k := by
 have : xs.findIdx? p = some k := by
  rw [List.findIdx?_eq_some_iff_getElem]
  obtain ⟨hlt, rfl⟩ := List.getElem?_eq_some_iff.1 hx
  refine ⟨hlt, hp, fun j hj => ?_⟩
  have := h xs[j] (List.mem_of_getElem? (i := j) (by rw [List.getElem?_take, if_pos hj, List.getElem?_eq_getElem (by omega)]))
  simp [this]
 simp [nm, this]
theorem x5 {α : Type} {p : α → Bool} {xs : List α} : decide (0 ≤ nm p xs) = xs.any p := by
 unfold nm
 cases h : xs.findIdx? p with
 | none =>
  have h1 := List.findIdx?_eq_none_iff.1 h
  have : xs.any p = false := by rw [List.any_eq_false]; intro x hx; simp [h1 x hx]
  rw [this]; simp
 | some n =>
  rw [List.findIdx?_eq_some_iff_getElem] at h
  obtain ⟨hlt, hp, _⟩ := h
  have : xs.any p = true := List.any_eq_true.2 ⟨_, List.getElem_mem hlt, hp⟩
  rw [this]; simp
def lv (n lo hi : Int) : Bool := decide (n < lo) || decide (hi < n)
def uy (lo hi : Int) (xs : List Int) : Bool := !xs.any fun n => lv n lo hi
theorem uge (n lo hi : Int) : (!lv n lo hi) = inB n lo hi := by
 simp only [lv, inB, Bool.not_or]
 rw [← decide_not, ← decide_not]
 congr 1 <;> (congr 1; simp)
theorem er {lo hi n : Int} : uy lo hi [n] = inB n lo hi := by rw [← uge]; simp [uy]
end Go.AB
namespace Go.Proofs.YtgffhbbcpgdjjaaDoor
set_option maxRecDepth 10000
open Go.RowKit Go.AB
open Go.AB.Enc (cells)
open Go.PB (ay aj PlaceD bh bj bi)

theorem ujk (xs : List Int) (p : Int → Bool) (k : Nat) (caps : List C) [Fun Tryd.prog k] (hp : ∀ x ∈ xs, Pure Tryd.prog k (.v (.int .i64 x) :: caps) (.v (.bool (p x)))) : Pure Tryd.prog 97 [lst xs, .fn (.func k) caps] (.v (.int .i64 (nm p xs))) := by
 refine dm Tryd.func97 rfl (fun m => .v) fun G nx => ?_
 simp only [Tryd.ntmps97, List.length_cons, List.length_nil, Nat.reduceAdd, Nat.reduceSub]
 refine ct fun hlt => ?_
 dsimp only at hlt
 refine jn 0 (fun hf => ?_)
 replace hf := (fit_lst.1 hf).1
 refine yS fun _ K1 => ?_
 refine yR ?_
 refine yA rfl rfl ?_
 refine yN ?_
 dsimp only [St.put]
 refine K1 _ ?_
 refine yS fun _ K2 => ?_
 refine yS fun _ K3 => ?_
 refine yR ?_
 refine yM rfl rfl ?_
 refine aa rfl (bg rfl rfl (List.length_map _)) ?_
 refine yM rfl rfl ?_
 refine yN ?_
 dsimp only [St.put]
 refine K3 _ ?_
 refine az ?_
 refine cj 9 ?_
 refine zQ ?_
 refine db (G) zX ?_
 dsimp only
 refine c7 (X := Nat) (fun k => k ≤ xs.length ∧ ∀ y ∈ xs.take k, p y = false) (fun k => xs.length - k) (fun k => [(4, .any), (5, .any), (8, .v (.int .i64 (k : Int)))]) (fun k G' => G') 0 rfl ?_ ?_ (fun _ _ h => h) ?_ ?_ ?_
 ·exact ⟨by simp, by simp⟩
 ·exact zF
 ·rintro k hI
  exact zL
 ·exact fun _ _ _ _ h => .inl h
 rintro k hI
 dsimp only at hI ⊢
 refine yS fun _ K4 => ?_
 refine yR ?_
 refine aa rfl (cn rfl rfl rfl) ?_
 refine yN ?_
 dsimp only [St.put]
 refine K4 _ ?_
 refine yS fun _ K5 => ?_
 refine ak rfl (fun hc => ?_) (fun hc => ?_)
 ·replace hc := of_decide_eq_true hc
  obtain ⟨x, hx⟩ : ∃ x, xs[k]? = some x := cx (by omega)
  refine av ?_
  refine K5 _ ?_
  refine yS fun _ K6 => ?_
  refine az ?_
  refine yS fun _ K7 => ?_
  refine yR ?_
  refine yM rfl rfl ?_
  refine yA rfl rfl ?_
  refine yN ?_
  dsimp only [St.put]
  refine K7 _ ?_
  refine yS fun _ K8 => ?_
  refine yR ?_
  refine yM rfl rfl ?_
  refine yM rfl rfl ?_
  refine yM rfl rfl ?_
  refine aa rfl (bl rfl rfl rfl rfl (bn (by assumption)) (Enc.len _)) ?_
  refine yL rfl rfl rfl ?_
  try dsimp only [St.put]
  refine af rfl (ba rfl rfl rfl (hp x (ez hx)) ?_)
  refine yN ?_
  dsimp only [St.put]
  refine K8 _ ?_
  refine ak rfl (fun hc => ?_) (fun hc => ?_)
  ·skip
   refine yS fun _ K9 => ?_
   refine yR ?_
   refine yM rfl rfl ?_
   refine yA rfl rfl ?_
   refine yN ?_
   dsimp only [St.put]
   refine K9 _ ?_
   refine ax ?_
   refine bp rfl (by constructor) zN zS ?_
   exact vi (xz hx hc hI.2).symm
  skip
  refine av ?_
  refine K6 _ ?_
  refine yR ?_
  refine aa rfl (br rfl rfl rfl (by omega)) ?_
  refine yM rfl rfl ?_
  refine yN ?_
  dsimp only [St.put]
  exact ⟨k + 1, by omega, ⟨by omega, fun y hy => by
    rw [List.take_add_one, hx] at hy
    simp only [Option.toList_some, List.mem_append, List.mem_singleton] at hy
    rcases hy with hy | rfl
    ·exact hI.2 y hy
    simpa using hc⟩, ⟨⟨rfl, rfl⟩, zF, zB, zN, zX⟩⟩
 try replace hc := of_decide_eq_false hc
 refine cr ?_
 refine K2 _ ?_
 refine yS fun _ K10 => ?_
 refine yR ?_
 refine yA rfl rfl ?_
 refine yN ?_
 dsimp only [St.put]
 refine K10 _ ?_
 refine ax ?_
 refine bp rfl (by constructor) zN zS ?_
 exact vi (by
  rw [x4]
  have := hI.2
  rwa [f8 (by omega)] at this)

theorem udk (xs : List Int) (p : Int → Bool) (k : Nat) (caps : List C) [Fun Tryd.prog k] (hp : ∀ x ∈ xs, Pure Tryd.prog k (.v (.int .i64 x) :: caps) (.v (.bool (p x)))) : Pure Tryd.prog 74 [lst xs, .fn (.func k) caps] (.v (.bool (xs.any p))) := by
 refine dm Tryd.func74 rfl (fun m => .v) fun G nx => ?_
 simp only [Tryd.ntmps74, List.length_cons, List.length_nil, Nat.reduceAdd, Nat.reduceSub]
 refine ct fun hlt => ?_
 dsimp only at hlt
 refine yS fun _ K1 => ?_
 refine yR ?_
 refine yA rfl rfl ?_
 refine yN ?_
 dsimp only [St.put]
 refine K1 _ ?_
 refine yS fun _ K2 => ?_
 refine yR ?_
 refine yM rfl rfl ?_
 refine yM rfl rfl ?_
 try dsimp only [St.put]
 refine af rfl (ba rfl rfl rfl (ujk xs p k caps hp) ?_)
 refine aa rfl (oz rfl rfl rfl) ?_
 refine yA rfl rfl ?_
 refine yN ?_
 dsimp only [St.put]
 refine K2 _ ?_
 refine ax ?_
 refine bp rfl (by constructor) zN zS ?_
 exact vb x5

end Go.Proofs.YtgffhbbcpgdjjaaDoor
namespace Go.Proofs.YtgffhbbcpgdjjaaDoor
set_option maxRecDepth 10000
open Go.RowKit Go.AB
open Go.PB (ay aj PlaceD bh bj bi)

theorem oe (n lo hi : Int) : Pure Tryd.prog 93 [.v (.int .i64 n), .v (.int .i64 lo), .v (.int .i64 hi)] (.v (.bool (inB n lo hi))) := by
 refine dm Tryd.func93 rfl (fun m => .v) fun G nx => ?_
 simp only [Tryd.ntmps93, List.length_cons, List.length_nil, Nat.reduceAdd, Nat.reduceSub]
 refine ct fun hlt => ?_
 dsimp only at hlt
 refine yS fun _ K1 => ?_
 refine yR ?_
 refine yA rfl rfl ?_
 refine yN ?_
 dsimp only [St.put]
 refine K1 _ ?_
 refine yS fun _ K2 => ?_
 refine yR ?_
 refine yM rfl rfl ?_
 refine yM rfl rfl ?_
 refine aa rfl (oz rfl rfl rfl) ?_
 refine ep (fun hs => ?_) (fun hs => ?_)
 ·try replace hs := of_decide_eq_true hs
  refine yM rfl rfl ?_
  refine yM rfl rfl ?_
  refine yM rfl rfl ?_
  refine aa rfl (se rfl rfl rfl) ?_
  refine aa rfl (ck rfl rfl (by constructor)) ?_
  refine yA rfl rfl ?_
  refine yN ?_
  dsimp only [St.put]
  refine K2 _ ?_
  refine ax ?_
  refine bp rfl (by constructor) zN zS ?_
  exact vb (by simp [inB, hs]; try omega)
 try replace hs := of_decide_eq_false hs
 refine yM rfl rfl ?_
 refine yK rfl ?_
 refine yK rfl ?_
 refine yK rfl ?_
 refine aa rfl (bz rfl rfl (by constructor)) ?_
 refine yA rfl rfl ?_
 refine yN ?_
 dsimp only [St.put]
 refine K2 _ ?_
 refine ax ?_
 refine bp rfl (by constructor) zN zS ?_
 exact vb (by simp [inB, hs]; try omega)

theorem uje (s : ByteArray) : Pure Tryd.prog 94 [.v (.string s)] (.v (.bool (ko s))) := by
 refine dm Tryd.func94 rfl (fun m => .v) fun G nx => ?_
 simp only [Tryd.ntmps94, List.length_cons, List.length_nil, Nat.reduceAdd, Nat.reduceSub]
 refine ct fun hlt => ?_
 dsimp only at hlt
 refine jn 0 (fun hf => ?_)
 have hm : s.size ≤ 9223372036854775807 := okV_str.1 (fit_v.1 hf)
 clear hf
 refine yS fun _ K1 => ?_
 refine yR ?_
 refine yA rfl rfl ?_
 refine yN ?_
 dsimp only [St.put]
 refine K1 _ ?_
 refine yS fun _ K2 => ?_
 refine yS fun _ K3 => ?_
 refine yR ?_
 refine yA rfl rfl ?_
 refine yN ?_
 dsimp only [St.put]
 refine K3 _ ?_
 refine az ?_
 refine cj 4 ?_
 refine zQ ?_
 refine db (G) zX ?_
 dsimp only
 refine c7 (X := Nat) (fun k => k ≤ s.size ∧ (s.data.toList.take k).all okc = true) (fun k => s.size - k) (fun k => [(3, .v (.int .i64 (k : Int)))]) (fun k G' => G') 0 rfl ?_ ?_ (fun _ _ h => h) ?_ ?_ ?_
 ·exact ⟨by simp, by simp⟩
 ·exact zF
 ·rintro k hI
  exact zL
 ·exact fun _ _ _ _ h => .inl h
 rintro k hI
 dsimp only at hI ⊢
 refine yS fun _ K4 => ?_
 refine yS fun _ K5 => ?_
 refine yR ?_
 refine yM rfl rfl ?_
 refine yM rfl rfl ?_
 refine aa rfl (um rfl rfl) ?_
 refine aa rfl (cn rfl rfl rfl) ?_
 refine yN ?_
 dsimp only [St.put]
 refine K5 _ ?_
 refine ak rfl (fun hc => ?_) (fun hc => ?_)
 ·replace hc := of_decide_eq_true hc
  obtain ⟨b, hb⟩ : ∃ b, s.data.toList[k]? = some b := cx (by simp; omega)
  refine av ?_
  refine K4 _ ?_
  refine yS fun _ K6 => ?_
  refine az ?_
  refine yS fun _ K7 => ?_
  refine yR ?_
  refine yM rfl rfl ?_
  refine yM rfl rfl ?_
  refine aa rfl (ubn rfl rfl rfl rfl (by assumption)) ?_
  refine aa rfl (cn rfl rfl rfl) ?_
  refine ep (fun hs => ?_) (fun hs => ?_)
  ·try replace hs := of_decide_eq_true hs
   refine yM rfl rfl ?_
   refine yK rfl ?_
   refine yK rfl ?_
   refine yK rfl ?_
   refine yK rfl ?_
   refine aa rfl (ck rfl rfl (by constructor)) ?_
   refine yN ?_
   dsimp only [St.put]
   refine K7 _ ?_
   refine ak rfl (fun _ => ?_) (fun h => by cases h)
   refine yS fun _ K8 => ?_
   refine yR ?_
   refine yA rfl rfl ?_
   refine yN ?_
   dsimp only [St.put]
   refine K8 _ ?_
   refine ax ?_
   refine bp rfl (by constructor) zN zS ?_
   exact vb (by
    have : s.data.toList.all okc = false := j0 hb (by simp [okc]; omega)
    simp [ko, this])
  try replace hs := of_decide_eq_false hs
  refine yM rfl rfl ?_
  refine yM rfl rfl ?_
  refine yM rfl rfl ?_
  refine aa rfl (ubn rfl rfl rfl rfl (by assumption)) ?_
  refine aa rfl (gq rfl rfl rfl) ?_
  refine aa rfl (bz rfl rfl (by constructor)) ?_
  refine yN ?_
  dsimp only [St.put]
  refine K7 _ ?_
  refine ak rfl (fun hc => ?_) (fun hc => ?_)
  ·try replace hc := of_decide_eq_true hc
   refine yS fun _ K9 => ?_
   refine yR ?_
   refine yA rfl rfl ?_
   refine yN ?_
   dsimp only [St.put]
   refine K9 _ ?_
   refine ax ?_
   refine bp rfl (by constructor) zN zS ?_
   exact vb (by
    have : s.data.toList.all okc = false := j0 hb (by simp [okc]; omega)
    simp [ko, this])
  try replace hc := of_decide_eq_false hc
  refine av ?_
  refine K6 _ ?_
  refine yR ?_
  refine yM rfl rfl ?_
  refine aa rfl (br rfl rfl rfl (by omega)) ?_
  refine yA rfl rfl ?_
  refine yN ?_
  dsimp only [St.put]
  exact ⟨k + 1, by omega, ⟨by omega, by rw [pr hb, hI.2]; simp [okc]; omega⟩, ⟨⟨rfl, rfl⟩, zF, zB, zN, zX⟩⟩
 try replace hc := of_decide_eq_false hc
 refine cr ?_
 refine K2 _ ?_
 refine yS fun _ K10 => ?_
 refine yR ?_
 refine yM rfl rfl ?_
 refine aa rfl (um rfl rfl) ?_
 try dsimp only [St.put]
 refine af rfl (ba rfl rfl rfl (oe _ _ _) ?_)
 refine yA rfl rfl ?_
 refine yN ?_
 dsimp only [St.put]
 refine K10 _ ?_
 refine ax ?_
 refine bp rfl (by constructor) zN zS ?_
 exact vb (by
  have h1 := hI.2
  rw [List.take_of_length_le (by simp; omega)] at h1
  simp [ko, h1])

theorem uji (a b : List ByteArray) : Pure Tryd.prog 77 [lst a, lst b] (.v (.bool (decide (a = b)))) := by
 refine dm Tryd.func77 rfl (fun m => .v) fun G nx => ?_
 simp only [Tryd.ntmps77, List.length_cons, List.length_nil, Nat.reduceAdd, Nat.reduceSub]
 refine ct fun hlt => ?_
 dsimp only at hlt
 refine jn 0 (fun hf => ?_)
 have hf' : a.length ≤ 9223372036854775807 := (fit_lst.1 hf).1
 clear hf
 refine yS fun _ K1 => ?_
 refine yR ?_
 refine yA rfl rfl ?_
 refine yN ?_
 dsimp only [St.put]
 refine K1 _ ?_
 refine yS fun _ K2 => ?_
 refine yS fun _ K3 => ?_
 refine yR ?_
 refine yM rfl rfl ?_
 refine aa rfl (bg rfl rfl (List.length_map _)) ?_
 refine yM rfl rfl ?_
 refine aa rfl (bg rfl rfl (List.length_map _)) ?_
 refine aa rfl (fj rfl rfl rfl) ?_
 refine yN ?_
 dsimp only [St.put]
 refine K3 _ ?_
 refine ak rfl (fun hc => ?_) (fun hc => ?_)
 ·try replace hc := of_decide_eq_true hc
  refine yS fun _ K4 => ?_
  refine yR ?_
  refine yA rfl rfl ?_
  refine yN ?_
  dsimp only [St.put]
  refine K4 _ ?_
  refine ax ?_
  refine bp rfl (by constructor) zN zS ?_
  exact vb (by
   have : a ≠ b := fun e => by subst e; simp at hc
   simp [this])
 have hab := gw hc
 refine av ?_
 refine K2 _ ?_
 refine yS fun _ K5 => ?_
 refine yS fun _ K6 => ?_
 refine yR ?_
 refine yA rfl rfl ?_
 refine yN ?_
 dsimp only [St.put]
 refine K6 _ ?_
 refine az ?_
 refine cj 6 ?_
 refine zQ ?_
 refine db (G) zX ?_
 dsimp only
 refine c7 (X := Nat) (fun k => k ≤ a.length ∧ a.take k = b.take k) (fun k => a.length - k) (fun k => [(5, .v (.int .i64 (k : Int)))]) (fun k G' => G') 0 rfl ?_ ?_ (fun _ _ h => h) ?_ ?_ ?_
 ·exact ⟨by simp, by simp⟩
 ·exact zF
 ·rintro k hI
  exact zL
 ·exact fun _ _ _ _ h => .inl h
 rintro k hI
 dsimp only at hI ⊢
 refine yS fun _ K7 => ?_
 refine yS fun _ K8 => ?_
 refine yR ?_
 refine yM rfl rfl ?_
 refine yM rfl rfl ?_
 refine aa rfl (bg rfl rfl (List.length_map _)) ?_
 refine aa rfl (cn rfl rfl rfl) ?_
 refine yN ?_
 dsimp only [St.put]
 refine K8 _ ?_
 refine ak rfl (fun hc => ?_) (fun hc => ?_)
 ·replace hc := of_decide_eq_true hc
  obtain ⟨x, hx⟩ : ∃ x, a[k]? = some x := cx (by omega)
  obtain ⟨y, hy⟩ : ∃ y, b[k]? = some y := cx (by omega)
  refine av ?_
  refine K7 _ ?_
  refine yS fun _ K9 => ?_
  refine az ?_
  refine yS fun _ K10 => ?_
  refine f4 [(0, none), (1, none), (2, none), (3, none), (4, none), (5, none), (6, none), (7, none), (8, none)] (fun i => [].contains i) (fun i => [].contains i) (fun i => [0, 1, 2, 4, 5, 6, 8].contains i) [] (by kernel_rfl) (by kernel_rfl) ?_
  refine xM rfl rfl rfl rfl rfl ?_
  refine xM rfl rfl rfl rfl rfl ?_
  try dsimp only [St.put]
  refine ae rfl rfl rfl rfl (bl rfl rfl rfl rfl (bn (by assumption)) (Enc.len _)) ?_
  try dsimp only [St.put]
  refine aw rfl rfl rfl rfl (bv rfl rfl) ?_
  refine xM rfl rfl rfl rfl rfl ?_
  refine xM rfl rfl rfl rfl rfl ?_
  try dsimp only [St.put]
  refine ae rfl rfl rfl rfl (bl rfl rfl rfl rfl (bn (by assumption)) (Enc.len _)) ?_
  try dsimp only [St.put]
  refine aw rfl rfl rfl rfl (bv rfl rfl) ?_
  refine ae rfl rfl rfl rfl (ugt rfl rfl rfl) ?_
  refine bq ?_
  dsimp only [St.put]
  refine K10 _ ?_
  refine ak rfl (fun hc => ?_) (fun hc => ?_)
  ·try replace hc := of_decide_eq_true hc
   refine yS fun _ K11 => ?_
   refine yR ?_
   refine yA rfl rfl ?_
   refine yN ?_
   dsimp only [St.put]
   refine K11 _ ?_
   refine ax ?_
   refine bp rfl (by constructor) zN zS ?_
   exact vb (by
    have := qj hx hy (ia hc)
    simp [this])
  have hxy := gw hc
  refine av ?_
  refine K9 _ ?_
  refine yR ?_
  refine yM rfl rfl ?_
  refine aa rfl (br rfl rfl rfl (by omega)) ?_
  refine yA rfl rfl ?_
  refine yN ?_
  dsimp only [St.put]
  exact ⟨k + 1, by omega, ⟨by omega, ti hI.2 hx (hxy ▸ hy)⟩, ⟨⟨rfl, rfl⟩, zF, zB, zN, zX⟩⟩
 try replace hc := of_decide_eq_false hc
 refine cr ?_
 refine K5 _ ?_
 refine yS fun _ K12 => ?_
 refine yR ?_
 refine yA rfl rfl ?_
 refine yN ?_
 dsimp only [St.put]
 refine K12 _ ?_
 refine ax ?_
 refine bp rfl (by constructor) zN zS ?_
 exact vb (by
  have h1 := hI.2
  rw [f8 (by omega), f8 (by omega)] at h1
  simp [h1])
end Go.Proofs.YtgffhbbcpgdjjaaDoor
namespace Go.AB
open Go Go.RowKit
open Go.AB.Enc (cells)
open Go.PB (ay aj PlaceD bh bj bi)
/-- Data that are read as they are. -/
class FlatV (α : Type) [Enc α] where
 vals : α → List Value
 eq : ∀ x, cells x = (vals x).map C.v
theorem FlatV.agg {α : Type} [Enc α] [FlatV α] {E : Env} {w : World} {x : α} {v : Value} (h : R E w (.agg (cells x)) v) : v = .agg (FlatV.vals x).toArray := by
 rw [FlatV.eq] at h
 obtain ⟨vs, rfl, h1, _⟩ := h.agg_inv
 congr 2
 apply List.ext_getElem?
 intro j
 have hl := h1.1
 simp only [List.length_map] at hl
 by_cases hj : j < (FlatV.vals x).length
 ·have h2 := h1.2 j (.v (FlatV.vals x)[j]) vs[j] (by rw [List.getElem?_map, List.getElem?_eq_getElem hj]; rfl) (List.getElem?_eq_getElem (by omega))
  rw [List.getElem?_eq_getElem (by omega), List.getElem?_eq_getElem hj, h2.v_inv]
 ·rw [List.getElem?_eq_none (by omega), List.getElem?_eq_none (by omega)]
class EqT (P : Program) (t : TypeId) (α : Type) [Enc α] [FlatV α] [DecidableEq α] : Prop where
 guard : ∀ (op : BinOp) (w : World) (X Y : Operand) (xs ys : Array Value), (eqGuard op t X Y (.agg xs) (.agg ys)).run P w = .ok () w
 same : ∀ (w : World) (x y : α), (Op.equalIn 10000 t (.agg (FlatV.vals x).toArray) (.agg (FlatV.vals y).toArray)).run P w = .ok (decide (x = y)) w
section
variable {P : Program} {o : Oper} {st : St}
theorem xk {α : Type} [Enc α] [FlatV α] [DecidableEq α] {t t' : TypeId} [EqT P t α] {X Y : Operand} {x y : α} (ho : o.op = .binOp .eql t X Y t') (hx : evC st X = .agg (cells x)) (hy : evC st Y = .agg (cells y)) : NStep P o st (.v (.bool (decide (x = y)))) := fun E w a hs => by
 have e1 := (hx ▸ hs.ev X).agg_inv
 have e1 := FlatV.agg (hx ▸ hs.ev X)
 have e2 := FlatV.agg (hy ▸ hs.ev Y)
 refine ⟨_, .v rfl, fun w' => ?_⟩
 have hg := EqT.guard (P := P) (t := t) (α := α) .eql w' X Y (FlatV.vals x).toArray (FlatV.vals y).toArray
 have hq := EqT.same (P := P) (t := t) w' x y
 have hb : binOp .eql t (.agg (FlatV.vals x).toArray) (.agg (FlatV.vals y).toArray) = (do pure (.bool (← Op.equal t (.agg (FlatV.vals x).toArray) (.agg (FlatV.vals y).toArray))) : Sem Value) := rfl
 simp only [execOp, ho, e1, e2, Sem.run_bind, hg, Result.andThen_ok, hb, Op.equal, Op.maxDepth, hq]
 rfl
theorem xj {α : Type} [Enc α] [FlatV α] [DecidableEq α] {t t' : TypeId} [EqT P t α] {X Y : Operand} {x y : α} (ho : o.op = .binOp .neq t X Y t') (hx : evC st X = .agg (cells x)) (hy : evC st Y = .agg (cells y)) : NStep P o st (.v (.bool (!decide (x = y)))) := fun E w a hs => by
 have e1 := FlatV.agg (hx ▸ hs.ev X)
 have e2 := FlatV.agg (hy ▸ hs.ev Y)
 refine ⟨_, .v rfl, fun w' => ?_⟩
 have hg := EqT.guard (P := P) (t := t) (α := α) .neq w' X Y (FlatV.vals x).toArray (FlatV.vals y).toArray
 have hq := EqT.same (P := P) (t := t) w' x y
 have hb : binOp .neq t (.agg (FlatV.vals x).toArray) (.agg (FlatV.vals y).toArray) = (do pure (.bool (!(← Op.equal t (.agg (FlatV.vals x).toArray) (.agg (FlatV.vals y).toArray)))) : Sem Value) := rfl
 simp only [execOp, ho, e1, e2, Sem.run_bind, hg, Result.andThen_ok, hb, Op.equal, Op.maxDepth, hq]
 rfl
end
instance : FlatV PlaceD := ⟨fun x => [.int .i64 x.ch, .int .i64 x.ln, .int .i64 x.wd], fun _ => rfl⟩
end Go.AB

namespace Go.Proofs.YtgffhbbcpgdjjaaDoor
open Go Go.RowKit Go.AB
open Go.AB.Enc (cells)
open Go.PB (ay aj PlaceD bh bj bi)
theorem ud5 : Tryd.prog.underlying 54 = some (.struct (Tryd.prog.fieldsOf 54)) := by kernel_rfl
theorem ue5 : Tryd.prog.stoodInHeld 54 = false := by kernel_rfl
instance : EqT Tryd.prog 54 PlaceD where
 guard op w x y xs ys := run_eqGuard_agg w op _ x y xs ys (by kernel_rfl)
 same w x y := by
  obtain ⟨a, b, c⟩ := x
  obtain ⟨a', b', c'⟩ := y
  simp only [FlatV.vals]
  rw [run_equalIn_agg _ _ _ _ _ ud5 ue5]
  by_cases h1 : a = a' <;> by_cases h2 : b = b' <;> by_cases h3 : c = c' <;> simp [go_sem, h1, h2, h3]
end Go.Proofs.YtgffhbbcpgdjjaaDoor
namespace Go.Proofs.YtgffhbbcpgdjjaaDoor
set_option maxRecDepth 10000
open Go.RowKit Go.AB
open Go.PB (ay aj PlaceD bh bj bi)



theorem ujm (t : aj) : Pure Tryd.prog 33 [eu t] (.v (.bool (kg t))) := by
 refine dm Tryd.func33 rfl (fun m => .v) fun G nx => ?_
 simp only [Tryd.ntmps33, List.length_cons, List.length_nil, Nat.reduceAdd, Nat.reduceSub]
 refine ct fun hlt => ?_
 dsimp only at hlt
 refine jn 0 (fun hf => ?_)
 replace hf := rq hf
 refine yS fun _ K1 => ?_
 refine yR ?_
 try dsimp only [St.put]
 refine yB rfl rfl rfl ?_
 refine yA rfl rfl ?_
 refine yN ?_
 dsimp only [St.put]
 refine K1 _ ?_
 refine yS fun _ K2 => ?_
 refine yS fun _ K3 => ?_
 refine yR ?_
 refine yF rfl rfl rfl rfl ?_
 refine yL rfl rfl rfl ?_
 refine aa rfl (bg rfl rfl (List.length_map _)) ?_
 refine aa rfl (gq rfl rfl rfl) ?_
 refine yN ?_
 dsimp only [St.put]
 refine K3 _ ?_
 refine ak rfl (fun hc => ?_) (fun hc => ?_)
 ·skip
  refine yS fun _ K4 => ?_
  refine yR ?_
  refine yA rfl rfl ?_
  refine yN ?_
  dsimp only [St.put]
  refine K4 _ ?_
  refine ax ?_
  refine bp rfl (by constructor) zN zS ?_
  exact vb (by have := of_decide_eq_true (hc : decide _ = true); simp [kg]; omega)
 replace hc := of_decide_eq_false hc
 refine av ?_
 refine K2 _ ?_
 refine yS fun _ K5 => ?_
 refine yS fun _ K6 => ?_
 refine yR ?_
 refine yA rfl rfl ?_
 refine yN ?_
 dsimp only [St.put]
 refine K6 _ ?_
 refine az ?_
 refine cj 6 ?_
 refine zQ ?_
 refine db (G) zX ?_
 dsimp only
 refine c7 (X := Nat) (fun k => k ≤ t.length ∧ (t.take k).any mu = false) (fun k => t.length - k) (fun k => [(3, .v (.int .i64 (k : Int))), (4, .any), (5, .any)]) (fun k G' => G') 0 rfl ?_ ?_ (fun _ _ h => h) ?_ ?_ ?_
 ·exact ⟨by simp, by simp⟩
 ·exact zF
 ·rintro k hI
  exact zL
 ·exact fun _ _ _ _ h => .inl h
 rintro k hI
 dsimp only at hI ⊢
 refine yS fun _ K7 => ?_
 refine yS fun _ K8 => ?_
 refine yR ?_
 refine yM rfl rfl ?_
 refine yF rfl rfl rfl rfl ?_
 refine yL rfl rfl rfl ?_
 refine aa rfl (bg rfl rfl (List.length_map _)) ?_
 refine aa rfl (cn rfl rfl rfl) ?_
 refine yN ?_
 dsimp only [St.put]
 refine K8 _ ?_
 refine ak rfl (fun hc => ?_) (fun hc => ?_)
 ·replace hc := of_decide_eq_true hc
  obtain ⟨c, hx⟩ : ∃ x, t[k]? = some x := cx (by omega)
  have hf1 := hf.lines c (ez hx)
  have hf0 := hf.len
  refine av ?_
  refine K7 _ ?_
  refine yS fun _ K9 => ?_
  refine az ?_
  refine yS fun _ K10 => ?_
  refine yS fun _ K11 => ?_
  refine yR ?_
  refine yF rfl rfl rfl rfl ?_
  refine yL rfl rfl rfl ?_
  refine yM rfl rfl ?_
  refine aa rfl (bl rfl rfl rfl rfl (bn (by assumption)) (Enc.len _)) ?_
  refine yF rfl rfl rfl rfl ?_
  refine yL rfl rfl rfl ?_
  refine aa rfl (bg rfl rfl (List.length_map _)) ?_
  refine aa rfl (gq rfl rfl rfl) ?_
  refine yN ?_
  dsimp only [St.put]
  refine K11 _ ?_
  refine ak rfl (fun hc => ?_) (fun hc => ?_)
  ·skip
   refine yS fun _ K12 => ?_
   refine yR ?_
   refine yA rfl rfl ?_
   refine yN ?_
   dsimp only [St.put]
   refine K12 _ ?_
   refine ax ?_
   refine bp rfl (by constructor) zN zS ?_
   exact vb (by have h0 := of_decide_eq_true (hc : decide _ = true); have := rf (p := mu) hx (by simp [mu]; omega); simp [kg, this])
  have h15 := of_decide_eq_false hc
  refine av ?_
  refine K10 _ ?_
  refine yS fun _ K13 => ?_
  refine yR ?_
  refine yA rfl rfl ?_
  refine yN ?_
  dsimp only [St.put]
  refine K13 _ ?_
  refine az ?_
  refine cj 6 ?_
  refine zQ ?_
  refine db (G) zX ?_
  dsimp only
  refine c7 (X := Nat) (fun n => n ≤ c.lines.length ∧ (c.lines.take n).any o4 = false) (fun n => c.lines.length - n) (fun n => [(4, .v (.int .i64 (n : Int))), (5, .any)]) (fun n G' => G') 0 rfl ?_ ?_ (fun _ _ h => h) ?_ ?_ ?_
  ·exact ⟨by simp, by simp⟩
  ·exact zF
  ·rintro n hI
   exact zL
  ·exact fun _ _ _ _ h => .inl h
  rintro n hJ
  dsimp only at hJ ⊢
  refine yS fun _ K14 => ?_
  refine yS fun _ K15 => ?_
  refine yR ?_
  refine yM rfl rfl ?_
  refine yF rfl rfl rfl rfl ?_
  refine yL rfl rfl rfl ?_
  refine yM rfl rfl ?_
  refine aa rfl (bl rfl rfl rfl rfl (bn (by assumption)) (Enc.len _)) ?_
  refine yF rfl rfl rfl rfl ?_
  refine yL rfl rfl rfl ?_
  refine aa rfl (bg rfl rfl (List.length_map _)) ?_
  refine aa rfl (cn rfl rfl rfl) ?_
  refine yN ?_
  dsimp only [St.put]
  refine K15 _ ?_
  refine ak rfl (fun hc => ?_) (fun hc => ?_)
  ·replace hc := of_decide_eq_true hc
   obtain ⟨l, hl⟩ : ∃ x, c.lines[n]? = some x := cx (by omega)
   have hf3 := hf.words c (ez hx) l (ez hl)
   refine av ?_
   refine K14 _ ?_
   refine yS fun _ K16 => ?_
   refine az ?_
   refine yS fun _ K17 => ?_
   refine yS fun _ K18 => ?_
   refine yR ?_
   refine yF rfl rfl rfl rfl ?_
   refine yL rfl rfl rfl ?_
   refine yM rfl rfl ?_
   refine aa rfl (bl rfl rfl rfl rfl (bn (by assumption)) (Enc.len _)) ?_
   refine yF rfl rfl rfl rfl ?_
   refine yL rfl rfl rfl ?_
   refine yM rfl rfl ?_
   refine aa rfl (bl rfl rfl rfl rfl (bn (by assumption)) (Enc.len _)) ?_
   refine yL rfl rfl rfl ?_
   refine aa rfl (bg rfl rfl (List.length_map _)) ?_
   refine aa rfl (gq rfl rfl rfl) ?_
   refine yN ?_
   dsimp only [St.put]
   refine K18 _ ?_
   refine ak rfl (fun hc => ?_) (fun hc => ?_)
   ·skip
    refine yS fun _ K19 => ?_
    refine yR ?_
    refine yA rfl rfl ?_
    refine yN ?_
    dsimp only [St.put]
    refine K19 _ ?_
    refine ax ?_
    refine bp rfl (by constructor) zN zS ?_
    exact vb (by have h0 := of_decide_eq_true (hc : decide _ = true); have h1 := rf (p := o4) hl (by simp [o4]; omega); have := rf (p := mu) hx (by simp [mu, h1]); simp [kg, this])
   have h16 := of_decide_eq_false hc
   refine av ?_
   refine K17 _ ?_
   refine yS fun _ K20 => ?_
   refine yR ?_
   refine yA rfl rfl ?_
   refine yN ?_
   dsimp only [St.put]
   refine K20 _ ?_
   refine az ?_
   refine cj 6 ?_
   refine zQ ?_
   refine db (G) zX ?_
   dsimp only
   refine c7 (X := Nat) (fun m => m ≤ l.length ∧ (l.take m).any (fun s => decide (40 < s.size)) = false) (fun m => l.length - m) (fun m => [(5, .v (.int .i64 (m : Int)))]) (fun m G' => G') 0 rfl ?_ ?_ (fun _ _ h => h) ?_ ?_ ?_
   ·exact ⟨by simp, by simp⟩
   ·exact zF
   ·rintro m hI
    exact zL
   ·exact fun _ _ _ _ h => .inl h
   rintro m hL
   dsimp only at hL ⊢
   refine yS fun _ K21 => ?_
   refine yS fun _ K22 => ?_
   refine yR ?_
   refine yM rfl rfl ?_
   refine yF rfl rfl rfl rfl ?_
   refine yL rfl rfl rfl ?_
   refine yM rfl rfl ?_
   refine aa rfl (bl rfl rfl rfl rfl (bn (by assumption)) (Enc.len _)) ?_
   refine yF rfl rfl rfl rfl ?_
   refine yL rfl rfl rfl ?_
   refine yM rfl rfl ?_
   refine aa rfl (bl rfl rfl rfl rfl (bn (by assumption)) (Enc.len _)) ?_
   refine yL rfl rfl rfl ?_
   refine aa rfl (bg rfl rfl (List.length_map _)) ?_
   refine aa rfl (cn rfl rfl rfl) ?_
   refine yN ?_
   dsimp only [St.put]
   refine K22 _ ?_
   refine ak rfl (fun hc => ?_) (fun hc => ?_)
   ·replace hc := of_decide_eq_true hc
    obtain ⟨s, hs⟩ : ∃ x, l[m]? = some x := cx (by omega)
    refine av ?_
    refine K21 _ ?_
    refine yS fun _ K23 => ?_
    refine az ?_
    refine yS fun _ K24 => ?_
    refine yR ?_
    refine yF rfl rfl rfl rfl ?_
    refine yL rfl rfl rfl ?_
    refine yM rfl rfl ?_
    refine aa rfl (bl rfl rfl rfl rfl (bn (by assumption)) (Enc.len _)) ?_
    refine yF rfl rfl rfl rfl ?_
    refine yL rfl rfl rfl ?_
    refine yM rfl rfl ?_
    refine aa rfl (bl rfl rfl rfl rfl (bn (by assumption)) (Enc.len _)) ?_
    refine yL rfl rfl rfl ?_
    refine yM rfl rfl ?_
    refine aa rfl (bl rfl rfl rfl rfl (bn (by assumption)) (Enc.len _)) ?_
    refine yL rfl rfl rfl ?_
    refine aa rfl (um rfl rfl) ?_
    refine aa rfl (gq rfl rfl rfl) ?_
    refine yN ?_
    dsimp only [St.put]
    refine K24 _ ?_
    refine ak rfl (fun hc => ?_) (fun hc => ?_)
    ·skip
     refine yS fun _ K25 => ?_
     refine yR ?_
     refine yA rfl rfl ?_
     refine yN ?_
     dsimp only [St.put]
     refine K25 _ ?_
     refine ax ?_
     refine bp rfl (by constructor) zN zS ?_
     exact vb (by have h0 := of_decide_eq_true (hc : decide _ = true); have h2 : l.any (fun s => decide (40 < s.size)) = true := rf hs (by simp; omega); have h1 := rf (p := o4) hl (by simp [o4, h2]); have := rf (p := mu) hx (by simp [mu, h1]); simp [kg, this])
    skip
    refine av ?_
    refine K23 _ ?_
    refine yR ?_
    refine yM rfl rfl ?_
    refine aa rfl (br rfl rfl rfl (by omega)) ?_
    refine yA rfl rfl ?_
    refine yN ?_
    dsimp only [St.put]
    exact ⟨m + 1, by omega, ⟨by omega, by rw [vt hs, hL.2]; have := of_decide_eq_false hc; simp; omega⟩, ⟨⟨rfl, rfl⟩, zF, zB, zN, zX⟩⟩
   try replace hc := of_decide_eq_false hc
   refine cr ?_
   refine K16 _ ?_
   refine yR ?_
   refine yM rfl rfl ?_
   refine aa rfl (br rfl rfl rfl (by omega)) ?_
   refine yA rfl rfl ?_
   refine yN ?_
   dsimp only [St.put]
   exact ⟨n + 1, by omega, ⟨by omega, by rw [vt hl, hJ.2]; have h1 := hL.2; rw [f8 (by omega)] at h1; simp [o4, h1]; omega⟩, ⟨⟨rfl, rfl⟩, zF, zB, zN, zX⟩⟩
  try replace hc := of_decide_eq_false hc
  refine cr ?_
  refine K9 _ ?_
  refine yR ?_
  refine yM rfl rfl ?_
  refine aa rfl (br rfl rfl rfl (by omega)) ?_
  refine yA rfl rfl ?_
  refine yN ?_
  dsimp only [St.put]
  exact ⟨k + 1, by omega, ⟨by omega, by rw [vt hx, hI.2]; have h1 := hJ.2; rw [f8 (by omega)] at h1; simp [mu, h1]; omega⟩, ⟨⟨rfl, rfl⟩, zF, zB, zN, zX⟩⟩
 try replace hc := of_decide_eq_false hc
 refine cr ?_
 refine K5 _ ?_
 refine yS fun _ K26 => ?_
 refine yR ?_
 refine yA rfl rfl ?_
 refine yN ?_
 dsimp only [St.put]
 refine K26 _ ?_
 refine ax ?_
 refine bp rfl (by constructor) zN zS ?_
 exact vb (by have h1 := hI.2; rw [f8 (by omega)] at h1; simp [kg, h1]; omega)
structure Small (t : aj) : Prop where
 len : t.length ≤ 10
 lines : ∀ c ∈ t, c.lines.length ≤ 15
 words : ∀ c ∈ t, ∀ l ∈ c.lines, l.length ≤ 15
 size : ∀ c ∈ t, ∀ l ∈ c.lines, ∀ s ∈ l, s.size ≤ 40
theorem uet {t : aj} (h : kg t = false) : Small t := by
 simp only [kg, mu, o4, Bool.or_eq_false_iff, decide_eq_false_iff_not, List.any_eq_false, Bool.not_eq_true, Bool.or_eq_true, decide_eq_true_eq, not_or] at h
 refine ⟨by omega, fun c hc => ?_, fun c hc l hl => ?_, fun c hc l hl s hs => ?_⟩
 ·have := (h.2 c hc).1; omega
 ·have := ((h.2 c hc).2 l hl).1; omega
 have := ((h.2 c hc).2 l hl).2 s hs; omega
end Go.Proofs.YtgffhbbcpgdjjaaDoor
namespace Go.Proofs.YtgffhbbcpgdjjaaDoor
set_option maxRecDepth 10000
open Go.RowKit Go.AB
open Go.PB (ay aj PlaceD bh bj bi)

theorem ujh (a b : aj) : Pure Tryd.prog 46 [eu a, eu b] (.v (.bool (decide (a = b)))) := by
 refine dm Tryd.func46 rfl (fun m => .v) fun G nx => ?_
 simp only [Tryd.ntmps46, List.length_cons, List.length_nil, Nat.reduceAdd, Nat.reduceSub]
 refine ct fun hlt => ?_
 dsimp only at hlt
 refine jn 0 (fun hf => ?_)
 replace hf := rq hf
 have hf0 := hf.len
 refine yS fun _ K1 => ?_
 refine yR ?_
 try dsimp only [St.put]
 refine yB rfl rfl rfl ?_
 try dsimp only [St.put]
 refine yB rfl rfl rfl ?_
 refine yA rfl rfl ?_
 refine yN ?_
 dsimp only [St.put]
 refine K1 _ ?_
 refine yS fun _ K2 => ?_
 refine yS fun _ K3 => ?_
 refine yR ?_
 refine yF rfl rfl rfl rfl ?_
 refine yL rfl rfl rfl ?_
 refine aa rfl (bg rfl rfl (List.length_map _)) ?_
 refine yF rfl rfl rfl rfl ?_
 refine yL rfl rfl rfl ?_
 refine aa rfl (bg rfl rfl (List.length_map _)) ?_
 refine aa rfl (fj rfl rfl rfl) ?_
 refine yN ?_
 dsimp only [St.put]
 refine K3 _ ?_
 refine ak rfl (fun hc => ?_) (fun hc => ?_)
 ·try replace hc := of_decide_eq_true hc
  refine yS fun _ K4 => ?_
  refine yR ?_
  refine yA rfl rfl ?_
  refine yN ?_
  dsimp only [St.put]
  refine K4 _ ?_
  refine ax ?_
  refine bp rfl (by constructor) zN zS ?_
  exact vb (by
   have : a ≠ b := fun e => by subst e; simp at hc
   simp [this])
 have hl := gw hc
 refine av ?_
 refine K2 _ ?_
 refine yS fun _ K5 => ?_
 refine yS fun _ K6 => ?_
 refine yR ?_
 refine yA rfl rfl ?_
 refine yN ?_
 dsimp only [St.put]
 refine K6 _ ?_
 refine az ?_
 refine cj 9 ?_
 refine zQ ?_
 refine db (G) zX ?_
 dsimp only
 refine c7 (X := Nat) (fun k => k ≤ a.length ∧ a.take k = b.take k) (fun k => a.length - k) (fun k => [(5, .v (.int .i64 (k : Int))), (6, .any), (7, .any), (8, .any)]) (fun k G' => G') 0 rfl ?_ ?_ (fun _ _ h => h) ?_ ?_ ?_
 ·exact ⟨by simp, by simp⟩
 ·exact zF
 ·rintro k hI
  exact zL
 ·exact fun _ _ _ _ h => .inl h
 rintro k hI
 dsimp only at hI ⊢
 refine yS fun _ K7 => ?_
 refine yS fun _ K8 => ?_
 refine yR ?_
 refine yM rfl rfl ?_
 refine yF rfl rfl rfl rfl ?_
 refine yL rfl rfl rfl ?_
 refine aa rfl (bg rfl rfl (List.length_map _)) ?_
 refine aa rfl (cn rfl rfl rfl) ?_
 refine yN ?_
 dsimp only [St.put]
 refine K8 _ ?_
 refine ak rfl (fun hc => ?_) (fun hc => ?_)
 ·replace hc := of_decide_eq_true hc
  obtain ⟨x, hx⟩ : ∃ x, a[k]? = some x := cx (by omega)
  obtain ⟨y, hy⟩ : ∃ y, b[k]? = some y := cx (by omega)
  have hf1 := hf.lines x (ez hx)
  refine av ?_
  refine K7 _ ?_
  refine yS fun _ K9 => ?_
  refine az ?_
  refine yS fun _ K10 => ?_
  refine f4 [(0, none), (1, none), (2, none), (3, none), (4, none), (5, none), (6, none), (7, none), (8, none), (9, none), (10, some 11), (12, none), (13, none)] (fun i => [13].contains i) (fun i => [10, 11, 12, 13].contains i) (fun i => [0, 2, 3, 5, 7, 8].contains i) [] (by kernel_rfl) (by kernel_rfl) ?_
  refine ae rfl rfl rfl rfl (cb rfl rfl rfl) ?_
  try dsimp only [St.put]
  refine aw rfl rfl rfl rfl (bv rfl rfl) ?_
  refine xM rfl rfl rfl rfl rfl ?_
  try dsimp only [St.put]
  refine ae rfl rfl rfl rfl (bl rfl rfl rfl rfl (bn (by assumption)) (Enc.len _)) ?_
  try dsimp only [St.put]
  refine aw rfl rfl rfl rfl (d9 rfl rfl (Enc.len _)) ?_
  refine ae rfl rfl rfl rfl (cb rfl rfl rfl) ?_
  try dsimp only [St.put]
  refine aw rfl rfl rfl rfl (bv rfl rfl) ?_
  refine xM rfl rfl rfl rfl rfl ?_
  try dsimp only [St.put]
  refine ae rfl rfl rfl rfl (bl rfl rfl rfl rfl (bn (by assumption)) (Enc.len _)) ?_
  try dsimp only [St.put]
  refine aw rfl rfl rfl rfl (d9 rfl rfl (Enc.len _)) ?_
  refine ij ?_
  refine ude rfl rfl rfl rfl rfl rfl rfl rfl (by decide) (by simp) ?_
  try dsimp only [St.put]
  refine g8 rfl rfl rfl (dt rfl rfl rfl zG rfl rfl (by rfl) ⟨zD, ?_⟩)
  try dsimp only [St.put]
  refine gt rfl rfl rfl rfl (dt rfl rfl rfl zG rfl rfl (by rfl) ?_)
  refine ii ?_
  dsimp only [St.put]
  refine K10 _ ?_
  refine eo (i := 6) rfl zG zC ?_
  refine eo (i := 7) rfl zG zC ?_
  dsimp only
  refine yS fun _ K11 => ?_
  refine yS fun _ K12 => ?_
  refine yR ?_
  refine yF rfl rfl rfl rfl ?_
  refine yL rfl rfl rfl ?_
  refine yF rfl rfl rfl rfl ?_
  refine yL rfl rfl rfl ?_
  refine aa rfl (fj rfl rfl rfl) ?_
  refine ep (fun hs => ?_) (fun hs => ?_)
  ·try replace hs := of_decide_eq_true hs
   refine yM rfl rfl ?_
   refine yK rfl ?_
   refine yK rfl ?_
   refine yK rfl ?_
   refine yK rfl ?_
   refine yK rfl ?_
   refine yK rfl ?_
   refine yK rfl ?_
   refine aa rfl (ck rfl rfl (by constructor)) ?_
   refine yN ?_
   dsimp only [St.put]
   refine K12 _ ?_
   refine ak rfl (fun _ => ?_) (fun h => by cases h)
   refine yS fun _ K13 => ?_
   refine yR ?_
   refine yA rfl rfl ?_
   refine yN ?_
   dsimp only [St.put]
   refine K13 _ ?_
   refine ax ?_
   refine bp rfl (by constructor) zN zS ?_
   exact vb (by
    have := qj hx hy (fun e => by subst e; simp_all)
    simp [this])
  try replace hs := of_decide_eq_false hs
  refine yM rfl rfl ?_
  refine yF rfl rfl rfl rfl ?_
  refine yL rfl rfl rfl ?_
  refine aa rfl (bg rfl rfl (List.length_map _)) ?_
  refine yF rfl rfl rfl rfl ?_
  refine yL rfl rfl rfl ?_
  refine aa rfl (bg rfl rfl (List.length_map _)) ?_
  refine aa rfl (fj rfl rfl rfl) ?_
  refine aa rfl (bz rfl rfl (by constructor)) ?_
  refine yN ?_
  dsimp only [St.put]
  refine K12 _ ?_
  refine ak rfl (fun hc => ?_) (fun hc => ?_)
  ·try replace hc := of_decide_eq_true hc
   refine yS fun _ K14 => ?_
   refine yR ?_
   refine yA rfl rfl ?_
   refine yN ?_
   dsimp only [St.put]
   refine K14 _ ?_
   refine ax ?_
   refine bp rfl (by constructor) zN zS ?_
   exact vb (by
    have := qj hx hy (fun e => by subst e; simp_all)
    simp [this])
  have hid := gw hs
  have hll := gw hc
  refine av ?_
  refine K11 _ ?_
  refine yS fun _ K15 => ?_
  refine yR ?_
  refine yA rfl rfl ?_
  refine yN ?_
  dsimp only [St.put]
  refine K15 _ ?_
  refine az ?_
  refine cj 9 ?_
  refine zQ ?_
  refine db (G) zX ?_
  dsimp only
  refine c7 (X := Nat) (fun n => n ≤ x.lines.length ∧ x.lines.take n = y.lines.take n) (fun n => x.lines.length - n) (fun n => [(8, .v (.int .i64 (n : Int)))]) (fun n G' => G') 0 rfl ?_ ?_ (fun _ _ h => h) ?_ ?_ ?_
  ·exact ⟨by simp, by simp⟩
  ·exact zF
  ·rintro n hI
   exact zL
  ·exact fun _ _ _ _ h => .inl h
  rintro n hJ
  dsimp only at hJ ⊢
  refine yS fun _ K16 => ?_
  refine yS fun _ K17 => ?_
  refine yR ?_
  refine yM rfl rfl ?_
  refine yF rfl rfl rfl rfl ?_
  refine yL rfl rfl rfl ?_
  refine aa rfl (bg rfl rfl (List.length_map _)) ?_
  refine aa rfl (cn rfl rfl rfl) ?_
  refine yN ?_
  dsimp only [St.put]
  refine K17 _ ?_
  refine ak rfl (fun hc => ?_) (fun hc => ?_)
  ·replace hc := of_decide_eq_true hc
   obtain ⟨lx, hlx⟩ : ∃ l, x.lines[n]? = some l := cx (by omega)
   obtain ⟨ly, hly⟩ : ∃ l, y.lines[n]? = some l := cx (by omega)
   refine av ?_
   refine K16 _ ?_
   refine yS fun _ K18 => ?_
   refine az ?_
   refine yS fun _ K19 => ?_
   refine f4 [(0, none), (1, none), (2, none), (3, none), (4, none), (5, none), (6, none), (7, none), (8, none), (9, none), (10, none), (11, none)] (fun i => [10].contains i) (fun i => [10].contains i) (fun i => [0, 2, 3, 5, 7, 8, 11].contains i) [] (by kernel_rfl) (by kernel_rfl) ?_
   refine ae rfl rfl rfl rfl (cb rfl rfl rfl) ?_
   try dsimp only [St.put]
   refine aw rfl rfl rfl rfl (bv rfl rfl) ?_
   refine xM rfl rfl rfl rfl rfl ?_
   try dsimp only [St.put]
   refine ae rfl rfl rfl rfl (bl rfl rfl rfl rfl (bn (by assumption)) (Enc.len _)) ?_
   try dsimp only [St.put]
   refine aw rfl rfl rfl rfl (bv rfl rfl) ?_
   refine ae rfl rfl rfl rfl (cb rfl rfl rfl) ?_
   try dsimp only [St.put]
   refine aw rfl rfl rfl rfl (bv rfl rfl) ?_
   refine xM rfl rfl rfl rfl rfl ?_
   try dsimp only [St.put]
   refine ae rfl rfl rfl rfl (bl rfl rfl rfl rfl (bn (by assumption)) (Enc.len _)) ?_
   try dsimp only [St.put]
   refine aw rfl rfl rfl rfl (bv rfl rfl) ?_
   refine ij ?_
   try dsimp only [St.put]
   refine gt rfl rfl rfl rfl (ba rfl rfl rfl (uji _ _) ?_)
   refine di rfl rfl rfl rfl (dv rfl rfl) ?_
   refine ii ?_
   dsimp only [St.put]
   refine K19 _ ?_
   refine ak rfl (fun hc => ?_) (fun hc => ?_)
   ·try replace hc := of_decide_eq_true hc
    refine yS fun _ K20 => ?_
    refine yR ?_
    refine yA rfl rfl ?_
    refine yN ?_
    dsimp only [St.put]
    refine K20 _ ?_
    refine ax ?_
    refine bp rfl (by constructor) zN zS ?_
    exact vb (by
     have h1 := qj hlx hly (by simpa using hc)
     have := qj hx hy (fun e => by subst e; exact h1 rfl)
     simp [this])
   try replace hc := of_decide_eq_false hc
   refine av ?_
   refine K18 _ ?_
   refine yR ?_
   refine yM rfl rfl ?_
   refine aa rfl (br rfl rfl rfl (by omega)) ?_
   refine yA rfl rfl ?_
   refine yN ?_
   dsimp only [St.put]
   exact ⟨n + 1, by omega, ⟨by omega, ti hJ.2 hlx ((by simpa using hc : lx = ly) ▸ hly)⟩, ⟨⟨rfl, rfl⟩, zF, zB, zN, zX⟩⟩
  try replace hc := of_decide_eq_false hc
  refine cr ?_
  refine K9 _ ?_
  refine yR ?_
  refine yM rfl rfl ?_
  refine aa rfl (br rfl rfl rfl (by omega)) ?_
  refine yA rfl rfl ?_
  refine yN ?_
  dsimp only [St.put]
  exact ⟨k + 1, by omega, ⟨by omega, ti hI.2 hx ((show x = y by
   have h1 := hJ.2
   rw [f8 (by omega), f8 (by omega)] at h1
   cases x; cases y; simp_all) ▸ hy)⟩, ⟨⟨rfl, rfl⟩, zF, zB, zN, zX⟩⟩
 try replace hc := of_decide_eq_false hc
 refine cr ?_
 refine K5 _ ?_
 refine yS fun _ K21 => ?_
 refine yR ?_
 refine yA rfl rfl ?_
 refine yN ?_
 dsimp only [St.put]
 refine K21 _ ?_
 refine ax ?_
 refine bp rfl (by constructor) zN zS ?_
 exact vb (by
  have h1 := hI.2
  rw [f8 (by omega), f8 (by omega)] at h1
  simp [h1])
end Go.Proofs.YtgffhbbcpgdjjaaDoor
namespace Go.Proofs.YtgffhbbcpgdjjaaDoor
set_option maxRecDepth 10000
open Go.RowKit Go.AB
open Go.PB (ay aj PlaceD bh bj bi)

theorem ujg (t : aj) : Pure Tryd.prog 71 [eu t] (.v (.bool (dl t))) := by
 refine dm Tryd.func71 rfl (fun m => .v) fun G nx => ?_
 simp only [Tryd.ntmps71, List.length_cons, List.length_nil, Nat.reduceAdd, Nat.reduceSub]
 refine ct fun hlt => ?_
 dsimp only at hlt
 refine jn 0 (fun hf => ?_)
 replace hf := rq hf
 have hf0 := hf.len
 refine yS fun _ K1 => ?_
 refine yR ?_
 try dsimp only [St.put]
 refine yB rfl rfl rfl ?_
 refine yA rfl rfl ?_
 refine yN ?_
 dsimp only [St.put]
 refine K1 _ ?_
 refine yS fun _ K2 => ?_
 refine yS fun _ K3 => ?_
 refine yR ?_
 refine yF rfl rfl rfl rfl ?_
 refine yL rfl rfl rfl ?_
 refine aa rfl (bg rfl rfl (List.length_map _)) ?_
 try dsimp only [St.put]
 refine af rfl (ba rfl rfl rfl (oe _ _ _) ?_)
 refine aa rfl (dv rfl rfl) ?_
 refine yN ?_
 dsimp only [St.put]
 refine K3 _ ?_
 refine ak rfl (fun hc => ?_) (fun hc => ?_)
 ·try replace hc := of_decide_eq_true hc
  refine yS fun _ K4 => ?_
  refine yR ?_
  refine yA rfl rfl ?_
  refine yN ?_
  dsimp only [St.put]
  refine K4 _ ?_
  refine ax ?_
  refine bp rfl (by constructor) zN zS ?_
  exact vb (by simp at hc; simp [dl, hc])
 have hc0 : inB t.length 1 6 = true := by simpa using hc
 clear hc
 refine av ?_
 refine K2 _ ?_
 refine yS fun _ K5 => ?_
 refine yS fun _ K6 => ?_
 refine yR ?_
 refine yA rfl rfl ?_
 refine yN ?_
 dsimp only [St.put]
 refine K6 _ ?_
 refine az ?_
 refine cj 8 ?_
 refine zQ ?_
 refine db (G) zX ?_
 dsimp only
 refine c7 (X := Nat) (fun i => i ≤ t.length ∧ (t.take i).all i9 = true ∧ ((t.take i).map (·.id)).Nodup) (fun i => t.length - i) (fun i => [(3, .v (.int .i64 (i : Int))), (4, .any), (5, .any), (6, .any), (7, .any)]) (fun i G' => G') 0 rfl ?_ ?_ (fun _ _ h => h) ?_ ?_ ?_
 ·exact ⟨by simp, by simp, by simp⟩
 ·exact zF
 ·rintro i hI
  exact zL
 ·exact fun _ _ _ _ h => .inl h
 rintro i hI
 dsimp only at hI ⊢
 refine yS fun _ K7 => ?_
 refine yS fun _ K8 => ?_
 refine yR ?_
 refine yM rfl rfl ?_
 refine yF rfl rfl rfl rfl ?_
 refine yL rfl rfl rfl ?_
 refine aa rfl (bg rfl rfl (List.length_map _)) ?_
 refine aa rfl (cn rfl rfl rfl) ?_
 refine yN ?_
 dsimp only [St.put]
 refine K8 _ ?_
 refine ak rfl (fun hc => ?_) (fun hc => ?_)
 ·replace hc := of_decide_eq_true hc
  obtain ⟨c, hx⟩ : ∃ x, t[i]? = some x := cx (by omega)
  have hf1 := hf.lines c (ez hx)
  refine av ?_
  refine K7 _ ?_
  refine yS fun _ K9 => ?_
  refine az ?_
  refine yS fun _ K10 => ?_
  refine yR ?_
  refine yF rfl rfl rfl rfl ?_
  refine yL rfl rfl rfl ?_
  refine yM rfl rfl ?_
  refine aa rfl (bl rfl rfl rfl rfl (bn (by assumption)) (Enc.len _)) ?_
  refine yE rfl rfl rfl ?_
  try dsimp only [St.put]
  refine af rfl (eh rfl ?_)
  try dsimp only [St.put]
  refine af rfl (dt rfl rfl rfl zG rfl rfl (by rfl) ?_)
  refine yN ?_
  dsimp only [St.put]
  refine K10 _ ?_
  refine eo (i := 4) rfl zG zC ?_
  dsimp only
  refine yS fun _ K11 => ?_
  refine yS fun _ K12 => ?_
  refine yR ?_
  refine yF rfl rfl rfl rfl ?_
  refine yL rfl rfl rfl ?_
  try dsimp only [St.put]
  refine af rfl (ba rfl rfl rfl (oe _ _ _) ?_)
  refine aa rfl (dv rfl rfl) ?_
  refine yM rfl rfl ?_
  refine ep (fun hs => ?_) (fun hs => ?_)
  ·try replace hs := of_decide_eq_true hs
   refine yK rfl ?_
   refine yK rfl ?_
   refine yK rfl ?_
   refine yK rfl ?_
   refine yK rfl ?_
   refine aa rfl (ck rfl rfl (by constructor)) ?_
   refine yN ?_
   dsimp only [St.put]
   refine K12 _ ?_
   refine ak rfl (fun _ => ?_) (fun h => by cases h)
   skip
   refine yS fun _ K13 => ?_
   refine yR ?_
   refine yA rfl rfl ?_
   refine yN ?_
   dsimp only [St.put]
   refine K13 _ ?_
   refine ax ?_
   refine bp rfl (by constructor) zN zS ?_
   exact vb (by
    have : t.all i9 = false := j0 hx (by simp_all [i9])
    simp [dl, this])
  try replace hs := of_decide_eq_false hs
  refine yF rfl rfl rfl rfl ?_
  refine yL rfl rfl rfl ?_
  refine aa rfl (bg rfl rfl (List.length_map _)) ?_
  try dsimp only [St.put]
  refine af rfl (ba rfl rfl rfl (oe _ _ _) ?_)
  refine aa rfl (dv rfl rfl) ?_
  refine aa rfl (bz rfl rfl (by constructor)) ?_
  refine yN ?_
  dsimp only [St.put]
  refine K12 _ ?_
  refine ak rfl (fun hc => ?_) (fun hc => ?_)
  ·skip
   refine yS fun _ K14 => ?_
   refine yR ?_
   refine yA rfl rfl ?_
   refine yN ?_
   dsimp only [St.put]
   refine K14 _ ?_
   refine ax ?_
   refine bp rfl (by constructor) zN zS ?_
   exact vb (by
    have : t.all i9 = false := j0 hx (by simp_all [i9])
    simp [dl, this])
  have hid : inB c.id 0 9999 = true := by simpa using hs
  have hln : inB c.lines.length 1 10 = true := by simpa using hc
  refine av ?_
  refine K11 _ ?_
  refine yS fun _ K15 => ?_
  refine yS fun _ K16 => ?_
  refine yR ?_
  refine yA rfl rfl ?_
  refine yN ?_
  dsimp only [St.put]
  refine K16 _ ?_
  refine az ?_
  refine cj 8 ?_
  refine zQ ?_
  refine db (G) zX ?_
  dsimp only
  refine c7 (X := Nat) (fun k => k ≤ i ∧ ((t.take i).take k).any (fun d => decide (d.id = c.id)) = false) (fun k => i - k) (fun k => [(5, .v (.int .i64 (k : Int))), (6, .any), (7, .any)]) (fun k G' => G') 0 rfl ?_ ?_ (fun _ _ h => h) ?_ ?_ ?_
  ·exact ⟨by simp, by simp⟩
  ·exact zF
  ·rintro k hI
   exact zL
  ·exact fun _ _ _ _ h => .inl h
  rintro k hJ
  dsimp only at hJ ⊢
  refine yS fun _ K17 => ?_
  refine yS fun _ K18 => ?_
  refine yR ?_
  refine yM rfl rfl ?_
  refine yM rfl rfl ?_
  refine aa rfl (cn rfl rfl rfl) ?_
  refine yN ?_
  dsimp only [St.put]
  refine K18 _ ?_
  refine ak rfl (fun hc => ?_) (fun hc => ?_)
  ·replace hc := of_decide_eq_true hc
   obtain ⟨d, hd0⟩ : ∃ x, t[k]? = some x := cx (by omega)
   have hd : (t.take i)[k]? = some d := by rw [List.getElem?_take, if_pos (by omega)]; exact hd0
   refine av ?_
   refine K17 _ ?_
   refine yS fun _ K19 => ?_
   refine az ?_
   refine yS fun _ K20 => ?_
   refine f4 [(0, none), (1, none), (2, none), (3, none), (4, none), (5, none), (6, none), (7, none), (8, none)] (fun i => [].contains i) (fun i => [].contains i) (fun i => [0, 2, 3, 4, 6, 8].contains i) [] (by kernel_rfl) (by kernel_rfl) ?_
   refine ae rfl rfl rfl rfl (cb rfl rfl rfl) ?_
   try dsimp only [St.put]
   refine aw rfl rfl rfl rfl (bv rfl rfl) ?_
   refine xM rfl rfl rfl rfl rfl ?_
   try dsimp only [St.put]
   refine ae rfl rfl rfl rfl (bl rfl rfl rfl rfl (bn (by assumption)) (Enc.len _)) ?_
   refine ae rfl rfl rfl rfl (cb rfl rfl rfl) ?_
   try dsimp only [St.put]
   refine aw rfl rfl rfl rfl (bv rfl rfl) ?_
   refine ae rfl rfl rfl rfl (cb rfl rfl rfl) ?_
   try dsimp only [St.put]
   refine aw rfl rfl rfl rfl (bv rfl rfl) ?_
   refine ae rfl rfl rfl rfl (ir rfl rfl rfl) ?_
   refine bq ?_
   dsimp only [St.put]
   refine K20 _ ?_
   refine ak rfl (fun hc => ?_) (fun hc => ?_)
   ·skip
    refine yS fun _ K21 => ?_
    refine yR ?_
    refine yA rfl rfl ?_
    refine yN ?_
    dsimp only [St.put]
    refine K21 _ ?_
    refine ax ?_
    refine bp rfl (by constructor) zN zS ?_
    exact vb (by
     have := xg (f := (·.id)) hd0 hx (by omega) (by simpa using hc)
     simp [dl, this])
   skip
   refine av ?_
   refine K19 _ ?_
   refine yR ?_
   refine yM rfl rfl ?_
   refine aa rfl (br rfl rfl rfl (by omega)) ?_
   refine yA rfl rfl ?_
   refine yN ?_
   dsimp only [St.put]
   exact ⟨k + 1, by omega, ⟨by omega, by rw [vt hd, hJ.2]; simpa using hc⟩, ⟨⟨rfl, rfl⟩, zF, zB, zN, zX⟩⟩
  try replace hc := of_decide_eq_false hc
  refine cr ?_
  refine K15 _ ?_
  refine yS fun _ K22 => ?_
  refine yR ?_
  refine yA rfl rfl ?_
  refine yN ?_
  dsimp only [St.put]
  refine K22 _ ?_
  refine az ?_
  refine cj 8 ?_
  refine zQ ?_
  refine db (G) zX ?_
  dsimp only
  refine c7 (X := Nat) (fun n => n ≤ c.lines.length ∧ (c.lines.take n).all ke = true) (fun n => c.lines.length - n) (fun n => [(6, .v (.int .i64 (n : Int))), (7, .any)]) (fun n G' => G') 0 rfl ?_ ?_ (fun _ _ h => h) ?_ ?_ ?_
  ·exact ⟨by simp, by simp⟩
  ·exact zF
  ·rintro n hI
   exact zL
  ·exact fun _ _ _ _ h => .inl h
  rintro n hL
  dsimp only at hL ⊢
  refine yS fun _ K23 => ?_
  refine yS fun _ K24 => ?_
  refine yR ?_
  refine yM rfl rfl ?_
  refine yF rfl rfl rfl rfl ?_
  refine yL rfl rfl rfl ?_
  refine aa rfl (bg rfl rfl (List.length_map _)) ?_
  refine aa rfl (cn rfl rfl rfl) ?_
  refine yN ?_
  dsimp only [St.put]
  refine K24 _ ?_
  refine ak rfl (fun hc => ?_) (fun hc => ?_)
  ·replace hc := of_decide_eq_true hc
   obtain ⟨l, hl⟩ : ∃ x, c.lines[n]? = some x := cx (by omega)
   have hf2 := hf.words c (ez hx) l (ez hl)
   refine av ?_
   refine K23 _ ?_
   refine yS fun _ K25 => ?_
   refine az ?_
   refine yS fun _ K26 => ?_
   refine yS fun _ K27 => ?_
   refine yR ?_
   refine yF rfl rfl rfl rfl ?_
   refine yL rfl rfl rfl ?_
   refine yM rfl rfl ?_
   refine aa rfl (bl rfl rfl rfl rfl (bn (by assumption)) (Enc.len _)) ?_
   refine yL rfl rfl rfl ?_
   refine aa rfl (bg rfl rfl (List.length_map _)) ?_
   try dsimp only [St.put]
   refine af rfl (ba rfl rfl rfl (oe _ _ _) ?_)
   refine aa rfl (dv rfl rfl) ?_
   refine yN ?_
   dsimp only [St.put]
   refine K27 _ ?_
   refine ak rfl (fun hc => ?_) (fun hc => ?_)
   ·skip
    refine yS fun _ K28 => ?_
    refine yR ?_
    refine yA rfl rfl ?_
    refine yN ?_
    dsimp only [St.put]
    refine K28 _ ?_
    refine ax ?_
    refine bp rfl (by constructor) zN zS ?_
    exact vb (by
     have h1 : c.lines.all ke = false := j0 hl (by simp_all [ke])
     have : t.all i9 = false := j0 hx (by simp [i9, h1])
     simp [dl, this])
   have hll : inB l.length 1 10 = true := by simpa using hc
   refine av ?_
   refine K26 _ ?_
   refine yS fun _ K29 => ?_
   refine yR ?_
   refine yA rfl rfl ?_
   refine yN ?_
   dsimp only [St.put]
   refine K29 _ ?_
   refine az ?_
   refine cj 8 ?_
   refine zQ ?_
   refine db (G) zX ?_
   dsimp only
   refine c7 (X := Nat) (fun m => m ≤ l.length ∧ (l.take m).all ko = true) (fun m => l.length - m) (fun m => [(7, .v (.int .i64 (m : Int)))]) (fun m G' => G') 0 rfl ?_ ?_ (fun _ _ h => h) ?_ ?_ ?_
   ·exact ⟨by simp, by simp⟩
   ·exact zF
   ·rintro m hI
    exact zL
   ·exact fun _ _ _ _ h => .inl h
   rintro m hM
   dsimp only at hM ⊢
   refine yS fun _ K30 => ?_
   refine yS fun _ K31 => ?_
   refine yR ?_
   refine yM rfl rfl ?_
   refine yF rfl rfl rfl rfl ?_
   refine yL rfl rfl rfl ?_
   refine yM rfl rfl ?_
   refine aa rfl (bl rfl rfl rfl rfl (bn (by assumption)) (Enc.len _)) ?_
   refine yL rfl rfl rfl ?_
   refine aa rfl (bg rfl rfl (List.length_map _)) ?_
   refine aa rfl (cn rfl rfl rfl) ?_
   refine yN ?_
   dsimp only [St.put]
   refine K31 _ ?_
   refine ak rfl (fun hc => ?_) (fun hc => ?_)
   ·replace hc := of_decide_eq_true hc
    obtain ⟨s, hs'⟩ : ∃ x, l[m]? = some x := cx (by omega)
    refine av ?_
    refine K30 _ ?_
    refine yS fun _ K32 => ?_
    refine az ?_
    refine yS fun _ K33 => ?_
    refine yR ?_
    refine yF rfl rfl rfl rfl ?_
    refine yL rfl rfl rfl ?_
    refine yM rfl rfl ?_
    refine aa rfl (bl rfl rfl rfl rfl (bn (by assumption)) (Enc.len _)) ?_
    refine yL rfl rfl rfl ?_
    refine yM rfl rfl ?_
    refine aa rfl (bl rfl rfl rfl rfl (bn (by assumption)) (Enc.len _)) ?_
    refine yL rfl rfl rfl ?_
    try dsimp only [St.put]
    refine af rfl (ba rfl rfl rfl (uje _) ?_)
    refine aa rfl (dv rfl rfl) ?_
    refine yN ?_
    dsimp only [St.put]
    refine K33 _ ?_
    refine ak rfl (fun hc => ?_) (fun hc => ?_)
    ·skip
     refine yS fun _ K34 => ?_
     refine yR ?_
     refine yA rfl rfl ?_
     refine yN ?_
     dsimp only [St.put]
     refine K34 _ ?_
     refine ax ?_
     refine bp rfl (by constructor) zN zS ?_
     exact vb (by
      have h2 : l.all ko = false := j0 hs' (by simpa using hc)
      have h1 : c.lines.all ke = false := j0 hl (by simp [ke, h2])
      have : t.all i9 = false := j0 hx (by simp [i9, h1])
      simp [dl, this])
    skip
    refine av ?_
    refine K32 _ ?_
    refine yR ?_
    refine yM rfl rfl ?_
    refine aa rfl (br rfl rfl rfl (by omega)) ?_
    refine yA rfl rfl ?_
    refine yN ?_
    dsimp only [St.put]
    exact ⟨m + 1, by omega, ⟨by omega, by rw [pr hs', hM.2]; simpa using hc⟩, ⟨⟨rfl, rfl⟩, zF, zB, zN, zX⟩⟩
   try replace hc := of_decide_eq_false hc
   refine cr ?_
   refine K25 _ ?_
   refine yR ?_
   refine yM rfl rfl ?_
   refine aa rfl (br rfl rfl rfl (by omega)) ?_
   refine yA rfl rfl ?_
   refine yN ?_
   dsimp only [St.put]
   exact ⟨n + 1, by omega, ⟨by omega, by
     rw [pr hl, hL.2]
     have h1 := hM.2
     rw [f8 (by omega)] at h1
     simp [ke, h1, hll]⟩, ⟨⟨rfl, rfl⟩, zF, zB, zN, zX⟩⟩
  try replace hc := of_decide_eq_false hc
  refine cr ?_
  refine K9 _ ?_
  refine yR ?_
  refine yM rfl rfl ?_
  refine aa rfl (br rfl rfl rfl (by omega)) ?_
  refine yA rfl rfl ?_
  refine yN ?_
  dsimp only [St.put]
  exact ⟨i + 1, by omega, ⟨by omega, by
    rw [pr hx, hI.2.1]
    have h1 := hL.2
    rw [f8 (by omega)] at h1
    simp [i9, h1, hid, hln], by
    rw [lf hx]
    exact xh hI.2.2 (by have h1 := hJ.2; rw [List.take_take, show min k i = i by omega] at h1; exact ugp h1)⟩, ⟨⟨rfl, rfl⟩, zF, zB, zN, zX⟩⟩
 try replace hc := of_decide_eq_false hc
 refine cr ?_
 refine K5 _ ?_
 refine yS fun _ K35 => ?_
 refine yR ?_
 refine yA rfl rfl ?_
 refine yN ?_
 dsimp only [St.put]
 refine K35 _ ?_
 refine ax ?_
 refine bp rfl (by constructor) zN zS ?_
 exact vb (by
  have h1 := hI.2
  rw [f8 (by omega)] at h1
  simp [dl, hc0, h1.1, h1.2])

end Go.Proofs.YtgffhbbcpgdjjaaDoor
namespace Go.Proofs.YtgffhbbcpgdjjaaDoor
set_option maxRecDepth 10000
open Go.RowKit Go.AB
open Go.AB.Enc (cells)
open Go.PB (ay aj PlaceD bh bj bi)

theorem ujf (t : aj) (hg : kg t = false) : Pure Tryd.prog 34 [eu t] (eu t) := by
 refine dm Tryd.func34 rfl (fun m => .agg (bk (ar _ _) cg)) fun G nx => ?_
 simp only [Tryd.ntmps34, List.length_cons, List.length_nil, Nat.reduceAdd, Nat.reduceSub]
 refine ct fun hlt => ?_
 dsimp only at hlt
 refine jn 0 (fun hf => ?_)
 replace hf := rq hf
 have hf0 := hf.len
 have hs := uet hg
 have hs0 := hs.len
 refine yS fun _ K1 => ?_
 refine yR ?_
 try dsimp only [St.put]
 refine yB rfl rfl rfl ?_
 try dsimp only [St.put]
 refine af rfl (eh rfl ?_)
 refine yN ?_
 dsimp only [St.put]
 refine K1 _ ?_
 refine yS fun _ K2 => ?_
 refine yR ?_
 try dsimp only [St.put]
 refine af rfl (eh rfl ?_)
 refine yN ?_
 dsimp only [St.put]
 refine K2 _ ?_
 refine o9 (nx + 1) 0 _ _ 121 2 zG rfl (by decide) ?_
 dsimp only [List.set_cons_zero, List.set_cons_succ]
 refine yS fun _ K3 => ?_
 refine yS fun _ K4 => ?_
 refine yR ?_
 refine yA rfl rfl ?_
 refine yN ?_
 dsimp only [St.put]
 refine K4 _ ?_
 refine az ?_
 refine cj 7 ?_
 refine zQ ?_
 refine db ((ai (ai (ai G nx (.box 0 [.list [] .nil])) (nx + 1) (.box 0 [.list ((t.take 0).map cells) (.tip (nx + 1 + 1))])) (nx + 1 + 1) (.tip (t.take 0).length 121 2))) zX ?_
 dsimp only
 refine c7 (X := Nat) (fun k => k ≤ t.length) (fun k => t.length - k) (fun k => [(4, .v (.int .i64 (k : Int))), (5, .any), (6, .any)]) (fun k G' => (ai (ai (ai G nx (.box 0 [.list [] .nil])) (nx + 1) (.box k [.list ((t.take k).map cells) (.tip (nx + 1 + 1))])) (nx + 1 + 1) (.tip (t.take k).length 121 2))) 0 rfl ?_ ?_ ?_ ?_ ?_ ?_
 ·exact Nat.zero_le _
 ·exact zF
 ·exact zX
 ·rintro k hI
  exact zL
 ·rintro k hI
  exact zH
 rintro k hI
 dsimp only at hI ⊢
 refine yS fun _ K5 => ?_
 refine yS fun _ K6 => ?_
 refine yR ?_
 refine yM rfl rfl ?_
 refine yF rfl rfl rfl rfl ?_
 refine yL rfl rfl rfl ?_
 refine aa rfl (bg rfl rfl (List.length_map _)) ?_
 refine aa rfl (cn rfl rfl rfl) ?_
 refine yN ?_
 dsimp only [St.put]
 refine K6 _ ?_
 refine ak rfl (fun hc => ?_) (fun hc => ?_)
 ·replace hc := of_decide_eq_true hc
  obtain ⟨c, hx⟩ : ∃ x, t[k]? = some x := cx (by omega)
  have hf1 := hs.lines c (ez hx)
  refine av ?_
  refine K5 _ ?_
  refine yS fun _ K7 => ?_
  refine az ?_
  refine yS fun _ K8 => ?_
  refine yR ?_
  refine yF rfl rfl rfl rfl ?_
  refine yL rfl rfl rfl ?_
  refine yM rfl rfl ?_
  refine aa rfl (bl rfl rfl rfl rfl (bn (by assumption)) (Enc.len _)) ?_
  refine yF rfl rfl rfl rfl ?_
  refine yL rfl rfl rfl ?_
  refine aa rfl (l5 rfl rfl) ?_
  try dsimp only [St.put]
  refine af rfl (eh rfl ?_)
  try dsimp only [St.put]
  refine af rfl (dt rfl rfl rfl zG rfl rfl (by rfl) ?_)
  refine yN ?_
  dsimp only [St.put]
  refine K8 _ ?_
  refine o9 (nx + 1 + 1 + 1) 1 _ _ 118 1 zG rfl (by decide) ?_
  dsimp only [List.set_cons_zero, List.set_cons_succ]
  refine yS fun _ K9 => ?_
  refine yS fun _ K10 => ?_
  refine yR ?_
  refine yA rfl rfl ?_
  refine yN ?_
  dsimp only [St.put]
  refine K10 _ ?_
  refine az ?_
  refine cj 7 ?_
  refine zQ ?_
  refine db ((ai (ai (ai (ai (ai G nx (.box 0 [.list [] .nil])) (nx + 1) (.box k [.list ((t.take k).map cells) (.tip (nx + 1 + 1))])) (nx + 1 + 1) (.tip (t.take k).length 121 2)) (nx + 1 + 1 + 1) (.box (0 + 1) [.v (.int .i64 c.id), .list ((c.lines.take 0).map cells) (.tip (nx + 1 + 1 + 1 + 1))])) (nx + 1 + 1 + 1 + 1) (.tip (c.lines.take 0).length 118 1))) zX ?_
  dsimp only
  refine c7 (X := Nat) (fun m => m ≤ c.lines.length) (fun m => c.lines.length - m) (fun m => [(6, .v (.int .i64 (m : Int)))]) (fun m G' => (ai (ai (ai (ai (ai G nx (.box 0 [.list [] .nil])) (nx + 1) (.box k [.list ((t.take k).map cells) (.tip (nx + 1 + 1))])) (nx + 1 + 1) (.tip (t.take k).length 121 2)) (nx + 1 + 1 + 1) (.box (m + 1) [.v (.int .i64 c.id), .list ((c.lines.take m).map cells) (.tip (nx + 1 + 1 + 1 + 1))])) (nx + 1 + 1 + 1 + 1) (.tip (c.lines.take m).length 118 1))) 0 rfl ?_ ?_ ?_ ?_ ?_ ?_
  ·exact Nat.zero_le _
  ·exact zF
  ·exact zX
  ·rintro m hI
   exact zL
  ·rintro m hI
   exact zH
  rintro m hJ
  dsimp only at hJ ⊢
  refine yS fun _ K11 => ?_
  refine yS fun _ K12 => ?_
  refine yR ?_
  refine yM rfl rfl ?_
  refine yF rfl rfl rfl rfl ?_
  refine yL rfl rfl rfl ?_
  refine yM rfl rfl ?_
  refine aa rfl (bl rfl rfl rfl rfl (bn (by assumption)) (Enc.len _)) ?_
  refine yF rfl rfl rfl rfl ?_
  refine yL rfl rfl rfl ?_
  refine aa rfl (bg rfl rfl (List.length_map _)) ?_
  refine aa rfl (cn rfl rfl rfl) ?_
  refine yN ?_
  dsimp only [St.put]
  refine K12 _ ?_
  refine ak rfl (fun hc => ?_) (fun hc => ?_)
  ·replace hc := of_decide_eq_true hc
   obtain ⟨l, hl⟩ : ∃ x, c.lines[m]? = some x := cx (by omega)
   have hf2 := hs.words c (ez hx) l (ez hl)
   refine av ?_
   refine K11 _ ?_
   refine yS fun _ K13 => ?_
   refine az ?_
   refine f4 [(0, none), (1, none), (3, none), (4, none), (5, none), (6, none), (7, none), (8, none), (9, none), (10, none), (11, none), (2, none), (12, none), (13, none), (14, none), (15, none), (16, none)] (fun i => [14, 16].contains i) (fun i => [2, 12, 13, 14, 16].contains i) (fun i => [0, 3, 5, 6, 7, 9, 10, 15].contains i) [nx + 1 + 1 + 1] (by kernel_rfl) (by kernel_rfl) ?_
   refine ae rfl rfl rfl rfl (dj rfl rfl) ?_
   try dsimp only [St.put]
   refine aw rfl rfl rfl rfl (gg rfl rfl zG (by simp) (by first | rfl | assumption)) ?_
   refine ae rfl rfl rfl rfl (cb rfl rfl rfl) ?_
   try dsimp only [St.put]
   refine aw rfl rfl rfl rfl (bv rfl rfl) ?_
   refine xM rfl rfl rfl rfl rfl ?_
   try dsimp only [St.put]
   refine ae rfl rfl rfl rfl (bl rfl rfl rfl rfl (bn (by assumption)) (Enc.len _)) ?_
   refine ae rfl rfl rfl rfl (cb rfl rfl rfl) ?_
   try dsimp only [St.put]
   refine aw rfl rfl rfl rfl (bv rfl rfl) ?_
   refine xM rfl rfl rfl rfl rfl ?_
   try dsimp only [St.put]
   refine ae rfl rfl rfl rfl (bl rfl rfl rfl rfl (bn (by assumption)) (Enc.len _)) ?_
   try dsimp only [St.put]
   refine aw rfl rfl rfl rfl (bv rfl rfl) ?_
   refine ij ?_
   try dsimp only [St.put]
   refine g8 rfl rfl rfl (vj rfl ⟨zD, ?_⟩)
   try dsimp only [St.put]
   refine g8 rfl rfl rfl (uie rfl rfl (by first | exact .inl rfl | exact .inr rfl) rfl (by decide) zA zA ⟨zD, ?_⟩)
   try dsimp only [St.put]
   refine g8 rfl rfl rfl (ef rfl rfl rfl (by decide) (by decide) zR (by decide) ⟨zD, ?_⟩)
   try dsimp only [St.put]
   refine gt rfl rfl rfl rfl (ma ([l]) rfl rfl zG zE rfl rfl zA ?_ zA)
   refine di rfl rfl rfl rfl (dj rfl rfl) ?_
   try dsimp only [St.put]
   refine gt rfl rfl rfl rfl (iw rfl rfl rfl zG (by constructor) rfl zO ?_)
   refine ii ?_
   dsimp only [St.put]
   refine K13 _ ?_
   refine yR ?_
   refine yM rfl rfl ?_
   refine aa rfl (br rfl rfl rfl (by omega)) ?_
   refine yA rfl rfl ?_
   refine yN ?_
   dsimp only [St.put]
   simp only [zh hl]
   exact ⟨m + 1, by omega, by omega, ⟨⟨rfl, rfl⟩, zF, zB, zN, zX⟩⟩
  replace hc := of_decide_eq_false hc
  rw [f8 (show c.lines.length ≤ m by omega)]
  refine yu (nx + 1 + 1 + 1) _ [.v (.int .i64 c.id), lst c.lines] zG zW ?_
  refine cr ?_
  refine K9 _ ?_
  refine yR ?_
  refine aa rfl (dj rfl rfl) ?_
  try dsimp only [St.put]
  refine du rfl (gg rfl rfl zG trivial (by first | rfl | assumption)) ?_
  try dsimp only [St.put]
  refine du rfl (tx rfl rfl zG trivial (by rfl)) ?_
  try dsimp only [St.put]
  refine af rfl (ef rfl rfl rfl (by decide) (by decide) zR (by decide) ?_)
  try dsimp only [St.put]
  refine af rfl (ma ([c]) rfl rfl zG zE rfl rfl zA ?_ zA)
  refine aa rfl (dj rfl rfl) ?_
  try dsimp only [St.put]
  refine af rfl (dt rfl rfl rfl zG rfl rfl (by rfl) ?_)
  refine yN ?_
  dsimp only [St.put]
  refine K7 _ ?_
  refine yR ?_
  refine yM rfl rfl ?_
  refine aa rfl (br rfl rfl rfl (by omega)) ?_
  refine yA rfl rfl ?_
  refine yN ?_
  dsimp only [St.put]
  simp only [zh hx]
  exact ⟨k + 1, by omega, by omega, ⟨⟨rfl, rfl⟩, zF, zB, zN, zX⟩⟩
 try replace hc := of_decide_eq_false hc
 refine cr ?_
 refine K3 _ ?_
 refine yS fun _ K14 => ?_
 refine yR ?_
 try dsimp only [St.put]
 refine du rfl (tx rfl rfl zG trivial (by rfl)) ?_
 try dsimp only [St.put]
 refine af rfl (dt rfl rfl rfl zG rfl rfl (by rfl) ?_)
 refine yN ?_
 dsimp only [St.put]
 refine K14 _ ?_
 refine ax ?_
 refine vg rfl (om rfl zG (by rfl) zC rfl) zN zS ?_
 rw [f8 (show t.length ≤ k by omega)]
 exact zW
end Go.Proofs.YtgffhbbcpgdjjaaDoor
namespace Go.AB
open Go Go.RowKit
open Go.PB (ay aj PlaceD)
end Go.AB
namespace Go.Proofs.YtgffhbbcpgdjjaaDoor
set_option maxRecDepth 10000
open Go.RowKit Go.AB
open Go.AB.Enc (cells)
open Go.PB (ay aj PlaceD bh bj bi)
theorem ujq (t : aj) : Pure Tryd.prog 40 [eu t] (.v (.int .i64 (ie t))) := by
 refine dm Tryd.func40 rfl (fun m => .v) fun G nx => ?_
 simp only [Tryd.ntmps40, List.length_cons, List.length_nil, Nat.reduceAdd, Nat.reduceSub]
 refine ct fun hlt => ?_
 dsimp only at hlt
 refine yS fun _ K1 => ?_
 refine yR ?_
 try dsimp only [St.put]
 refine yB rfl rfl rfl ?_
 refine yA rfl rfl ?_
 refine yN ?_
 dsimp only [St.put]
 refine K1 _ ?_
 refine yS fun _ K2 => ?_
 refine yS fun _ K3 => ?_
 refine yR ?_
 try dsimp only [St.put]
 refine du rfl (d9 rfl rfl rfl) ?_
 try dsimp only [St.put]
 refine af rfl (ba rfl rfl rfl (ujg _) ?_)
 refine aa rfl (dv rfl rfl) ?_
 refine yN ?_
 dsimp only [St.put]
 refine K3 _ ?_
 refine ak rfl (fun hc => ?_) (fun hc => ?_)
 ·try replace hc := of_decide_eq_true hc
  refine yS fun _ K4 => ?_
  refine yR ?_
  refine yA rfl rfl ?_
  refine yN ?_
  dsimp only [St.put]
  refine K4 _ ?_
  refine ax ?_
  refine bp rfl (by constructor) zN zS ?_
  exact vi (by simp at hc; simp [ie, hc])
 try replace hc := of_decide_eq_false hc
 refine av ?_
 refine K2 _ ?_
 refine yS fun _ K5 => ?_
 refine yR ?_
 refine yA rfl rfl ?_
 refine yN ?_
 dsimp only [St.put]
 refine K5 _ ?_
 refine ax ?_
 refine bp rfl (by constructor) zN zS ?_
 exact vi (by simp at hc; simp [ie, hc])
end Go.Proofs.YtgffhbbcpgdjjaaDoor
namespace Go.AB
open Go Go.RowKit
open Go.AB.Enc (cells)
open Go.PB (ay aj PlaceD bh bj bi)
abbrev L2 := Int × Int
/-- a stretch has a line of the base; of the edition -/
def hasB (s : j5) (p : L2) : Bool := decide (s.ch = p.1) && (decide (s.fr ≤ p.2) && decide (p.2 < s.tt))
def toE (s : j5) (p : L2) : L2 := (s.au, s.fi + (p.2 - s.fr))
/-- as which line a line of the base is numbered: by the first stretch that has it; and back -/
def asOf (ss : List j5) (p : L2) : Option L2 := (ss.find? fun s => hasB s p).map fun s => toE s p
/-! ### Stretches that clash -/
/-! ### The lines of a text -/
def nj (t : aj) : List L2 := (t.mapIdx fun k c => c.lines.mapIdx fun n _ => ((k : Int), (n : Int))).flatten
/-- a line of the base, with the numbers that it has by some stretches -/
def wx (ss : List j5) (p : L2) (w : Int) : RowD := ⟨p.1, p.2, ((asOf ss p).getD (0, 0)).1, ((asOf ss p).getD (0, 0)).2, w⟩
def mn (t : aj) (ss : List j5) : List RowD := (t.mapIdx fun k c => c.lines.mapIdx fun n l => wx ss (k, n) l.length).flatten
theorem pn {α β γ : Type} (l : List α) (f : Nat → α → β) (g : β → γ) : (l.mapIdx f).map g = l.mapIdx fun i a => g (f i a) := by
 apply List.ext_getElem?
 intro i
 rw [List.getElem?_map, List.getElem?_mapIdx, List.getElem?_mapIdx, Option.map_map]
 rfl
theorem z6 (t : aj) (ss : List j5) : (mn t ss).map (fun r => ((r.ch, r.ln) : L2)) = nj t := by
 unfold mn nj
 rw [List.map_flatten, pn]
 congr 2
 funext k c
 rw [pn]
 rfl
/-- the rows of a chapter's lines -/
def rowL (ss : List j5) (k : Nat) (ls : List (List ByteArray)) : List RowD := ls.mapIdx fun n l => wx ss (k, n) l.length
theorem ufd (ss : List j5) {t : aj} {k : Nat} {c : ay} (h : t[k]? = some c) : mn (t.take (k + 1)) ss = mn (t.take k) ss ++ rowL ss k c.lines := by
 unfold mn
 rw [uq h, List.flatten_append]; simp [rowL]
theorem ufh (ss : List j5) (k : Nat) (ls : List (List ByteArray)) : (rowL ss k ls).length = ls.length := by simp [rowL]
theorem ufe {t : aj} (ht : dl t = true) (ss : List j5) (k : Nat) : (mn (t.take k) ss).length ≤ 10 * k := by
 induction k with
 | zero => simp [mn]
 | succ k ih =>
  cases hk : t[k]? with
  | none =>
   have h1 : t.take (k + 1) = t.take k := by rw [List.take_add_one, hk]; simp
   rw [h1]; omega
  | some c =>
   rw [ufd ss hk, List.length_append, ufh]
   have := ((jo ht).2.2 c (List.mem_of_getElem? hk)).2.1
   omega
theorem uff {t : aj} (ht : dl t = true) (ss : List j5) : (mn t ss).length ≤ 60 := by
 have h1 := ufe ht ss t.length
 rw [List.take_length] at h1
 have := (jo ht).2.1
 omega
end Go.AB
namespace Go.AB
open Go Go.RowKit
open Go.PB (ay aj PlaceD)
end Go.AB
namespace Go.Proofs.YtgffhbbcpgdjjaaDoor
set_option maxRecDepth 10000
open Go.RowKit Go.AB
open Go.AB.Enc (cells)
open Go.PB (ay aj PlaceD bh bj bi)

end Go.Proofs.YtgffhbbcpgdjjaaDoor
namespace Go.AB
open Go Go.RowKit
open Go.PB (ay aj PlaceD)
end Go.AB
namespace Go.Proofs.YtgffhbbcpgdjjaaDoor
set_option maxRecDepth 10000
open Go.RowKit Go.AB
open Go.AB.Enc (cells)
open Go.PB (ay aj PlaceD bh bj bi)
end Go.Proofs.YtgffhbbcpgdjjaaDoor
namespace Go.AB
open Go Go.RowKit
open Go.PB (ay aj PlaceD)
end Go.AB
namespace Go.Proofs.YtgffhbbcpgdjjaaDoor
set_option maxRecDepth 10000
open Go.RowKit Go.AB
open Go.AB.Enc (cells)
open Go.PB (ay aj PlaceD bh bj bi)
theorem udi (a b : List PlaceD) : Pure Tryd.prog 14 [lst a, lst b] (.v (.bool (decide (a = b)))) := by
 refine dm Tryd.func14 rfl (fun m => .v) fun G nx => ?_
 simp only [Tryd.ntmps14, List.length_cons, List.length_nil, Nat.reduceAdd, Nat.reduceSub]
 refine ct fun hlt => ?_
 dsimp only at hlt
 refine jn 0 (fun hf => ?_)
 have hf' : a.length ≤ 9223372036854775807 := (fit_lst.1 hf).1
 clear hf
 refine yS fun _ K1 => ?_
 refine yR ?_
 refine yA rfl rfl ?_
 refine yN ?_
 dsimp only [St.put]
 refine K1 _ ?_
 refine yS fun _ K2 => ?_
 refine yS fun _ K3 => ?_
 refine yR ?_
 refine yM rfl rfl ?_
 refine aa rfl (bg rfl rfl (List.length_map _)) ?_
 refine yM rfl rfl ?_
 refine aa rfl (bg rfl rfl (List.length_map _)) ?_
 refine aa rfl (fj rfl rfl rfl) ?_
 refine yN ?_
 dsimp only [St.put]
 refine K3 _ ?_
 refine ak rfl (fun hc => ?_) (fun hc => ?_)
 ·try replace hc := of_decide_eq_true hc
  refine yS fun _ K4 => ?_
  refine yR ?_
  refine yA rfl rfl ?_
  refine yN ?_
  dsimp only [St.put]
  refine K4 _ ?_
  refine ax ?_
  refine bp rfl (by constructor) zN zS ?_
  exact vb (by
   have : a ≠ b := fun e => by subst e; simp at hc
   simp [this])
 have hab := gw hc
 refine av ?_
 refine K2 _ ?_
 refine yS fun _ K5 => ?_
 refine yS fun _ K6 => ?_
 refine yR ?_
 refine yA rfl rfl ?_
 refine yN ?_
 dsimp only [St.put]
 refine K6 _ ?_
 refine az ?_
 refine cj 6 ?_
 refine zQ ?_
 refine db (G) zX ?_
 dsimp only
 refine c7 (X := Nat) (fun k => k ≤ a.length ∧ a.take k = b.take k) (fun k => a.length - k) (fun k => [(5, .v (.int .i64 (k : Int)))]) (fun k G' => G') 0 rfl ?_ ?_ (fun _ _ h => h) ?_ ?_ ?_
 ·exact ⟨by simp, by simp⟩
 ·exact zF
 ·rintro k hI
  exact zL
 ·exact fun _ _ _ _ h => .inl h
 rintro k hI
 dsimp only at hI ⊢
 refine yS fun _ K7 => ?_
 refine yS fun _ K8 => ?_
 refine yR ?_
 refine yM rfl rfl ?_
 refine yM rfl rfl ?_
 refine aa rfl (bg rfl rfl (List.length_map _)) ?_
 refine aa rfl (cn rfl rfl rfl) ?_
 refine yN ?_
 dsimp only [St.put]
 refine K8 _ ?_
 refine ak rfl (fun hc => ?_) (fun hc => ?_)
 ·replace hc := of_decide_eq_true hc
  obtain ⟨x, hx⟩ : ∃ x, a[k]? = some x := cx (by omega)
  obtain ⟨y, hy⟩ : ∃ y, b[k]? = some y := cx (by omega)
  refine av ?_
  refine K7 _ ?_
  refine yS fun _ K9 => ?_
  refine az ?_
  refine yS fun _ K10 => ?_
  refine f4 [(0, none), (1, none), (2, none), (3, none), (4, none), (5, none), (6, none), (7, none), (8, none)] (fun i => [].contains i) (fun i => [].contains i) (fun i => [0, 1, 2, 4, 5, 6, 8].contains i) [] (by kernel_rfl) (by kernel_rfl) ?_
  refine xM rfl rfl rfl rfl rfl ?_
  refine xM rfl rfl rfl rfl rfl ?_
  try dsimp only [St.put]
  refine ae rfl rfl rfl rfl (bl rfl rfl rfl rfl (bn (by assumption)) (Enc.len _)) ?_
  try dsimp only [St.put]
  refine aw rfl rfl rfl rfl (d9 rfl rfl (Enc.len _)) ?_
  refine xM rfl rfl rfl rfl rfl ?_
  refine xM rfl rfl rfl rfl rfl ?_
  try dsimp only [St.put]
  refine ae rfl rfl rfl rfl (bl rfl rfl rfl rfl (bn (by assumption)) (Enc.len _)) ?_
  try dsimp only [St.put]
  refine aw rfl rfl rfl rfl (d9 rfl rfl (Enc.len _)) ?_
  refine ae rfl rfl rfl rfl (xj (x := x) (y := y) rfl rfl rfl) ?_
  refine bq ?_
  dsimp only [St.put]
  refine K10 _ ?_
  refine ak rfl (fun hc => ?_) (fun hc => ?_)
  ·try replace hc := of_decide_eq_true hc
   refine yS fun _ K11 => ?_
   refine yR ?_
   refine yA rfl rfl ?_
   refine yN ?_
   dsimp only [St.put]
   refine K11 _ ?_
   refine ax ?_
   refine bp rfl (by constructor) zN zS ?_
   exact vb (by
    have := qj hx hy (ia hc)
    simp [this])
  have hxy := gw hc
  refine av ?_
  refine K9 _ ?_
  refine yR ?_
  refine yM rfl rfl ?_
  refine aa rfl (br rfl rfl rfl (by omega)) ?_
  refine yA rfl rfl ?_
  refine yN ?_
  dsimp only [St.put]
  exact ⟨k + 1, by omega, ⟨by omega, ti hI.2 hx (hxy ▸ hy)⟩, ⟨⟨rfl, rfl⟩, zF, zB, zN, zX⟩⟩
 try replace hc := of_decide_eq_false hc
 refine cr ?_
 refine K5 _ ?_
 refine yS fun _ K12 => ?_
 refine yR ?_
 refine yA rfl rfl ?_
 refine yN ?_
 dsimp only [St.put]
 refine K12 _ ?_
 refine ax ?_
 refine bp rfl (by constructor) zN zS ?_
 exact vb (by
  have h1 := hI.2
  rw [f8 (by omega), f8 (by omega)] at h1
  simp [h1])
/-! ### What a stretch is checked by -/
end Go.Proofs.YtgffhbbcpgdjjaaDoor
namespace Go.Proofs.YtgffhbbcpgdjjaaDoor
set_option maxRecDepth 10000
open Go Go.RowKit Go.AB
theorem sn : laidOutB Tryd.prog = true := by kernel_rfl
theorem ug4 : ∃ m, Tryd.prog.types.size = m + 3 := ⟨Tryd.prog.types.size - 3, by have : 3 ≤ Tryd.prog.types.size := of_decide_eq_true (by kernel_rfl); omega⟩
theorem wg : Tryd.prog.underlying 3 = some (.int .i64) := by kernel_rfl
instance : KeyT Tryd.prog 3 Int where
 keyed := Go.Maps.int_keyed wg
 has {E w x v} h := ⟨.int .i64 x, by
  have h1 := ur (ux h)
  simp [keyOf, mapKey, wg, KeyV.kv, h1]⟩
end Go.Proofs.YtgffhbbcpgdjjaaDoor
namespace Go.AB
open Go Go.RowKit
open Go.PB (ay aj PlaceD)
def pq (n : Int) : Bool := decide (n < 97) || decide (122 < n)
theorem ui4 (s : ByteArray) : (u8s s).any (fun x => pq x.v) = !s.data.toList.all okc := by
 unfold u8s
 rw [List.any_map]
 induction s.data.toList with
 | nil => rfl
 | cons b l ih =>
  simp only [List.any_cons, List.all_cons, ih, Function.comp, okc, pq, Bool.not_and]
  congr 1
  have e1 : decide (((b.toNat : Nat) : Int) < 97) = !decide (97 ≤ b.toNat) := by by_cases h : 97 ≤ b.toNat <;> simp [h] <;> omega
  have e2 : decide ((122 : Int) < ((b.toNat : Nat) : Int)) = !decide (b.toNat ≤ 122) := by by_cases h : b.toNat ≤ 122 <;> simp [h] <;> omega
  rw [e1, e2]
theorem zc (s : ByteArray) : ko s = (inB s.size 1 12 && !(u8s s).any fun x => pq x.v) := by rw [ui4]; simp [ko]
theorem ubv (l : List ByteArray) : ke l = (inB l.length 1 10 && !l.any fun s => !ko s) := by
 unfold ke
 congr 1
 rw [Bool.eq_iff_iff]; simp
/-- the numbers of some chapters -/
def fy (xs : List Int) : Int → Option C := fun x => bif decide (x ∈ xs) then some (.v (.bool true)) else none
theorem x8 (xs : List Int) (x : Int) : (fy xs x).getD (nw (.bool false)) = .v (.bool (decide (x ∈ xs))) := by
 unfold fy
 cases decide (x ∈ xs) <;> rfl
theorem x7 : fy [] = fun _ => none := by funext x; simp [fy]
theorem uhj {t : aj} {k : Nat} {c : ay} (h : t[k]? = some c) : jq (fy ((t.take k).map (·.id))) c.id (.v (.bool true)) = fy ((t.take (k + 1)).map (·.id)) := by
 funext x
 rw [lf (f := (·.id)) h]
 unfold jq fy
 by_cases hx : x = c.id
 ·simp [hx]
 simp [hx]
theorem gj (xs : List Int) (n : Nat) : ∀ x c, fy xs x = some c → C.low n c := by
 intro x c h
 unfold fy at h
 cases hd : decide (x ∈ xs) <;> rw [hd] at h
 ·cases h
 cases h; exact .v
theorem ued {t : aj} (h : inB t.length 1 6 = false) : ie t = 10 := by simp [ie, dl, h]
theorem wj {t : aj} (h : t.all i9 = false) : ie t = 10 := by simp [ie, dl, h]
theorem uec {t : aj} (h : ¬ (t.map (·.id)).Nodup) : ie t = 10 := by simp [ie, dl, h]
end Go.AB
namespace Go.Proofs.YtgffhbbcpgdjjaaDoor
set_option maxRecDepth 10000
open Go.RowKit Go.AB
open Go.AB.Enc (cells)
open Go.PB (ay aj PlaceD bh bj bi)
theorem ujj (xs : List ByteArray) (p : ByteArray → Bool) (k : Nat) (caps : List C) [Fun Tryd.prog k] (hp : ∀ x ∈ xs, Pure Tryd.prog k (.v (.string x) :: caps) (.v (.bool (p x)))) : Pure Tryd.prog 103 [lst xs, .fn (.func k) caps] (.v (.int .i64 (nm p xs))) := by
 refine dm Tryd.func103 rfl (fun m => .v) fun G nx => ?_
 simp only [Tryd.ntmps103, List.length_cons, List.length_nil, Nat.reduceAdd, Nat.reduceSub]
 refine ct fun hlt => ?_
 dsimp only at hlt
 refine jn 0 (fun hf => ?_)
 replace hf := (fit_lst.1 hf).1
 refine yS fun _ K1 => ?_
 refine yR ?_
 refine yA rfl rfl ?_
 refine yN ?_
 dsimp only [St.put]
 refine K1 _ ?_
 refine yS fun _ K2 => ?_
 refine yS fun _ K3 => ?_
 refine yR ?_
 refine yM rfl rfl ?_
 refine aa rfl (bg rfl rfl (List.length_map _)) ?_
 refine yM rfl rfl ?_
 refine yN ?_
 dsimp only [St.put]
 refine K3 _ ?_
 refine az ?_
 refine cj 9 ?_
 refine zQ ?_
 refine db (G) zX ?_
 dsimp only
 refine c7 (X := Nat) (fun k => k ≤ xs.length ∧ ∀ y ∈ xs.take k, p y = false) (fun k => xs.length - k) (fun k => [(4, .any), (5, .any), (8, .v (.int .i64 (k : Int)))]) (fun k G' => G') 0 rfl ?_ ?_ (fun _ _ h => h) ?_ ?_ ?_
 ·exact ⟨by simp, by simp⟩
 ·exact zF
 ·rintro k hI
  exact zL
 ·exact fun _ _ _ _ h => .inl h
 rintro k hI
 dsimp only at hI ⊢
 refine yS fun _ K4 => ?_
 refine yR ?_
 refine aa rfl (cn rfl rfl rfl) ?_
 refine yN ?_
 dsimp only [St.put]
 refine K4 _ ?_
 refine yS fun _ K5 => ?_
 refine ak rfl (fun hc => ?_) (fun hc => ?_)
 ·replace hc := of_decide_eq_true hc
  obtain ⟨x, hx⟩ : ∃ x, xs[k]? = some x := cx (by omega)
  refine av ?_
  refine K5 _ ?_
  refine yS fun _ K6 => ?_
  refine az ?_
  refine yS fun _ K7 => ?_
  refine yR ?_
  refine yM rfl rfl ?_
  refine yA rfl rfl ?_
  refine yN ?_
  dsimp only [St.put]
  refine K7 _ ?_
  refine yS fun _ K8 => ?_
  refine yR ?_
  refine yM rfl rfl ?_
  refine yM rfl rfl ?_
  refine yM rfl rfl ?_
  refine aa rfl (bl rfl rfl rfl rfl (bn (by assumption)) (Enc.len _)) ?_
  refine yL rfl rfl rfl ?_
  try dsimp only [St.put]
  refine af rfl (ba rfl rfl rfl (hp x (ez hx)) ?_)
  refine yN ?_
  dsimp only [St.put]
  refine K8 _ ?_
  refine ak rfl (fun hc => ?_) (fun hc => ?_)
  ·skip
   refine yS fun _ K9 => ?_
   refine yR ?_
   refine yM rfl rfl ?_
   refine yA rfl rfl ?_
   refine yN ?_
   dsimp only [St.put]
   refine K9 _ ?_
   refine ax ?_
   refine bp rfl (by constructor) zN zS ?_
   exact vi (xz hx hc hI.2).symm
  skip
  refine av ?_
  refine K6 _ ?_
  refine yR ?_
  refine aa rfl (br rfl rfl rfl (by omega)) ?_
  refine yM rfl rfl ?_
  refine yN ?_
  dsimp only [St.put]
  exact ⟨k + 1, by omega, ⟨by omega, fun y hy => by
    rw [List.take_add_one, hx] at hy
    simp only [Option.toList_some, List.mem_append, List.mem_singleton] at hy
    rcases hy with hy | rfl
    ·exact hI.2 y hy
    simpa using hc⟩, ⟨⟨rfl, rfl⟩, zF, zB, zN, zX⟩⟩
 try replace hc := of_decide_eq_false hc
 refine cr ?_
 refine K2 _ ?_
 refine yS fun _ K10 => ?_
 refine yR ?_
 refine yA rfl rfl ?_
 refine yN ?_
 dsimp only [St.put]
 refine K10 _ ?_
 refine ax ?_
 refine bp rfl (by constructor) zN zS ?_
 exact vi (by
  rw [x4]
  have := hI.2
  rwa [f8 (by omega)] at this)
theorem ujl (xs : List U8) (p : U8 → Bool) (k : Nat) (caps : List C) [Fun Tryd.prog k] (hp : ∀ x ∈ xs, Pure Tryd.prog k (.v (.int .u8 x.v) :: caps) (.v (.bool (p x)))) : Pure Tryd.prog 111 [lst xs, .fn (.func k) caps] (.v (.int .i64 (nm p xs))) := by
 refine dm Tryd.func111 rfl (fun m => .v) fun G nx => ?_
 simp only [Tryd.ntmps111, List.length_cons, List.length_nil, Nat.reduceAdd, Nat.reduceSub]
 refine ct fun hlt => ?_
 dsimp only at hlt
 refine jn 0 (fun hf => ?_)
 replace hf := (fit_lst.1 hf).1
 refine yS fun _ K1 => ?_
 refine yR ?_
 refine yA rfl rfl ?_
 refine yN ?_
 dsimp only [St.put]
 refine K1 _ ?_
 refine yS fun _ K2 => ?_
 refine yS fun _ K3 => ?_
 refine yR ?_
 refine yM rfl rfl ?_
 refine aa rfl (bg rfl rfl (List.length_map _)) ?_
 refine yM rfl rfl ?_
 refine yN ?_
 dsimp only [St.put]
 refine K3 _ ?_
 refine az ?_
 refine cj 9 ?_
 refine zQ ?_
 refine db (G) zX ?_
 dsimp only
 refine c7 (X := Nat) (fun k => k ≤ xs.length ∧ ∀ y ∈ xs.take k, p y = false) (fun k => xs.length - k) (fun k => [(4, .any), (5, .any), (8, .v (.int .i64 (k : Int)))]) (fun k G' => G') 0 rfl ?_ ?_ (fun _ _ h => h) ?_ ?_ ?_
 ·exact ⟨by simp, by simp⟩
 ·exact zF
 ·rintro k hI
  exact zL
 ·exact fun _ _ _ _ h => .inl h
 rintro k hI
 dsimp only at hI ⊢
 refine yS fun _ K4 => ?_
 refine yR ?_
 refine aa rfl (cn rfl rfl rfl) ?_
 refine yN ?_
 dsimp only [St.put]
 refine K4 _ ?_
 refine yS fun _ K5 => ?_
 refine ak rfl (fun hc => ?_) (fun hc => ?_)
 ·replace hc := of_decide_eq_true hc
  obtain ⟨x, hx⟩ : ∃ x, xs[k]? = some x := cx (by omega)
  refine av ?_
  refine K5 _ ?_
  refine yS fun _ K6 => ?_
  refine az ?_
  refine yS fun _ K7 => ?_
  refine yR ?_
  refine yM rfl rfl ?_
  refine yA rfl rfl ?_
  refine yN ?_
  dsimp only [St.put]
  refine K7 _ ?_
  refine yS fun _ K8 => ?_
  refine yR ?_
  refine yM rfl rfl ?_
  refine yM rfl rfl ?_
  refine yM rfl rfl ?_
  refine aa rfl (bl rfl rfl rfl rfl (bn (by assumption)) (Enc.len _)) ?_
  refine yL rfl rfl rfl ?_
  try dsimp only [St.put]
  refine af rfl (ba rfl rfl rfl (hp x (ez hx)) ?_)
  refine yN ?_
  dsimp only [St.put]
  refine K8 _ ?_
  refine ak rfl (fun hc => ?_) (fun hc => ?_)
  ·skip
   refine yS fun _ K9 => ?_
   refine yR ?_
   refine yM rfl rfl ?_
   refine yA rfl rfl ?_
   refine yN ?_
   dsimp only [St.put]
   refine K9 _ ?_
   refine ax ?_
   refine bp rfl (by constructor) zN zS ?_
   exact vi (xz hx hc hI.2).symm
  skip
  refine av ?_
  refine K6 _ ?_
  refine yR ?_
  refine aa rfl (br rfl rfl rfl (by omega)) ?_
  refine yM rfl rfl ?_
  refine yN ?_
  dsimp only [St.put]
  exact ⟨k + 1, by omega, ⟨by omega, fun y hy => by
    rw [List.take_add_one, hx] at hy
    simp only [Option.toList_some, List.mem_append, List.mem_singleton] at hy
    rcases hy with hy | rfl
    ·exact hI.2 y hy
    simpa using hc⟩, ⟨⟨rfl, rfl⟩, zF, zB, zN, zX⟩⟩
 try replace hc := of_decide_eq_false hc
 refine cr ?_
 refine K2 _ ?_
 refine yS fun _ K10 => ?_
 refine yR ?_
 refine yA rfl rfl ?_
 refine yN ?_
 dsimp only [St.put]
 refine K10 _ ?_
 refine ax ?_
 refine bp rfl (by constructor) zN zS ?_
 exact vi (by
  rw [x4]
  have := hI.2
  rwa [f8 (by omega)] at this)
theorem ujo (xs : List ByteArray) (p : ByteArray → Bool) (k : Nat) (caps : List C) [Fun Tryd.prog k] (hp : ∀ x ∈ xs, Pure Tryd.prog k (.v (.string x) :: caps) (.v (.bool (p x)))) : Pure Tryd.prog 87 [lst xs, .fn (.func k) caps] (.v (.bool (xs.any p))) := by
 refine dm Tryd.func87 rfl (fun m => .v) fun G nx => ?_
 simp only [Tryd.ntmps87, List.length_cons, List.length_nil, Nat.reduceAdd, Nat.reduceSub]
 refine ct fun hlt => ?_
 dsimp only at hlt
 refine yS fun _ K1 => ?_
 refine yR ?_
 refine yA rfl rfl ?_
 refine yN ?_
 dsimp only [St.put]
 refine K1 _ ?_
 refine yS fun _ K2 => ?_
 refine yR ?_
 refine yM rfl rfl ?_
 refine yM rfl rfl ?_
 try dsimp only [St.put]
 refine af rfl (ba rfl rfl rfl (ujj xs p k caps hp) ?_)
 refine aa rfl (oz rfl rfl rfl) ?_
 refine yA rfl rfl ?_
 refine yN ?_
 dsimp only [St.put]
 refine K2 _ ?_
 refine ax ?_
 refine bp rfl (by constructor) zN zS ?_
 exact vb x5
theorem ujp (xs : List U8) (p : U8 → Bool) (k : Nat) (caps : List C) [Fun Tryd.prog k] (hp : ∀ x ∈ xs, Pure Tryd.prog k (.v (.int .u8 x.v) :: caps) (.v (.bool (p x)))) : Pure Tryd.prog 104 [lst xs, .fn (.func k) caps] (.v (.bool (xs.any p))) := by
 refine dm Tryd.func104 rfl (fun m => .v) fun G nx => ?_
 simp only [Tryd.ntmps104, List.length_cons, List.length_nil, Nat.reduceAdd, Nat.reduceSub]
 refine ct fun hlt => ?_
 dsimp only at hlt
 refine yS fun _ K1 => ?_
 refine yR ?_
 refine yA rfl rfl ?_
 refine yN ?_
 dsimp only [St.put]
 refine K1 _ ?_
 refine yS fun _ K2 => ?_
 refine yR ?_
 refine yM rfl rfl ?_
 refine yM rfl rfl ?_
 try dsimp only [St.put]
 refine af rfl (ba rfl rfl rfl (ujl xs p k caps hp) ?_)
 refine aa rfl (oz rfl rfl rfl) ?_
 refine yA rfl rfl ?_
 refine yN ?_
 dsimp only [St.put]
 refine K2 _ ?_
 refine ax ?_
 refine bp rfl (by constructor) zN zS ?_
 exact vb x5
theorem uhc (n lo hi : Int) : Pure Tryd.prog 102 [.v (.int .i64 n), .elem [.v (.int .i64 lo)], .elem [.v (.int .i64 hi)]] (.v (.bool (lv n lo hi))) := by
 refine dm Tryd.func102 rfl (fun m => .v) fun G nx => ?_
 simp only [Tryd.ntmps102, List.length_cons, List.length_nil, Nat.reduceAdd, Nat.reduceSub]
 refine ct fun hlt => ?_
 dsimp only at hlt
 refine yS fun _ K1 => ?_
 refine yR ?_
 refine yA rfl rfl ?_
 refine yN ?_
 dsimp only [St.put]
 refine K1 _ ?_
 refine yS fun _ K2 => ?_
 refine yR ?_
 refine yM rfl rfl ?_
 refine yL rfl rfl rfl ?_
 refine aa rfl (cn rfl rfl rfl) ?_
 refine yM rfl rfl ?_
 refine ep (fun hs => ?_) (fun hs => ?_)
 ·try replace hs := of_decide_eq_true hs
  refine yK rfl ?_
  refine yK rfl ?_
  refine yK rfl ?_
  refine aa rfl (ck rfl rfl (by constructor)) ?_
  refine yA rfl rfl ?_
  refine yN ?_
  dsimp only [St.put]
  refine K2 _ ?_
  refine ax ?_
  refine bp rfl (by constructor) zN zS ?_
  exact vb (by simp [lv, hs]; try omega)
 try replace hs := of_decide_eq_false hs
 refine yM rfl rfl ?_
 refine yL rfl rfl rfl ?_
 refine aa rfl (gq rfl rfl rfl) ?_
 refine aa rfl (bz rfl rfl (by constructor)) ?_
 refine yA rfl rfl ?_
 refine yN ?_
 dsimp only [St.put]
 refine K2 _ ?_
 refine ax ?_
 refine bp rfl (by constructor) zN zS ?_
 exact vb (by simp [lv, hs]; try omega)
theorem sk (lo hi : Int) (xs : List Int) : Pure Tryd.prog 86 [.v (.int .i64 lo), .v (.int .i64 hi), lst xs] (.v (.bool (uy lo hi xs))) := by
 refine dm Tryd.func86 rfl (fun m => .v) fun G nx => ?_
 simp only [Tryd.ntmps86, List.length_cons, List.length_nil, Nat.reduceAdd, Nat.reduceSub]
 refine ct fun hlt => ?_
 dsimp only at hlt
 refine yS fun _ K1 => ?_
 refine yR ?_
 try dsimp only [St.put]
 refine yB rfl rfl rfl ?_
 try dsimp only [St.put]
 refine yB rfl rfl rfl ?_
 refine yA rfl rfl ?_
 refine yN ?_
 dsimp only [St.put]
 refine K1 _ ?_
 refine yS fun _ K2 => ?_
 refine yR ?_
 refine yM rfl rfl ?_
 refine aa rfl (ubm rfl rfl) ?_
 try dsimp only [St.put]
 refine af rfl (ba rfl rfl rfl (udk xs (fun n => lv n lo hi) _ _ fun x _ => uhc x lo hi) ?_)
 refine aa rfl (dv rfl rfl) ?_
 refine yA rfl rfl ?_
 refine yN ?_
 dsimp only [St.put]
 refine K2 _ ?_
 refine ax ?_
 refine bp rfl (by constructor) zN zS ?_
 rfl
theorem udy (n : Int) : Pure Tryd.prog 105 [.v (.int .u8 n)] (.v (.bool (pq n))) := by
 refine dm Tryd.func105 rfl (fun m => .v) fun G nx => ?_
 simp only [Tryd.ntmps105, List.length_cons, List.length_nil, Nat.reduceAdd, Nat.reduceSub]
 refine ct fun hlt => ?_
 dsimp only at hlt
 refine yS fun _ K1 => ?_
 refine yR ?_
 refine yA rfl rfl ?_
 refine yN ?_
 dsimp only [St.put]
 refine K1 _ ?_
 refine yS fun _ K2 => ?_
 refine yR ?_
 refine yM rfl rfl ?_
 refine aa rfl (cn rfl rfl rfl) ?_
 refine yM rfl rfl ?_
 refine ep (fun hs => ?_) (fun hs => ?_)
 ·try replace hs := of_decide_eq_true hs
  refine yK rfl ?_
  refine yK rfl ?_
  refine aa rfl (ck rfl rfl (by constructor)) ?_
  refine yA rfl rfl ?_
  refine yN ?_
  dsimp only [St.put]
  refine K2 _ ?_
  refine ax ?_
  refine bp rfl (by constructor) zN zS ?_
  exact vb (by simp [pq, hs]; try omega)
 try replace hs := of_decide_eq_false hs
 refine yM rfl rfl ?_
 refine aa rfl (gq rfl rfl rfl) ?_
 refine aa rfl (bz rfl rfl (by constructor)) ?_
 refine yA rfl rfl ?_
 refine yN ?_
 dsimp only [St.put]
 refine K2 _ ?_
 refine ax ?_
 refine bp rfl (by constructor) zN zS ?_
 exact vb (by simp [pq, hs]; try omega)
theorem udx (s : ByteArray) : Pure Tryd.prog 89 [.v (.string s)] (.v (.bool (ko s))) := by
 refine dm Tryd.func89 rfl (fun m => .v) fun G nx => ?_
 simp only [Tryd.ntmps89, List.length_cons, List.length_nil, Nat.reduceAdd, Nat.reduceSub]
 refine ct fun hlt => ?_
 dsimp only at hlt
 refine yS fun _ K1 => ?_
 refine yR ?_
 refine yA rfl rfl ?_
 refine yN ?_
 dsimp only [St.put]
 refine K1 _ ?_
 refine yS fun _ K2 => ?_
 refine yR ?_
 refine yM rfl rfl ?_
 refine aa rfl (um rfl rfl) ?_
 try dsimp only [St.put]
 refine af rfl (ef rfl rfl rfl (by decide) (by decide) zR (by decide) ?_)
 try dsimp only [St.put]
 refine af rfl (ba rfl rfl rfl (sk _ _ [(s.size : Int)]) ?_)
 refine yM rfl rfl ?_
 refine ep (fun hs => ?_) (fun hs => ?_)
 ·rw [er] at hs
  refine yM rfl rfl ?_
  try dsimp only [St.put]
  refine af rfl (uh9 (by kernel_rfl) rfl rfl ?_)
  try dsimp only [St.put]
  refine af rfl (ba rfl rfl rfl (ujp (u8s s) (fun x => pq x.v) _ _ fun x _ => udy x.v) ?_)
  refine aa rfl (dv rfl rfl) ?_
  refine aa rfl (ck rfl rfl (by constructor)) ?_
  refine yA rfl rfl ?_
  refine yN ?_
  dsimp only [St.put]
  refine K2 _ ?_
  refine ax ?_
  refine bp rfl (by constructor) zN zS ?_
  exact vb (by rw [zc, hs]; rfl)
 rw [er] at hs
 refine yK rfl ?_
 refine yK rfl ?_
 refine yK rfl ?_
 refine yK rfl ?_
 refine aa rfl (bz rfl rfl (by constructor)) ?_
 refine yA rfl rfl ?_
 refine yN ?_
 dsimp only [St.put]
 refine K2 _ ?_
 refine ax ?_
 refine bp rfl (by constructor) zN zS ?_
 exact vb (by rw [zc, hs]; rfl)
theorem uhd (s : ByteArray) : Pure Tryd.prog 88 [.v (.string s)] (.v (.bool (!ko s))) := by
 refine dm Tryd.func88 rfl (fun m => .v) fun G nx => ?_
 simp only [Tryd.ntmps88, List.length_cons, List.length_nil, Nat.reduceAdd, Nat.reduceSub]
 refine ct fun hlt => ?_
 dsimp only at hlt
 refine yS fun _ K1 => ?_
 refine yR ?_
 refine yA rfl rfl ?_
 refine yN ?_
 dsimp only [St.put]
 refine K1 _ ?_
 refine yS fun _ K2 => ?_
 refine yR ?_
 refine yM rfl rfl ?_
 try dsimp only [St.put]
 refine af rfl (ba rfl rfl rfl (udx _) ?_)
 refine aa rfl (dv rfl rfl) ?_
 refine yA rfl rfl ?_
 refine yN ?_
 dsimp only [St.put]
 refine K2 _ ?_
 refine ax ?_
 refine bp rfl (by constructor) zN zS ?_
 rfl
theorem ubx (t : aj) : Pure Tryd.prog 66 [eu t] (.v (.int .i64 (ie t))) := by
 refine dm Tryd.func66 rfl (fun m => .v) fun G nx => ?_
 simp only [Tryd.ntmps66, List.length_cons, List.length_nil, Nat.reduceAdd, Nat.reduceSub]
 refine ct fun hlt => ?_
 dsimp only at hlt
 refine jn 0 (fun hf => ?_)
 replace hf := rq hf
 have hf0 := hf.len
 refine yS fun _ K1 => ?_
 refine yR ?_
 try dsimp only [St.put]
 refine yB rfl rfl rfl ?_
 refine yA rfl rfl ?_
 refine yN ?_
 dsimp only [St.put]
 refine K1 _ ?_
 refine yv ?_
 refine yS fun _ K2 => ?_
 refine yS fun _ K3 => ?_
 refine yR ?_
 refine yF rfl rfl rfl rfl ?_
 refine yL rfl rfl rfl ?_
 refine aa rfl (bg rfl rfl (List.length_map _)) ?_
 try dsimp only [St.put]
 refine af rfl (ef rfl rfl rfl (by decide) (by decide) zR (by decide) ?_)
 try dsimp only [St.put]
 refine af rfl (ba rfl rfl rfl (sk _ _ [(t.length : Int)]) ?_)
 refine aa rfl (dv rfl rfl) ?_
 refine yN ?_
 dsimp only [St.put]
 refine K3 _ ?_
 refine ak rfl (fun hc => ?_) (fun hc => ?_)
 ·have hin : inB t.length 1 6 = false := by rw [er] at hc; simpa using hc
  refine yS fun _ K4 => ?_
  refine yR ?_
  refine yA rfl rfl ?_
  refine yN ?_
  dsimp only [St.put]
  refine K4 _ ?_
  refine ax ?_
  refine bp rfl (by constructor) zN zS ?_
  exact vi (ued hin).symm
 have hin : inB t.length 1 6 = true := by rw [er] at hc; simpa using hc
 refine av ?_
 refine K2 _ ?_
 refine yS fun _ K5 => ?_
 refine yR ?_
 refine yA rfl rfl ?_
 refine yN ?_
 dsimp only [St.put]
 refine K5 _ ?_
 refine yS fun _ K6 => ?_
 refine yR ?_
 try dsimp only [St.put]
 refine af rfl (qv (α := Int) rfl ?_)
 refine yA rfl rfl ?_
 refine yN ?_
 dsimp only [St.put]
 refine K6 _ ?_
 refine yS fun _ K7 => ?_
 refine yw ?_
 refine K7 _ ?_
 refine yS fun _ K8 => ?_
 refine yS fun _ K9 => ?_
 refine yR ?_
 refine yF rfl rfl rfl rfl ?_
 refine yL rfl rfl rfl ?_
 refine aa rfl (bg rfl rfl (List.length_map _)) ?_
 refine yM rfl rfl ?_
 refine yN ?_
 dsimp only [St.put]
 refine K9 _ ?_
 refine az ?_
 refine cj 20 ?_
 refine zQ ?_
 refine db (ai G nx (fe Tryd.prog 3 0 fun _ => none)) zX ?_
 dsimp only
 refine c7 (X := Nat) (fun k => k ≤ t.length ∧ (t.take k).all i9 = true ∧ ((t.take k).map (·.id)).Nodup) (fun k => t.length - k) (fun k => [(2, .v (.int .i64 0)), (3, .v (.int .i64 0)), (5, .any), (6, .any), (7, .any), (8, .any), (19, .v (.int .i64 (k : Int)))]) (fun k G' => ai G nx (fe Tryd.prog 3 k (fy ((t.take k).map (·.id))))) 0 rfl ?_ ?_ ?_ ?_ ?_ ?_
 ·exact ⟨by simp, by simp, by simp⟩
 ·exact zF
 ·rw [show fy ((t.take 0).map (·.id)) = fun _ => none from x7]
  exact zX
 ·rintro k hI
  exact (by (try dsimp only); repeat' (first | exact trivial | refine ⟨?_, ?_⟩ | exact .v | exact .any | refine .elem ?_ | exact ar _ _ | exact c6 _ _ | exact cw _ _ | exact cy _ (by (try dsimp only); omega) | exact .box (by (try dsimp only); omega) | exact c5 | exact cg | exact ei (gj _ _) | refine c4 ?_ ?_ | exact .arr (by (try dsimp only); omega) | exact .own (by (try dsimp only); omega) | exact .map (by (try dsimp only); omega) | exact cc _ | refine bk ?_ ?_ | exact ar _ _))
 ·rintro k hI
  exact (by (repeat' (refine et ?_ (by (try dsimp only); omega) ?_)); all_goals (first | exact fq zS | (repeat' (first | exact trivial | refine ⟨?_, ?_⟩ | exact .v | exact .any | refine .elem ?_ | exact ar _ _ | exact c6 _ _ | exact cw _ _ | exact cy _ (by (try dsimp only); omega) | exact .box (by (try dsimp only); omega) | exact c5 | exact cg | exact ei (gj _ _) | refine c4 ?_ ?_ | exact .arr (by (try dsimp only); omega) | exact .own (by (try dsimp only); omega) | exact .map (by (try dsimp only); omega) | exact cc _ | refine bk ?_ ?_ | exact ar _ _))))
 rintro k hI
 dsimp only at hI ⊢
 refine yS fun _ K10 => ?_
 refine yR ?_
 refine aa rfl (cn rfl rfl rfl) ?_
 refine yN ?_
 dsimp only [St.put]
 refine K10 _ ?_
 refine yS fun _ K11 => ?_
 refine ak rfl (fun hc => ?_) (fun hc => ?_)
 ·replace hc := of_decide_eq_true hc
  obtain ⟨c, hx⟩ : ∃ x, t[k]? = some x := cx (by omega)
  have hf1 := hf.lines c (ez hx)
  refine av ?_
  refine K11 _ ?_
  refine yS fun _ K12 => ?_
  refine az ?_
  refine yS fun _ K13 => ?_
  refine yR ?_
  refine aa rfl (bl rfl rfl rfl rfl (bn (by assumption)) (Enc.len _)) ?_
  refine yE rfl rfl rfl ?_
  try dsimp only [St.put]
  refine af rfl (eh rfl ?_)
  try dsimp only [St.put]
  refine af rfl (dt rfl rfl rfl zG rfl rfl (by rfl) ?_)
  refine yN ?_
  dsimp only [St.put]
  refine K13 _ ?_
  refine eo (i := 6) rfl zG zC ?_
  dsimp only
  refine yS fun _ K14 => ?_
  refine cj 20 ?_
  refine zQ ?_
  refine ix (X := Bool) (fun b => (b = true → inB c.id 0 9999 = false ∨ c.id ∈ (t.take k).map (·.id) ∨ inB c.lines.length 1 10 = false) ∧ (b = false → inB c.id 0 9999 = true ∧ ¬ c.id ∈ (t.take k).map (·.id) ∧ inB c.lines.length 1 10 = true)) (fun b => [(41, .v (.bool b))]) (fun b G' => G') rfl ?_ (fun _ _ _ _ h => .inl h) ?_ ?_
  ·rintro b hI
   exact (by (try dsimp only); repeat' (first | exact trivial | refine ⟨?_, ?_⟩ | exact .v | exact .any | refine .elem ?_ | exact ar _ _ | exact c6 _ _ | exact cw _ _ | exact cy _ (by (try dsimp only); omega) | exact .box (by (try dsimp only); omega) | exact c5 | exact cg | exact ei (gj _ _) | refine c4 ?_ ?_ | exact .arr (by (try dsimp only); omega) | exact .own (by (try dsimp only); omega) | exact .map (by (try dsimp only); omega) | exact cc _ | refine bk ?_ ?_ | exact ar _ _))
  ·refine yR ?_
   refine yF rfl rfl rfl rfl ?_
   refine yL rfl rfl rfl ?_
   try dsimp only [St.put]
   refine af rfl (ef rfl rfl rfl (by decide) (by decide) zR (by decide) ?_)
   try dsimp only [St.put]
   refine af rfl (ba rfl rfl rfl (sk _ _ [c.id]) ?_)
   refine aa rfl (dv rfl rfl) ?_
   refine yM rfl rfl ?_
   refine ep (fun hs => ?_) (fun hs => ?_)
   ·have h5 : inB c.id 0 9999 = false := by rw [er] at hs; simpa using hs
    refine yK rfl ?_
    refine yK rfl ?_
    refine yK rfl ?_
    refine yK rfl ?_
    refine aa rfl (ck rfl rfl (by constructor)) ?_
    refine yM rfl rfl ?_
    refine yK rfl ?_
    refine yK rfl ?_
    refine yK rfl ?_
    refine yK rfl ?_
    refine yK rfl ?_
    refine yK rfl ?_
    refine aa rfl (ck rfl rfl (by constructor)) ?_
    refine yN ?_
    dsimp only [St.put]
    refine ⟨_, ?_, ⟨⟨rfl, rfl⟩, zF, zB, zN, zX⟩⟩
    first
     | (exact ⟨fun _ => .inl h5, fun h => by cases h⟩)
     | (exact ⟨fun _ => .inr (.inl h11), fun h => by cases h⟩)
     | (rw [er]; exact ⟨fun h => .inr (.inr (by simpa using h)), fun h => ⟨h5, h11, by simpa using h⟩⟩)
   have h5 : inB c.id 0 9999 = true := by rw [er] at hs; simpa using hs
   refine yM rfl rfl ?_
   refine yF rfl rfl rfl rfl ?_
   refine yL rfl rfl rfl ?_
   try dsimp only [St.put]
   refine du rfl (na c.id rfl rfl zG trivial rfl (x8 _ _)) ?_
   refine aa rfl (bz rfl rfl (by constructor)) ?_
   refine yM rfl rfl ?_
   refine ep (fun hs => ?_) (fun hs => ?_)
   ·have h11 := of_decide_eq_true hs
    refine yK rfl ?_
    refine yK rfl ?_
    refine yK rfl ?_
    refine yK rfl ?_
    refine yK rfl ?_
    refine yK rfl ?_
    refine aa rfl (ck rfl rfl (by constructor)) ?_
    refine yN ?_
    dsimp only [St.put]
    refine ⟨_, ?_, ⟨⟨rfl, rfl⟩, zF, zB, zN, zX⟩⟩
    first
     | (exact ⟨fun _ => .inl h5, fun h => by cases h⟩)
     | (exact ⟨fun _ => .inr (.inl h11), fun h => by cases h⟩)
     | (rw [er]; exact ⟨fun h => .inr (.inr (by simpa using h)), fun h => ⟨h5, h11, by simpa using h⟩⟩)
   have h11 := of_decide_eq_false hs
   refine yF rfl rfl rfl rfl ?_
   refine yL rfl rfl rfl ?_
   refine aa rfl (bg rfl rfl (List.length_map _)) ?_
   try dsimp only [St.put]
   refine af rfl (ef rfl rfl rfl (by decide) (by decide) zR (by decide) ?_)
   try dsimp only [St.put]
   refine af rfl (ba rfl rfl rfl (sk _ _ [(c.lines.length : Int)]) ?_)
   refine aa rfl (dv rfl rfl) ?_
   refine aa rfl (bz rfl rfl (by constructor)) ?_
   refine yN ?_
   dsimp only [St.put]
   refine ⟨_, ?_, ⟨⟨rfl, rfl⟩, zF, zB, zN, zX⟩⟩
   first
    | (exact ⟨fun _ => .inl h5, fun h => by cases h⟩)
    | (exact ⟨fun _ => .inr (.inl h11), fun h => by cases h⟩)
    | (rw [er]; exact ⟨fun h => .inr (.inr (by simpa using h)), fun h => ⟨h5, h11, by simpa using h⟩⟩)
  rintro b hst
  dsimp only at hst ⊢
  refine ak rfl (fun hc => ?_) (fun hc => ?_)
  ·replace hst := hst.1 hc
   refine yS fun _ K16 => ?_
   refine yR ?_
   refine yA rfl rfl ?_
   refine yN ?_
   dsimp only [St.put]
   refine K16 _ ?_
   refine ax ?_
   refine bp rfl (by constructor) zN zS ?_
   exact vi (by
    rcases hst with h | h | h
    ·exact (wj (j0 hx (by simp [i9, h]))).symm
    ·refine (uec fun hn => ?_).symm
     have h2 : ((t.take (k + 1)).map (·.id)).Nodup := hn.sublist (List.Sublist.map _ (List.take_sublist _ _))
     rw [lf (f := (·.id)) hx, List.nodup_append] at h2
     exact h2.2.2 _ h _ (List.mem_singleton.2 rfl) rfl
    exact (wj (j0 hx (by simp [i9, h]))).symm)
  replace hst := hst.2 hc
  refine av ?_
  refine K14 _ ?_
  refine yS fun _ K17 => ?_
  refine yR ?_
  refine yM rfl rfl ?_
  refine yF rfl rfl rfl rfl ?_
  refine yL rfl rfl rfl ?_
  try dsimp only [St.put]
  refine af rfl (lk (c.id) rfl rfl rfl zG rfl (uhj hx) ?_)
  refine yN ?_
  dsimp only [St.put]
  refine K17 _ ?_
  refine yS fun _ K18 => ?_
  refine yR ?_
  refine yF rfl rfl rfl rfl ?_
  refine yL rfl rfl rfl ?_
  refine aa rfl (bg rfl rfl (List.length_map _)) ?_
  refine yM rfl rfl ?_
  refine yN ?_
  dsimp only [St.put]
  refine K18 _ ?_
  refine az ?_
  refine cj 49 ?_
  refine zQ ?_
  refine db (ai G nx (fe Tryd.prog 3 (k + 1) (fy ((t.take (k + 1)).map (·.id))))) zX ?_
  dsimp only
  refine c7 (X := Nat) (fun n => n ≤ c.lines.length ∧ (c.lines.take n).all ke = true) (fun n => c.lines.length - n) (fun n => [(8, .any), (48, .v (.int .i64 (n : Int)))]) (fun n G' => G') 0 rfl ?_ ?_ (fun _ _ h => h) ?_ ?_ ?_
  ·exact ⟨by simp, by simp⟩
  ·exact zF
  ·rintro n hI
   exact (by (try dsimp only); repeat' (first | exact trivial | refine ⟨?_, ?_⟩ | exact .v | exact .any | refine .elem ?_ | exact ar _ _ | exact c6 _ _ | exact cw _ _ | exact cy _ (by (try dsimp only); omega) | exact .box (by (try dsimp only); omega) | exact c5 | exact cg | exact ei (gj _ _) | refine c4 ?_ ?_ | exact .arr (by (try dsimp only); omega) | exact .own (by (try dsimp only); omega) | exact .map (by (try dsimp only); omega) | exact cc _ | refine bk ?_ ?_ | exact ar _ _))
  ·exact fun _ _ _ _ h => .inl h
  rintro n hJ
  dsimp only at hJ ⊢
  refine yS fun _ K19 => ?_
  refine yR ?_
  refine aa rfl (cn rfl rfl rfl) ?_
  refine yN ?_
  dsimp only [St.put]
  refine K19 _ ?_
  refine yS fun _ K20 => ?_
  refine ak rfl (fun hc => ?_) (fun hc => ?_)
  ·replace hc := of_decide_eq_true hc
   obtain ⟨l, hl⟩ : ∃ x, c.lines[n]? = some x := cx (by omega)
   have hf2 := hf.words c (ez hx) l (ez hl)
   refine av ?_
   refine K20 _ ?_
   refine yS fun _ K21 => ?_
   refine az ?_
   refine yS fun _ K22 => ?_
   refine yR ?_
   refine aa rfl (bl rfl rfl rfl rfl (bn (by assumption)) (Enc.len _)) ?_
   refine yL rfl rfl rfl ?_
   refine yA rfl rfl ?_
   refine yN ?_
   dsimp only [St.put]
   refine K22 _ ?_
   refine cj 49 ?_
   refine zQ ?_
   refine ix (X := Bool) (fun b => b = !ke l) (fun b => [(60, .v (.bool b))]) (fun b G' => G') rfl ?_ (fun _ _ _ _ h => .inl h) ?_ ?_
   ·rintro b hI
    exact (by (try dsimp only); repeat' (first | exact trivial | refine ⟨?_, ?_⟩ | exact .v | exact .any | refine .elem ?_ | exact ar _ _ | exact c6 _ _ | exact cw _ _ | exact cy _ (by (try dsimp only); omega) | exact .box (by (try dsimp only); omega) | exact c5 | exact cg | exact ei (gj _ _) | refine c4 ?_ ?_ | exact .arr (by (try dsimp only); omega) | exact .own (by (try dsimp only); omega) | exact .map (by (try dsimp only); omega) | exact cc _ | refine bk ?_ ?_ | exact ar _ _))
   ·refine yR ?_
    refine yM rfl rfl ?_
    refine aa rfl (bg rfl rfl (List.length_map _)) ?_
    try dsimp only [St.put]
    refine af rfl (ef rfl rfl rfl (by decide) (by decide) zR (by decide) ?_)
    try dsimp only [St.put]
    refine af rfl (ba rfl rfl rfl (sk _ _ [(l.length : Int)]) ?_)
    refine aa rfl (dv rfl rfl) ?_
    refine yM rfl rfl ?_
    refine ep (fun hs => ?_) (fun hs => ?_)
    ·have h5 : inB l.length 1 10 = false := by rw [er] at hs; simpa using hs
     refine yK rfl ?_
     refine yK rfl ?_
     refine aa rfl (ck rfl rfl (by constructor)) ?_
     refine yN ?_
     dsimp only [St.put]
     refine ⟨_, ?_, ⟨⟨rfl, rfl⟩, zF, zB, zN, zX⟩⟩
     rw [ubv, h5]
     simp
    have h5 : inB l.length 1 10 = true := by rw [er] at hs; simpa using hs
    refine yM rfl rfl ?_
    try dsimp only [St.put]
    refine af rfl (ba rfl rfl rfl (ujo l (fun s => !ko s) _ _ fun s _ => uhd s) ?_)
    refine aa rfl (bz rfl rfl (by constructor)) ?_
    refine yN ?_
    dsimp only [St.put]
    refine ⟨_, ?_, ⟨⟨rfl, rfl⟩, zF, zB, zN, zX⟩⟩
    rw [ubv, h5]
    simp
   rintro b hst2
   dsimp only at hst2 ⊢
   refine ak rfl (fun hc => ?_) (fun hc => ?_)
   ·have hln : ke l = false := by rw [hc] at hst2; simpa using hst2.symm
    have her : ie t = 10 := wj (j0 hx (by simp [i9, j0 hl hln]))
    refine yS fun _ K24 => ?_
    refine yR ?_
    refine yA rfl rfl ?_
    refine yN ?_
    dsimp only [St.put]
    refine K24 _ ?_
    refine cr ?_
    refine K8 _ ?_
    refine yS fun _ K25 => ?_
    refine yR ?_
    refine yM rfl rfl ?_
    refine yA rfl rfl ?_
    refine yN ?_
    dsimp only [St.put]
    refine K25 _ ?_
    refine ax ?_
    refine bp rfl (by constructor) zN zS ?_
    exact vi her.symm
   have hln : ke l = true := by rw [hc] at hst2; simpa using hst2.symm
   refine av ?_
   refine K21 _ ?_
   refine yR ?_
   refine aa rfl (br rfl rfl rfl (by omega)) ?_
   refine yM rfl rfl ?_
   refine yN ?_
   dsimp only [St.put]
   exact ⟨n + 1, by omega, ⟨by omega, by rw [pr hl, hJ.2, hln]; rfl⟩, ⟨⟨rfl, rfl⟩, zF, zB, zN, zX⟩⟩
  try replace hc := of_decide_eq_false hc
  refine cr ?_
  refine K12 _ ?_
  refine yR ?_
  refine aa rfl (br rfl rfl rfl (by omega)) ?_
  refine yM rfl rfl ?_
  refine yN ?_
  dsimp only [St.put]
  exact ⟨k + 1, by omega, ⟨by omega, by
    rw [pr hx, hI.2.1]
    have h1 := hJ.2
    rw [f8 (by omega)] at h1
    simp [i9, hst.1, hst.2.2, h1], by
    rw [lf (f := (·.id)) hx]
    exact xh hI.2.2 hst.2.1⟩, ⟨⟨rfl, rfl⟩, zF, zB, zN, zX⟩⟩
 have hk : t.length ≤ k := by have := of_decide_eq_false hc; omega
 have her : ie t = 0 := by
  have h1 := hI.2
  rw [f8 hk] at h1
  simp [ie, dl, hin, h1.1, h1.2]
 refine cr ?_
 refine K8 _ ?_
 refine yS fun _ K26 => ?_
 refine yR ?_
 refine yM rfl rfl ?_
 refine yA rfl rfl ?_
 refine yN ?_
 dsimp only [St.put]
 refine K26 _ ?_
 refine ax ?_
 refine bp rfl (by constructor) zN zS ?_
 exact vi her.symm
end Go.Proofs.YtgffhbbcpgdjjaaDoor
namespace Go.AB
open Go Go.RowKit
open Go.AB.Enc (cells)
open Go.PB (ay aj PlaceD)
end Go.AB
namespace Go.Proofs.YtgffhbbcpgdjjaaDoor
set_option maxRecDepth 10000
open Go.RowKit Go.AB
open Go.AB.Enc (cells)
open Go.PB (ay aj PlaceD bh bj bi)
end Go.Proofs.YtgffhbbcpgdjjaaDoor
namespace Go.AB
open Go Go.RowKit
open Go.AB.Enc (cells)
open Go.PB (ay aj PlaceD bh bj bi)
end Go.AB
namespace Go.Proofs.YtgffhbbcpgdjjaaDoor
set_option maxRecDepth 10000
open Go.RowKit Go.AB
open Go.AB.Enc (cells)
open Go.PB (ay aj PlaceD bh bj bi)
end Go.Proofs.YtgffhbbcpgdjjaaDoor
namespace Go.AB
open Go Go.RowKit
open Go.AB.Enc (cells)
open Go.PB (ay aj PlaceD bh bj bi)
theorem ug7 {t : aj} (ht : dl t = true) : (nj t).length ≤ 60 := by
 rw [← z6 t [], List.length_map]
 exact uff ht []
end Go.AB
namespace Go.Proofs.YtgffhbbcpgdjjaaDoor
set_option maxRecDepth 10000
open Go.RowKit Go.AB
open Go.AB.Enc (cells)
open Go.PB (ay aj PlaceD bh bj bi)
end Go.Proofs.YtgffhbbcpgdjjaaDoor
namespace Go.AB
open Go Go.RowKit
open Go.PB (ay aj PlaceD bh bj bi)
/-! ### Lines and numbers of a sound edition -/
/-! ### Lines that are moved -/
/-! ### Splitting and joining -/
end Go.AB
namespace Go.AB
open Go Go.RowKit
open Go.AB.Enc (cells)
open Go.PB (ay aj PlaceD bh bj bi)
/-! ### The words of a line -/
def gp (t : aj) (p : L2) : Option (List ByteArray) := bif inB p.1 0 ((t.length : Int) - 1) && inB p.2 0 ((kr t p.1 : Int) - 1) then (t[p.1.toNat]?).bind (fun c => c.lines[p.2.toNat]?) else none
def ey (t : aj) (p : PlaceD) : Bool := match gp t (p.ch, p.ln) with
 | some l => inB p.wd 0 ((l.length : Int) - 1)
 | none => false
theorem we {t : aj} {k n : Nat} {c : ay} {l : List ByteArray} (hc : t[k]? = some c) (hl : c.lines[n]? = some l) : gp t ((k : Int), (n : Int)) = some l := by
 have h1 := (List.getElem?_eq_some_iff.1 hc).1
 have h2 := (List.getElem?_eq_some_iff.1 hl).1
 have h3 : kr t (k : Int) = c.lines.length := ubi rfl hc
 have e1 : inB (k : Int) 0 ((t.length : Int) - 1) = true := inB_true.2 (by omega)
 have e2 : inB (n : Int) 0 ((kr t (k : Int) : Int) - 1) = true := inB_true.2 (by omega)
 simp only [gp, e1, e2, Bool.and_self, cond_true, Int.toNat_natCast, hc, Option.bind_some, hl]
theorem rn {t : aj} {p : L2} {l : List ByteArray} (h : gp t p = some l) : ∃ (k n : Nat) (c : ay), p = ((k : Int), (n : Int)) ∧ t[k]? = some c ∧ c.lines[n]? = some l := by
 unfold gp at h
 cases h1 : inB p.1 0 ((t.length : Int) - 1) with
 | false => rw [h1] at h; cases h
 | true =>
  cases h2 : inB p.2 0 ((kr t p.1 : Int) - 1) with
  | false => rw [h1, h2] at h; cases h
  | true =>
   rw [h1, h2] at h
   simp only [Bool.and_self, cond_true] at h
   rw [inB_true] at h1 h2
   cases hc : t[p.1.toNat]? with
   | none => rw [hc] at h; cases h
   | some c =>
    rw [hc, Option.bind_some] at h
    exact ⟨p.1.toNat, p.2.toNat, c, by rw [Prod.ext_iff]; constructor <;> (dsimp only; omega), hc, h⟩
theorem placeB_true {t : aj} {p : PlaceD} : ey t p = true ↔ ∃ l, gp t (p.ch, p.ln) = some l ∧ 0 ≤ p.wd ∧ p.wd < l.length := by
 unfold ey
 cases h : gp t (p.ch, p.ln) with
 | none => simp
 | some l =>
  simp only [inB_true, Option.some.injEq]
  constructor
  ·exact fun h => ⟨l, rfl, by omega, by omega⟩
  ·rintro ⟨l', rfl, h1, h2⟩; omega
theorem tg {t : aj} (ht : dl t = true) {p : L2} {l : List ByteArray} (h : gp t p = some l) : 0 ≤ p.1 ∧ p.1 ≤ 5 ∧ 0 ≤ p.2 ∧ p.2 ≤ 9 ∧ 1 ≤ l.length ∧ l.length ≤ 10 := by
 obtain ⟨k, n, c, rfl, hc, hl⟩ := rn h
 obtain ⟨h1, h2, h3⟩ := jo ht
 obtain ⟨h4, h5, h6⟩ := h3 c (List.mem_of_getElem? hc)
 have h7 := h6 l (List.mem_of_getElem? hl)
 have h8 := (List.getElem?_eq_some_iff.1 hc).1
 have h9 := (List.getElem?_eq_some_iff.1 hl).1
 dsimp only
 omega
theorem mem_rows {t : aj} {ss : List j5} {r : RowD} : r ∈ mn t ss ↔ ∃ p l, gp t p = some l ∧ r = wx ss p l.length := by
 unfold mn
 constructor
 ·intro h
  obtain ⟨l, hl, hr⟩ := List.mem_flatten.1 h
  obtain ⟨k, hk, rfl⟩ := List.mem_mapIdx.1 hl
  obtain ⟨n, hn, rfl⟩ := List.mem_mapIdx.1 hr
  exact ⟨_, _, we (List.getElem?_eq_getElem hk) (List.getElem?_eq_getElem hn), rfl⟩
 ·rintro ⟨p, l, hw, rfl⟩
  obtain ⟨k, n, c, rfl, hc, hl⟩ := rn hw
  have h8 := (List.getElem?_eq_some_iff.1 hc)
  have h9 := (List.getElem?_eq_some_iff.1 hl)
  refine List.mem_flatten.2 ⟨_, List.mem_mapIdx.2 ⟨k, h8.1, rfl⟩, List.mem_mapIdx.2 ⟨n, by rw [h8.2]; exact h9.1, ?_⟩⟩
  congr 2
  simp only [h8.2, h9.2]
theorem mem_lines {t : aj} {p : L2} : p ∈ nj t ↔ ∃ l, gp t p = some l := by
 rw [← z6 t [], List.mem_map]
 constructor
 ·rintro ⟨r, hr, rfl⟩
  obtain ⟨q, l, hw, rfl⟩ := mem_rows.1 hr
  exact ⟨l, hw⟩
 ·rintro ⟨l, hw⟩
  exact ⟨_, mem_rows.2 ⟨p, l, hw, rfl⟩, rfl⟩
/-! ### References -/
/-! ### Where they lead -/
/-! ### Two editions -/
/-! ### Lines in order -/
def ltL (a b : L2) : Prop := a.1 < b.1 ∨ a.1 = b.1 ∧ a.2 < b.2
/-! ### A list into which one is put -/
theorem ug6 (t : aj) : (nj t).Pairwise ltL := by
 unfold nj
 rw [List.pairwise_flatten]
 constructor
 ·intro l hl
  obtain ⟨k, hk, rfl⟩ := List.mem_mapIdx.1 hl
  rw [List.pairwise_iff_getElem]
  intro i j hi hj hij
  simp only [List.getElem_mapIdx]
  right
  exact ⟨rfl, by dsimp only; omega⟩
 ·rw [List.pairwise_iff_getElem]
  intro i j hi hj hij x hx y hy
  simp only [List.getElem_mapIdx] at hx hy
  obtain ⟨a, ha, rfl⟩ := List.mem_mapIdx.1 hx
  obtain ⟨b, hb, rfl⟩ := List.mem_mapIdx.1 hy
  left
  dsimp only
  omega
theorem th {t : aj} {p : L2} : (gp t p).isSome = (inB p.1 0 ((t.length : Int) - 1) && inB p.2 0 ((kr t p.1 : Int) - 1)) := by
 unfold gp
 cases h1 : inB p.1 0 ((t.length : Int) - 1) with
 | false => rfl
 | true =>
  cases h2 : inB p.2 0 ((kr t p.1 : Int) - 1) with
  | false => rfl
  | true =>
   simp only [Bool.and_self, cond_true]
   rw [inB_true] at h1 h2
   have hk : p.1.toNat < t.length := by omega
   have hn : kr t p.1 = t[p.1.toNat].lines.length := ubi (k := p.1.toNat) (by omega) (List.getElem?_eq_getElem hk)
   rw [List.getElem?_eq_getElem hk, Option.bind_some, List.getElem?_eq_getElem (by omega)]
   rfl
/-! ### What is found first -/
end Go.AB
namespace Go.AB
open Go Go.RowKit
open Go.PB (ay aj PlaceD bh bj bi)
theorem udv {t : aj} (ht : dl t = true) (p : L2) : ((gp t p).getD []).length ≤ 10 := by
 cases h : gp t p with
 | none => simp
 | some l => have := tg ht h; simp only [Option.getD_some]; omega
end Go.AB
namespace Go.Proofs.YtgffhbbcpgdjjaaDoor
set_option maxRecDepth 10000
open Go.RowKit Go.AB
open Go.AB.Enc (cells)
open Go.PB (ay aj PlaceD bh bj bi)
theorem ufn (t : aj) (p : PlaceD) (ht : dl t = true) : Pure Tryd.prog 109 [eu t, val p] (.tup [lst ((gp t (p.ch, p.ln)).getD []), .v (.bool (gp t (p.ch, p.ln)).isSome)]) := by
 refine dm Tryd.func109 rfl (fun m => .tup (bk (ar _ _) (bk .v cg))) fun G nx => ?_
 simp only [Tryd.ntmps109, List.length_cons, List.length_nil, Nat.reduceAdd, Nat.reduceSub]
 refine ct fun hlt => ?_
 dsimp only at hlt
 obtain ⟨hl1, hl2, hl3⟩ := jo ht
 refine yS fun _ K1 => ?_
 refine yR ?_
 try dsimp only [St.put]
 refine yB rfl rfl rfl ?_
 try dsimp only [St.put]
 refine yB rfl rfl rfl ?_
 refine yA rfl rfl ?_
 refine yA rfl rfl ?_
 refine yN ?_
 dsimp only [St.put]
 refine K1 _ ?_
 refine yS fun _ K2 => ?_
 refine cj 6 ?_
 refine zQ ?_
 refine ix (X := Bool) (fun b => b = !(gp t (p.ch, p.ln)).isSome) (fun b => [(28, .v (.bool b))]) (fun b G' => G') rfl ?_ (fun _ _ _ _ h => .inl h) ?_ ?_
 ·rintro b hI
  exact zL
 ·refine o8 [(0, none), (1, none), (2, none), (3, none), (4, none), (5, none)] (fun _ => false) (fun i => [0, 2, 4, 5].contains i) 17 (rl [6, 17]) (by kernel_rfl) (by kernel_rfl) ?_
  refine ae rfl rfl rfl rfl (cb rfl rfl rfl) ?_
  try dsimp only [St.put]
  refine aw rfl rfl rfl rfl (bv rfl rfl) ?_
  refine ae rfl rfl rfl rfl (cb rfl rfl rfl) ?_
  try dsimp only [St.put]
  refine aw rfl rfl rfl rfl (bv rfl rfl) ?_
  refine ae rfl rfl rfl rfl (bg rfl rfl (List.length_map _)) ?_
  refine ae rfl rfl rfl rfl (gm rfl rfl rfl (by omega)) ?_
  refine bq ?_
  refine dc [6] (by kernel_rfl) (by simp) ?_
  refine dg ?_ ?_
  ·try dsimp only [St.put]
   refine gu rfl rfl rfl (ba rfl rfl rfl (oe _ _ _) ?_)
   refine d8 [(7, none), (8, none), (9, none), (10, none), (11, none), (12, none), (13, none), (14, none), (15, none), (16, none), (17, none), (18, none), (19, none)] (fun i => [7, 8, 9, 11, 13, 15, 16, 18, 19].contains i) 3 (rl [20, 3]) (by kernel_rfl) ?_
   refine ae rfl rfl rfl rfl (dv rfl rfl) ?_
   refine xM rfl rfl rfl rfl rfl ?_
   refine il (fun hs => ?_) (fun hs => ?_)
   ·have h8 : inB p.ch 0 ((t.length : Int) - 1) = false := by simpa using hs
    refine ah rfl rfl rfl ?_
    refine ah rfl rfl rfl ?_
    refine ah rfl rfl rfl ?_
    refine ah rfl rfl rfl ?_
    refine ah rfl rfl rfl ?_
    refine ah rfl rfl rfl ?_
    refine ah rfl rfl rfl ?_
    refine ah rfl rfl rfl ?_
    refine ah rfl rfl rfl ?_
    refine ah rfl rfl rfl ?_
    refine ah rfl rfl rfl ?_
    refine bq ?_
    refine dc [20] (by kernel_rfl) (by simp) ?_
    refine dg ?_ ?_
    ·refine fa rfl rfl rfl ?_
     refine d8 [(21, none), (22, none)] (fun i => [21, 22].contains i) 0 (rl [23]) (by kernel_rfl) ?_
     refine ah rfl rfl rfl ?_
     refine ae rfl rfl rfl rfl (ck rfl rfl (by constructor)) ?_
     refine bq ?_
     dsimp only [St.put]
     refine ge (by kernel_rfl) ?_
     refine ⟨_, ?_, ⟨⟨rfl, rfl⟩, zF, zB, zN, zX⟩⟩
     rw [th]
     (simp [h8]; done)
    exact dd
   have h8 : inB p.ch 0 ((t.length : Int) - 1) = true := by simpa using hs
   have hn1' := h8
   simp only [inB_true] at hn1'
   obtain ⟨c, hcx⟩ : ∃ c, t[p.ch.toNat]? = some c := cx (by omega)
   have hnl : kr t p.ch = c.lines.length := by simp [kr, hcx]
   have hll := (hl3 c (ez hcx)).2.1
   have hch : p.ch = ((p.ch.toNat : Nat) : Int) := by omega
   refine ae rfl rfl rfl rfl (cb rfl rfl rfl) ?_
   try dsimp only [St.put]
   refine aw rfl rfl rfl rfl (bv rfl rfl) ?_
   refine ae rfl rfl rfl rfl (cb rfl rfl rfl) ?_
   try dsimp only [St.put]
   refine aw rfl rfl rfl rfl (bv rfl rfl) ?_
   refine ae rfl rfl rfl rfl (cb rfl rfl rfl) ?_
   try dsimp only [St.put]
   refine aw rfl rfl rfl rfl (bv rfl rfl) ?_
   try dsimp only [St.put]
   refine ae rfl rfl rfl rfl (bl rfl rfl rfl (by omega) (bn (by assumption)) (Enc.len _)) ?_
   refine ae rfl rfl rfl rfl (cb rfl rfl rfl) ?_
   try dsimp only [St.put]
   refine aw rfl rfl rfl rfl (bv rfl rfl) ?_
   refine ae rfl rfl rfl rfl (bg rfl rfl (List.length_map _)) ?_
   refine ae rfl rfl rfl rfl (gm rfl rfl rfl (by omega)) ?_
   refine bq ?_
   refine dc [20] (by kernel_rfl) (by simp) ?_
   refine dg ?_ ?_
   ·try dsimp only [St.put]
    refine gu rfl rfl rfl (ba rfl rfl rfl (oe _ _ _) ?_)
    refine d8 [(21, none), (22, none)] (fun i => [21, 22].contains i) 0 (rl [23]) (by kernel_rfl) ?_
    refine ae rfl rfl rfl rfl (dv rfl rfl) ?_
    refine ae rfl rfl rfl rfl (bz rfl rfl (by constructor)) ?_
    refine bq ?_
    dsimp only [St.put]
    refine ge (by kernel_rfl) ?_
    refine ⟨_, ?_, ⟨⟨rfl, rfl⟩, zF, zB, zN, zX⟩⟩
    rw [th]
    (simp [h8, hnl]; done)
   exact dd
  exact dd
 rintro b hst
 dsimp only at hst ⊢
 refine ak rfl (fun hc => ?_) (fun hc => ?_)
 ·have hw : gp t (p.ch, p.ln) = none := by rw [hc] at hst; simpa using hst.symm
  refine yS fun _ K4 => ?_
  refine yR ?_
  refine yA rfl rfl ?_
  refine yA rfl rfl ?_
  refine yN ?_
  dsimp only [St.put]
  refine K4 _ ?_
  refine ax ?_
  refine iv rfl (fl (by constructor)) (fl (by constructor)) zN zS ?_ ?_
  ·rw [hw]
   exact zW
  rw [hw]; exact Wk.refl _
 have hw0 : (gp t (p.ch, p.ln)).isSome = true := by rw [hc] at hst; simpa using hst.symm
 obtain ⟨l, hw⟩ := Option.isSome_iff_exists.1 hw0
 obtain ⟨k, n, c, hkn, hk, hn⟩ := rn hw
 have hch : p.ch = ((k : Nat) : Int) := congrArg Prod.fst hkn
 have hln : p.ln = ((n : Nat) : Int) := congrArg Prod.snd hkn
 refine av ?_
 refine K2 _ ?_
 refine yS fun _ K5 => ?_
 refine f4 [(0, none), (1, none), (2, none), (3, none), (4, none), (5, none), (6, none), (7, none), (8, none), (9, none), (10, none), (11, none), (12, none)] (fun i => [].contains i) (fun i => [].contains i) (fun i => [0, 2, 4, 5, 7, 9, 11, 12].contains i) [] (by kernel_rfl) (by kernel_rfl) ?_
 refine ae rfl rfl rfl rfl (cb rfl rfl rfl) ?_
 try dsimp only [St.put]
 refine aw rfl rfl rfl rfl (bv rfl rfl) ?_
 refine ae rfl rfl rfl rfl (cb rfl rfl rfl) ?_
 try dsimp only [St.put]
 refine aw rfl rfl rfl rfl (bv rfl rfl) ?_
 try dsimp only [St.put]
 refine ae rfl rfl rfl rfl (bl rfl rfl rfl (by omega) (bn (by assumption)) (Enc.len _)) ?_
 refine ae rfl rfl rfl rfl (cb rfl rfl rfl) ?_
 try dsimp only [St.put]
 refine aw rfl rfl rfl rfl (bv rfl rfl) ?_
 refine ae rfl rfl rfl rfl (cb rfl rfl rfl) ?_
 try dsimp only [St.put]
 refine aw rfl rfl rfl rfl (bv rfl rfl) ?_
 try dsimp only [St.put]
 refine ae rfl rfl rfl rfl (bl rfl rfl rfl (by omega) (bn (by assumption)) (Enc.len _)) ?_
 try dsimp only [St.put]
 refine aw rfl rfl rfl rfl (bv rfl rfl) ?_
 refine ae rfl rfl rfl rfl (gn rfl (by constructor)) ?_
 refine ae rfl rfl rfl rfl (gn rfl (by constructor)) ?_
 refine bq ?_
 dsimp only [St.put]
 refine K5 _ ?_
 refine ax ?_
 refine iv rfl (fl (by constructor)) (fl (by constructor)) zN zS ?_ ?_
 ·rw [hw]
  exact zW
 rw [hw]; exact Wk.refl _
theorem udj (t : aj) (p : PlaceD) (ht : dl t = true) : Pure Tryd.prog 95 [eu t, val p] (.v (.bool (ey t p))) := by
 refine dm Tryd.func95 rfl (fun m => .v) fun G nx => ?_
 simp only [Tryd.ntmps95, List.length_cons, List.length_nil, Nat.reduceAdd, Nat.reduceSub]
 refine ct fun hlt => ?_
 dsimp only at hlt
 have hwl := udv ht (p.ch, p.ln)
 refine yS fun _ K1 => ?_
 refine yR ?_
 try dsimp only [St.put]
 refine yB rfl rfl rfl ?_
 try dsimp only [St.put]
 refine yB rfl rfl rfl ?_
 refine yA rfl rfl ?_
 refine yN ?_
 dsimp only [St.put]
 refine K1 _ ?_
 refine yS fun _ K2 => ?_
 refine yR ?_
 try dsimp only [St.put]
 refine du rfl (d9 rfl rfl rfl) ?_
 refine yE rfl rfl rfl ?_
 try dsimp only [St.put]
 refine af rfl (ba rfl rfl rfl (ufn t p ht) ?_)
 refine yM rfl rfl ?_
 refine yX rfl rfl rfl rfl ?_
 refine yX rfl rfl rfl rfl ?_
 refine yA rfl rfl ?_
 refine yA rfl rfl ?_
 refine yN ?_
 dsimp only [St.put]
 refine K2 _ ?_
 refine yS fun _ K3 => ?_
 refine yR ?_
 refine yM rfl rfl ?_
 refine yM rfl rfl ?_
 refine ep (fun hs => ?_) (fun hs => ?_)
 ·obtain ⟨l, hw⟩ := Option.isSome_iff_exists.1 hs
  refine yF rfl rfl rfl rfl ?_
  refine yL rfl rfl rfl ?_
  refine yM rfl rfl ?_
  refine aa rfl (bg rfl rfl (List.length_map _)) ?_
  refine aa rfl (gm rfl rfl rfl (by omega)) ?_
  try dsimp only [St.put]
  refine af rfl (ba rfl rfl rfl (oe _ _ _) ?_)
  refine aa rfl (ck rfl rfl (by constructor)) ?_
  refine yA rfl rfl ?_
  refine yN ?_
  dsimp only [St.put]
  refine K3 _ ?_
  refine ax ?_
  refine bp rfl (by constructor) zN zS ?_
  exact vb (by simp [ey, hw])
 have hw : gp t (p.ch, p.ln) = none := by simpa using hs
 refine yK rfl ?_
 refine yK rfl ?_
 refine yK rfl ?_
 refine yK rfl ?_
 refine yK rfl ?_
 refine yK rfl ?_
 refine aa rfl (bz rfl rfl (by constructor)) ?_
 refine yA rfl rfl ?_
 refine yN ?_
 dsimp only [St.put]
 refine K3 _ ?_
 refine ax ?_
 refine bp rfl (by constructor) zN zS ?_
 exact vb (by simp [ey, hw])
end Go.Proofs.YtgffhbbcpgdjjaaDoor
namespace Go.AB
open Go Go.RowKit
open Go.AB.Enc (cells)
open Go.PB (ay aj PlaceD bh bj bi)
end Go.AB
namespace Go.Proofs.YtgffhbbcpgdjjaaDoor
set_option maxRecDepth 10000
open Go.RowKit Go.AB
open Go.AB.Enc (cells)
open Go.PB (ay aj PlaceD bh bj bi)
/-! ### Plain editions -/
end Go.Proofs.YtgffhbbcpgdjjaaDoor
namespace Go.AB
open Go Go.RowKit
open Go.AB.Enc (cells)
open Go.PB (ay aj PlaceD bh bj bi)
end Go.AB
namespace Go.Proofs.YtgffhbbcpgdjjaaDoor
set_option maxRecDepth 10000
open Go.RowKit Go.AB
open Go.AB.Enc (cells)
open Go.PB (ay aj PlaceD bh bj bi)
/-! ### Books -/
end Go.Proofs.YtgffhbbcpgdjjaaDoor
namespace Go.AB
open Go Go.RowKit
open Go.AB.Enc (cells)
open Go.PB (ay aj PlaceD bh bj bi)
end Go.AB
namespace Go.Proofs.YtgffhbbcpgdjjaaDoor
set_option maxRecDepth 10000
open Go.RowKit Go.AB
open Go.AB.Enc (cells)
open Go.PB (ay aj PlaceD bh bj bi)
end Go.Proofs.YtgffhbbcpgdjjaaDoor
namespace Go.AB
open Go Go.RowKit Go.Proofs
open Go.AB.Enc (cells)

/-! ### Some names alone -/
def Env.only (E : Env) (p : Nat → Bool) : Env := { E with T := fun k => if p k then E.T k else none }
theorem Env.only_of {E : Env} {p : Nat → Bool} {n : Nat} {t : Nat × Nat × Value} (h : (E.only p).T n = some t) : E.T n = some t ∧ p n = true := by
 simp only [Env.only] at h
 split at h
 ·rename_i hp; exact ⟨h, hp⟩
 ·cases h
theorem Env.only_same {E : Env} {p : Nat → Bool} {n : Nat} (h : p n = true) : (E.only p).T n = E.T n := by simp only [Env.only]; rw [if_pos h]
theorem EvR.only (E : Env) (p : Nat → Bool) {w w' : World} (hc : ∀ b i, i < E.L b → w'.cell? ⟨b, i, none⟩ = w.cell? ⟨b, i, none⟩) : EvR E w (E.only p) w' :=
 ⟨rfl, fun _ => Nat.le_refl _, hc, Nat.le_refl _, fun _ _ ver wv val ht => ⟨ver, wv, val, (Env.only_of ht).1, Nat.le_refl _, fun _ => rfl⟩⟩
theorem SimG.move {E E' : Env} {w w' : World} {G G' : Nat → Option GObj} {nx : Nat} (h : SimG E w G nx) (he : EvR E w E' w') (hnx : E'.nx = E.nx) (hsz : w.heap.size ≤ w'.heap.size) (hL : E'.L = E.L)
  (hT : ∀ n t, E'.T n = some t → E.T n = some t) (hG : ∀ n o, G' n = some o → G n = some o ∧ E'.T n = E.T n) (hh : ∀ n t b, E'.T n = some t → blk t.2.2 = some b → w'.heap[b]? = w.heap[b]?) : SimG E' w' G' nx := by
 have hB := he.B
 refine ⟨hnx.trans h.nx, fun n o ho => ?_, fun n t ht => hnx ▸ h.lt n t (hT n t ht), fun n ver wv val b h1 h2 => ?_, fun n m t t' b h1 h2 => h.ap n m t t' b (hT _ _ h1) (hT _ _ h2), fun b hb => ?_, ?_⟩
 ·obtain ⟨h1, h2⟩ := hG n o ho
  exact (h.obj n o h1).keepr he h2 fun ver wv val b h3 h4 => ⟨hh n _ b (h2.trans h3) h4, by rw [hL]⟩
 ·have := h.tb n ver wv val b (hT n _ h1) h2
  rw [hB]
  exact ⟨this.1, Nat.lt_of_lt_of_le this.2 hsz⟩
 ·rw [hL]; exact h.fresh b (Nat.le_trans hsz hb)
 ·rw [hB]; exact Nat.le_trans h.base hsz
theorem ObjOk.tags {E E' : Env} {w w' : World} {n : Nat} {o : GObj} {ver wv : Nat} {val : Value} (h : ObjOk E w n o) (ht : E.T n = some (ver, wv, val)) (h' : ObjOk E' w' n o) : ∃ val', E'.T n = some (ver, wv, val') := by
 cases o with
 | fact v c => have := h.1; rw [ht] at this; cases this; exact ⟨_, h'.1⟩
 | raw wv o => obtain ⟨b, q, _⟩ := h; obtain ⟨b', q', _⟩ := h'; rw [ht] at q; cases q; exact ⟨_, q'⟩
 | map wv ok f => obtain ⟨b, _, _, q, _⟩ := h; obtain ⟨b', _, _, q', _⟩ := h'; rw [ht] at q; cases q; exact ⟨_, q'⟩
 | box wv cs => obtain ⟨b, _, _, q, _⟩ := h; obtain ⟨b', _, _, q', _⟩ := h'; rw [ht] at q; cases q; exact ⟨_, q'⟩
 | arr v wv tt sz len cs => obtain ⟨b, _, q, _⟩ := h; obtain ⟨b', _, q', _⟩ := h'; rw [ht] at q; cases q; exact ⟨_, q'⟩
 | tip len tt sz => obtain ⟨b, _, q, _⟩ := h; obtain ⟨b', _, q', _⟩ := h'; rw [ht] at q; cases q; exact ⟨_, q'⟩

/-! ### The world behind what only reads -/
theorem uhl {w w' : World} (h1 : w'.os = w.os) (h2 : w'.tape = w.tape) (h3 : w'.output = w.output) (hd : w.drawn ≤ w'.drawn) (hh : ∀ (b : Nat) (o : Obj), w.heap[b]? = some o → w'.heap[b]? = some o) : ∃ q os, w' = Sort.grow (w.drewN q) os := by
 have hsz : w.heap.size ≤ w'.heap.size := by
  rcases Nat.eq_zero_or_pos w.heap.size with h | h
  ·omega
  ·have h4 := hh (w.heap.size - 1) _ (Array.getElem?_eq_getElem (by omega))
   have := (Array.getElem?_eq_some_iff.1 h4).1
   omega
 have e : w'.heap = w.heap ++ (w'.heap.toList.drop w.heap.size).toArray := by
  apply Array.ext_getElem?
  intro k
  rw [Array.getElem?_append]
  split
  ·rename_i hk
   rw [Array.getElem?_eq_getElem hk]
   exact hh k _ (Array.getElem?_eq_getElem hk)
  ·rename_i hk
   have e3 : (w'.heap.toList.drop w.heap.size).toArray[k - w.heap.size]? = w'.heap[k]? := by
    rw [List.getElem?_toArray, List.getElem?_drop, Array.getElem?_toList]
    congr 1
    omega
   exact e3.symm
 refine ⟨w'.drawn - w.drawn, (w'.heap.toList.drop w.heap.size).toArray, ?_⟩
 cases w with
 | mk heap tape drawn os output =>
 cases w' with
 | mk heap' tape' drawn' os' output' =>
  simp only at h1 h2 h3 hd e
  subst h1; subst h2; subst h3
  simp only [Sort.grow, World.drewN, World.mk.injEq]
  exact ⟨e, trivial, by omega, trivial, trivial⟩

theorem uhz {P : Program} {g : FuncId} {cs : List C} {G : Nat → Option GObj} {nx : Nat} {r : C} (hp : PC P g cs G nx fun r' G' nx' => r' = r ∧ G' = G ∧ nx' = nx) {E : Env} {w : World} {vs : List Value} (hr : Rs E w cs vs) (hg : SimG E w G nx) :
  Calls P g vs.toArray w fun e w' => ∃ v E', e = .returned v ∧ R E' w' r v ∧ ∃ q os, w' = Sort.grow (w.drewN q) os := by
 have he : EvR E w (E.only fun n => (G n).isSome) w := EvR.only E _ fun _ _ _ => rfl
 have hg2 : SimG (E.only fun n => (G n).isSome) w G nx := hg.move he rfl (Nat.le_refl _) rfl (fun n t ht => (Env.only_of ht).1) (fun n o ho => ⟨ho, Env.only_same (by rw [ho]; rfl)⟩) (fun _ _ _ _ _ => rfl)
 refine (uio (fun e w' ⟨_, v, _, _, _, h, _⟩ => ⟨v, h⟩) (hp _ w vs (hr.evr he) hg2)).mono ?_
 rintro e w' ⟨⟨r', v, E', G', nx', rfl, hev, hrv, hg', h5, h6, h7⟩, hd⟩
 subst h5; subst h6; subst h7
 refine ⟨v, E', rfl, hrv, uhl hev.below.os hev.below.tape hev.below.output hd fun b o hb => ?_⟩
 by_cases ht : ∃ n t, (E.only fun n => (G' n).isSome).T n = some t ∧ blk t.2.2 = some b
 ·obtain ⟨n, ⟨ver, wv, val⟩, ht, hbl⟩ := ht
  obtain ⟨o', ho'⟩ := Option.isSome_iff_exists.1 (Env.only_of ht).2
  obtain ⟨val', hT'⟩ := (hg2.obj n o' ho').tags ht (hg'.obj n o' ho')
  obtain ⟨ver0, wv0, val0, q1, q2, q3⟩ := hev.T n (hg2.lt n _ ht) _ _ _ hT'
  rw [ht] at q1
  cases q1
  exact ((q3 rfl).2 rfl b hbl).trans hb
 ·exact hev.x.oth b o hb fun n t ht' hbl => ht ⟨n, t, ht', hbl⟩

/-! ### Cells that are values -/
def pf : C → Value
 | .v x => x
 | _ => undef
def Plain (cs : List C) : Prop := ∀ c ∈ cs, ∃ x, c = .v x ∧ okV x = true
theorem Plain.rs {E : Env} {w : World} {cs : List C} (h : Plain cs) : Rs E w cs (cs.map pf) := by
 refine ⟨by simp, fun j c v h1 h2 => ?_⟩
 rw [List.getElem?_map, h1] at h2
 cases h2
 obtain ⟨x, rfl, hx⟩ := h c (List.mem_of_getElem? h1)
 exact .v hx
theorem Plain.eq {E : Env} {w : World} {cs : List C} {vs : List Value} (h : Plain cs) (hr : Rs E w cs vs) : vs = cs.map pf := by
 apply List.ext_getElem?
 intro j
 rw [List.getElem?_map]
 cases hc : cs[j]? with
 | none =>
  have := List.getElem?_eq_none_iff.1 hc
  rw [List.getElem?_eq_none (by rw [hr.1]; exact this)]; rfl
 | some c =>
  have hj : j < vs.length := by rw [hr.1]; exact (List.getElem?_eq_some_iff.1 hc).1
  obtain ⟨x, rfl, hx⟩ := h c (List.mem_of_getElem? hc)
  rw [List.getElem?_eq_getElem hj, (hr.2 j _ _ hc (List.getElem?_eq_getElem hj)).v_inv]
  rfl
theorem Plain.one {cs : List C} (h : Plain cs) : ∀ v ∈ cs.map pf, v.oneCell' = true := fun v hv => by
 obtain ⟨c, hc, rfl⟩ := List.mem_map.1 hv
 obtain ⟨x, rfl, hx⟩ := h c hc
 exact ubb hx

theorem uhs {α : Type} [Inhabited α] (enc : α → List Value) (k : Nat) (hk : ∀ x, (enc x).length = k) (d : Array α) : (Sort.flatK enc k d).toList = (d.toList.map enc).flatten := by
 have hl : ∀ r ∈ d.toList.map enc, r.length = k := fun r hr => by
  obtain ⟨x, _, rfl⟩ := List.mem_map.1 hr
  exact hk x
 have hlen : (d.toList.map enc).flatten.length = d.size * k := by rw [mx hl, List.length_map, Array.length_toList]
 apply List.ext_getElem?
 intro t
 by_cases ht : t < d.size * k
 ·have hkp : 0 < k := Nat.pos_of_ne_zero fun e => by subst e; simp at ht
  have hq : t / k < d.size := by rw [Nat.div_lt_iff_lt_mul hkp]; exact ht
  have hm : t % k < k := Nat.mod_lt _ hkp
  have h1 : d.toList[t / k]? = some d[t / k]! := by rw [Array.getElem?_toList, Array.getElem?_eq_getElem hq, getElem!_pos d _ hq]
  have hlt2 : t % k < (enc d[t / k]!).length := by rw [hk]; exact hm
  have h2 : (enc d[t / k]!)[t % k]? = some (enc d[t / k]!)[t % k]! := by rw [List.getElem?_eq_getElem hlt2, getElem!_pos (enc d[t / k]!) (t % k) hlt2]
  have h3 := u7 hl (bn (f := enc) h1) h2
  rw [Nat.div_add_mod'] at h3
  rw [h3, Array.getElem?_toList, Array.getElem?_eq_getElem (by rw [Sort.size_flatK]; exact ht), ← getElem!_pos (Sort.flatK enc k d) t (by rw [Sort.size_flatK]; exact ht), Sort.get_flatK _ _ _ _ ht]
 ·rw [List.getElem?_eq_none (by rw [Array.length_toList, Sort.size_flatK]; omega), List.getElem?_eq_none (by omega)]

theorem ub2 {w : World} {g n : Nat} {os : Array Obj} {cur : Array Value} {e : TypeId} {fr : Nat × Nat} (F : Array Value) (hb : w.heap[g]? = some (.cells cur e fr)) :
  (Sort.grow (Sort.putRow id (Sort.ahead w n) g 0 F) os).heap[g]? = some (.cells (Sort.putCells id 0 F cur) e fr) := by
 have hg : g < w.heap.size := (Array.getElem?_eq_some_iff.1 hb).1
 rw [Sort.heap_grow_old _ _ (by simpa using hg)]
 simp [Sort.putRow, Sort.mapBlock, Sort.ahead, Array.getElem?_modify, hb, Sort.onCells]
theorem x9 {w : World} {g n k : Nat} {os : Array Obj} (F : Array Value) (hk : k < w.heap.size) (hne : k ≠ g) : (Sort.grow (Sort.putRow id (Sort.ahead w n) g 0 F) os).heap[k]? = w.heap[k]? := by
 rw [Sort.heap_grow_old _ _ (by simpa using hk)]
 simp [Sort.putRow, Sort.mapBlock, Sort.ahead, Array.getElem?_modify, Ne.symm hne]
theorem zi (cur F : Array Value) (m : Nat) (hm : m = F.size) (h : F.size ≤ cur.size) : (Sort.putCells id 0 F cur).toList.take m = F.toList := by
 subst hm
 apply List.ext_getElem?
 intro j
 by_cases hj : j < F.size
 ·rw [List.getElem?_take_of_lt hj, Array.getElem?_toList, Array.getElem?_toList]
  simp [Sort.putCells, hj, show j < cur.size by omega]
 ·rw [List.getElem?_take_eq_none (by omega), List.getElem?_eq_none (by simp; omega)]

/-- An order of what p holds of. -/
structure Ord3 {β : Type} (p : β → Prop) (cf : β → β → Int) : Prop where
 irrefl : ∀ x, p x → ¬ cf x x < 0
 trans : ∀ x y z, p x → p y → p z → cf x y < 0 → cf y z < 0 → cf x z < 0
 ntrans : ∀ x y z, p x → p y → p z → ¬ cf x y < 0 → ¬ cf y z < 0 → ¬ cf x z < 0

/-- slices.SortFunc of what is the frame's own, by what only reads. -/
theorem qs {β : Type} [Enc β] {P : Program} {o : Oper} {st : St} {K : St → Prop} {q : Go.Shelf.Ren} (L : SlLaysF0.n6 P q) [Ty P (q.t 24) true (Enc.n β)] {n ver wv m : Nat} {e : TypeId} {xs : List β} {cs : List C} (p : β → Prop) (cf : β → β → Int) {f g : FuncId} [Fun P g] {caps : List C} {fv s x : Operand} {ats : Array TypeId}
  (ho : o.op = .call { callee := .value fv, args := #[s, x], argTypes := ats }) (hf : evC st fv = .fn (.func f) []) (hfq : f = q.f 6) (hs : evC st s = .own n ver m) (hG : st.G n = some (.arr ver wv e (Enc.n β) m cs)) (hcs : cs = ci xs) (hm : m = xs.length) (hx : evC st x = .fn (.func g) caps)
  (hpl : ∀ y, p y → Plain (cells y)) (hxs : ∀ y ∈ xs, p y) (hlen : xs.length < 4611686018427387904)
  (hcf : ∀ a b, p a → p b → PC P g (.agg (cells a) :: .agg (cells b) :: caps) (lm st.G n) st.nx fun r G' nx' => r = .v (.int .i64 (cf a b)) ∧ G' = lm st.G n ∧ nx' = st.nx) (hO : Ord3 p cf)
  (h : ∀ ys : List β, ys.Perm xs → ys.Pairwise (fun a b => ¬ cf b a < 0) → K (St.put { st with G := ai st.G n (.arr ver (wv + 1) e (Enc.n β) m (ci ys)) } o.dst (.tup []))) : EStep P o st K := by
 subst hfq; subst hcs; subst hm
 intro E w a hsim Kr Q hq
 obtain ⟨fs, e1, hfs⟩ := (hf ▸ hsim.ev fv).fn_inv
 have hfs0 : fs = [] := List.eq_nil_of_length_eq_zero hfs.1
 subst hfs0
 obtain ⟨vs, e2, hvs⟩ := (hx ▸ hsim.ev x).fn_inv
 obtain ⟨val, us, hT, hown, hcone, hrs, hL, hsz1⟩ := hsim.g.obj n _ hG
 obtain ⟨e3, q1, ad, cap, e4, h6, h7⟩ := qb (hs ▸ hsim.ev s) hT hown
 unfold Oper.wp
 have hrun : (execOp a.eval o).run P w = .ok (.enter (q.f 6) #[a.eval s, a.eval x]) w := by
  simp only [execOp, ho, resolve, e1]
  have hcf6 := L.f6.enters rfl #[a.eval s, a.eval x] w
  simpa [Deferred.ofValue, invoke] using hcf6
 rw [hrun, e2, e4]
 -- what is changed
 have fin : ∀ (w' : World) (ys : List β), ys.Perm xs → ys.Pairwise (fun a b => ¬ cf b a < 0) → Below E.B w w' → (∀ k, k < w.heap.size → blk val ≠ some k → w'.heap[k]? = w.heap[k]?) →
   (∀ b (o : Obj), blk val = some b → w.heap[b]? = some o → ∃ o' : Obj, w'.heap[b]? = some o' ∧ o'.isCells = o.isCells) → (∃ us', w'.ownsRow E.B e (Enc.n β) val xs.length us' ∧ us' = (ci ys).map pf ∧ Plain (ci ys)) →
   Kr (a.put o.dst (.tuple #[])) w' := by
  intro w' ys hp1 hp2 hb hold hic ⟨us', how', hus, hpy⟩
  have hchg : Chg E w w' ver wv val ver (wv + 1) val 0 := ⟨hb, hold, fun b hb => .inl ⟨hb, by rw [hL b hb]; exact Nat.le_refl _⟩, fun b i hb hi => by rw [hL b hb] at hi; omega, .inr ⟨rfl, rfl, by omega⟩, hic, fun hv => absurd hv (Nat.lt_irrefl _), fun b _ hl => absurd hl (Nat.not_lt_zero _)⟩
  have hev := Ev.chg hsim.g hT hchg
  have hobj : ObjOk (E.chg n (ver, wv + 1, val) 0) w' n (.arr ver (wv + 1) e (Enc.n β) xs.length (ci ys)) :=
   ⟨val, us', by simp [Env.chg], how', fun c hc => by obtain ⟨v, rfl, _⟩ := hpy c hc; rfl, hus ▸ hpy.rs, fun b hb => by simp [Env.chg, hb], hsz1⟩
  exact hq _ _ _ _ hev ((hsim.evd hev (SimG.chg hsim.g hT hchg hobj)).put o.dst (R.undef _ _)) (h ys hp1 hp2)
 by_cases h0 : xs = []
 ·subst h0
  refine (AnyF.slices_SortFunc_none L ad cap _ w).mono ?_
  rintro e' w' ⟨rfl, rfl⟩
  refine fin w' [] List.Perm.nil List.Pairwise.nil (Below.refl _ _) (fun _ _ _ => rfl) (fun b o _ ho => ⟨o, ho, rfl⟩) ⟨us, hown, ?_, fun c hc => by simp [ci] at hc⟩
  exact List.eq_nil_of_length_eq_zero (by rw [hrs.1]; rfl)
 ·obtain ⟨y0, hy0⟩ := List.exists_mem_of_ne_nil xs h0
  letI : Inhabited { y : β // p y } := ⟨⟨y0, hxs y0 hy0⟩⟩
  have hn1 : 1 ≤ xs.length := by cases xs with | nil => exact absurd rfl h0 | cons => simp
  obtain ⟨gb, cap', cur, hval, hgB, hh, hc1, hc2, hc3, hc4⟩ : ∃ gb cap' cur, val = .slice (some ⟨gb, 0, none⟩) xs.length cap' ∧ E.B ≤ gb ∧ w.heap[gb]? = some (.cells cur e (0, 0)) ∧ xs.length ≤ cap' ∧ cap' ≤ maxLen ∧ cur.size = cap' * Enc.n β ∧ us = cur.toList.take (xs.length * Enc.n β) := by
   rcases hown.2 with ⟨_, q0⟩ | ⟨g', c', cu, q2, q3, q4, q5, q6, q7, q8⟩
   ·omega
   ·exact ⟨g', c', cu, q2, q3, q4, q5, q6, q7, q8.symm⟩
  have e5 : ad = some ⟨gb, 0, none⟩ ∧ cap = cap' := by
   have := e4.symm.trans (e3.trans hval)
   simp only [Value.slice.injEq] at this
   exact ⟨this.1, this.2.2⟩
  obtain ⟨rfl, rfl⟩ := e5
  have hgb := (Array.getElem?_eq_some_iff.1 hh).1
  have hpx : Plain (ci xs) := fun c hc => by
   obtain ⟨r, hr, hc⟩ := List.mem_flatten.1 hc
   obtain ⟨y, hy, rfl⟩ := List.mem_map.1 hr
   exact hpl y (hxs y hy) c hc
  have hus := hpx.eq hrs
  -- the row of the elements
  let enc : { y : β // p y } → List Value := fun y => (cells y.1).map pf
  have hk : ∀ y, (enc y).length = Enc.n β := fun y => by simp only [enc, List.length_map, Enc.len]
  have hfl : ∀ ds : List { y : β // p y }, (ds.map enc).flatten = (ci (ds.map (·.1))).map pf := fun ds => by
   induction ds with
   | nil => rfl
   | cons y ds ih =>
    simp only [List.map_cons, List.flatten_cons, ih]
    simp [ci, enc]
  let d : Array { y : β // p y } := (xs.attachWith p hxs).toArray
  have hd : d.toList.map (·.1) = xs := by simp [d]
  have hds : d.size = xs.length := by simp [d]
  have hF : ∀ d' : Array { y : β // p y }, (Sort.flatK enc (Enc.n β) d').toList = (ci (d'.toList.map (·.1))).map pf := fun d' => (uhs enc _ hk d').trans (hfl _)
  have hcur : xs.length * Enc.n β ≤ cur.size := by rw [hc3]; exact Nat.mul_le_mul_right _ hc1
  have hH : Sort.HoldsK enc (Enc.n β) w gb 0 d := by
   intro j hj
   rw [Sort.size_flatK, hds] at hj
   have h8 : (Sort.flatK enc (Enc.n β) d).toList = us := by rw [hF, hd, hus]
   have h9 : us[j]? = some (Sort.flatK enc (Enc.n β) d)[j]! := by
    rw [← h8, Array.getElem?_toList, getElem!_pos _ j (by rw [Sort.size_flatK, hds]; exact hj), Array.getElem?_eq_getElem]
   rw [hc4, List.getElem?_take_of_lt hj, Array.getElem?_toList] at h9
   refine ⟨by rw [Nat.zero_add]; exact my hh h9, ?_⟩
   simp [World.frozen?, hh]
  have hcmp : CmpLays P g vs.toArray enc (Enc.n β) (fun a b => cf a.1 b.1) gb 0 d.size w := by
   intro mm os dk hdk y z
   have hW1 : ∀ k, k < w.heap.size → k ≠ gb → (sortWorldK enc (Enc.n β) w gb 0 mm dk os).heap[k]? = w.heap[k]? := fun k hk hne => x9 _ hk hne
   have hW2 : w.heap.size ≤ (sortWorldK enc (Enc.n β) w gb 0 mm dk os).heap.size := by
    show _ ≤ (Sort.grow (Sort.putRow id (Sort.ahead w mm) gb 0 _) os).heap.size
    rw [Sort.size_grow, Sort.size_putRow]; exact Nat.le_add_right _ _
   generalize sortWorldK enc (Enc.n β) w gb 0 mm dk os = W at hW1 hW2
   have hLg : E.L gb = 0 := hL gb (by rw [hval]; rfl)
   have he : EvR E w (E.only fun k => decide (k ≠ n)) W := EvR.only E _ fun b i hi => by
    by_cases hbg : b = gb
    ·subst hbg; omega
    ·by_cases hbs : b < w.heap.size
     ·exact World.cell?_of_block (hW1 b hbs hbg)
     ·rw [hsim.g.fresh b (by omega)] at hi; omega
   have hg3 : SimG (E.only fun k => decide (k ≠ n)) W (lm st.G n) st.nx := hsim.g.move he rfl hW2 rfl (fun k t ht => (Env.only_of ht).1) (fun k o' ho' => by
    have hkn : k ≠ n := fun e => by subst e; simp [lm] at ho'
    exact ⟨(jk hkn).symm.trans ho', Env.only_same (decide_eq_true hkn)⟩) (fun k t b ht hb => by
    obtain ⟨h8, h9⟩ := Env.only_of ht
    have hkn : k ≠ n := of_decide_eq_true h9
    refine hW1 b (hsim.g.tb k _ _ _ b h8 hb).2 fun e => ?_
    subst e
    exact hsim.g.ap k n _ _ b h8 hT hkn hb (by show blk val = some b; rw [hval]; rfl))
   have hagg : ∀ y : { y : β // p y }, R (E.only fun k => decide (k ≠ n)) W (.agg (cells y.1)) (.agg (enc y).toArray) := fun y => (hpl y.1 y.2).rs.agg fun c hc => by obtain ⟨v, rfl, _⟩ := hpl y.1 y.2 c hc; rfl
   have hr3 := Rs.cons (hagg y) (Rs.cons (hagg z) (hvs.evr he))
   have hc := uhz (hcf y.1 z.1 y.2 z.2) hr3 hg3
   have hargs : (#[.agg (enc y).toArray, .agg (enc z).toArray] ++ vs.toArray : Array Value) = (Value.agg (enc y).toArray :: .agg (enc z).toArray :: vs).toArray := by simp
   rw [hargs]
   refine hc.mono ?_
   rintro e' w' ⟨v, E', rfl, hv, hw⟩
   rw [hv.v_inv]
   exact ⟨rfl, hw⟩
  have hO' : Sort.SWO (ltOf fun a b : { y : β // p y } => cf a.1 b.1) := ⟨fun y => decide_eq_false (hO.irrefl _ y.2), fun y z u h8 h9 => decide_eq_true (hO.trans _ _ _ y.2 z.2 u.2 (of_decide_eq_true h8) (of_decide_eq_true h9)), fun y z u h8 h9 => decide_eq_false (hO.ntrans _ _ _ y.2 z.2 u.2 (of_decide_eq_false h8) (of_decide_eq_false h9))⟩
  have hcall := AnyQ.slices_SortFunc L (Enc.n β) (fun w => Ty.row (P := P) (w := w)) (fun w => Ty.size (P := P) (w := w)) enc hk (fun y => (hpl y.1 y.2).one) (fun a b => cf a.1 b.1) hO' g vs.toArray gb 0 cap d w (fun args w => zw args w) hcmp hH hgb (by rw [hds]; exact hlen)
  rw [hds] at hcall
  refine hcall.mono ?_
  rintro e' w' ⟨rfl, d', nn, os, hperm, hsorted, hw⟩
  have hd's : d'.size = xs.length := hperm.1.trans hds
  have hpm : d'.toList.Perm d.toList := by
   have := hperm.2.2
   rwa [← hds, Array.extract_size, hds, ← hd's, Array.extract_size] at this
  subst hw
  refine fin _ (d'.toList.map (·.1)) (hd ▸ hpm.map _) ?_ ⟨rfl, rfl, rfl, ?_, fun k hk => x9 _ (Nat.lt_of_lt_of_le hk hsim.g.base) (by omega)⟩ (fun k hk hne => x9 _ hk fun e => hne (by rw [e, hval]; rfl)) (fun b o hb ho => ?_) ⟨_, ⟨?_, .inr ⟨gb, cap, _, hval, hgB, ub2 _ hh, hc1, hc2, ?_, rfl⟩⟩, ?_, ?_⟩
  ·rw [List.pairwise_map, List.pairwise_iff_getElem]
   intro i j hi hj hij
   rw [Array.length_toList] at hi hj
   have := of_decide_eq_false (hsorted i j (Nat.zero_le _) hij (by omega))
   rw [getElem!_pos d' i hi, getElem!_pos d' j hj] at this
   simpa using this
  ·show _ ≤ (Sort.grow (Sort.putRow id (Sort.ahead w nn) gb 0 _) os).heap.size
   rw [Sort.size_grow, Sort.size_putRow]; exact Nat.le_add_right _ _
  ·rw [hval] at hb
   simp only [blk, Option.some.injEq] at hb
   subst hb
   rw [hh] at ho
   cases ho
   exact ⟨_, ub2 _ hh, rfl⟩
  ·rw [zi _ _ _ (by rw [Sort.size_flatK, hd's]) (by rw [Sort.size_flatK, hd's]; exact hcur), Array.length_toList, Sort.size_flatK, hd's]
  ·simp only [Sort.putCells, Array.size_mapIdx]; exact hc3
  ·rw [zi _ _ _ (by rw [Sort.size_flatK, hd's]) (by rw [Sort.size_flatK, hd's]; exact hcur)]
   exact hF d'
  ·intro c hc
   obtain ⟨r, hr, hc⟩ := List.mem_flatten.1 hc
   obtain ⟨y, hy, rfl⟩ := List.mem_map.1 hr
   obtain ⟨y', _, rfl⟩ := List.mem_map.1 hy
   exact hpl y'.1 y'.2 c hc
end Go.AB
namespace Go.AB
open Go Go.RowKit
open Go.AB.Enc (cells)
def ip (a b : Int) : Int := bif decide (a < b) then -1 else bif decide (b < a) then 1 else 0
def gk : List Int → List Int → Int
 | [], [] => 0
 | [], _ :: _ => -1
 | _ :: _, [] => 1
 | x :: a, y :: b => bif decide (ip x y = 0) then gk a b else ip x y
theorem uij {a b : Int} : ip a b < 0 ↔ a < b := by
 unfold ip
 by_cases h : a < b
 ·simp [h]
 by_cases h2 : b < a <;> simp [h, h2]
theorem cmpI_zero {a b : Int} : ip a b = 0 ↔ a = b := by
 unfold ip
 by_cases h : a < b
 ·simp [h]; omega
 by_cases h2 : b < a <;> simp [h, h2] <;> omega
/-- words of the same length, one behind the other -/
def ltW : List Int → List Int → Prop
 | x :: a, y :: b => x < y ∨ x = y ∧ ltW a b
 | _, _ => False
theorem o6 : ∀ {a b : List Int}, a.length = b.length → (gk a b < 0 ↔ ltW a b)
 | [], [], _ => by simp [gk, ltW]
 | x :: a, y :: b, h => by
  simp only [gk, ltW]
  by_cases h0 : ip x y = 0
  ·have := cmpI_zero.1 h0
   subst this
   rw [decide_eq_true h0, cond_true, o6 (by simpa using h)]
   simp
  have := mt cmpI_zero.2 h0
  rw [decide_eq_false h0, cond_false, uij]
  constructor
  ·exact .inl
  rintro (h1 | ⟨h1, _⟩)
  ·exact h1
  exact absurd h1 this
end Go.AB
namespace Go.Proofs.YtgffhbbcpgdjjaaDoor
set_option maxRecDepth 10000
open Go.RowKit Go.AB
open Go.AB.Enc (cells)
theorem ubz (x : Int) : Pure Tryd.prog 106 [.v (.int .i64 x)] (.v (.bool false)) := by
 refine dm Tryd.func106 rfl (fun m => .v) fun G nx => ?_
 simp only [Tryd.ntmps106, List.length_cons, List.length_nil, Nat.reduceAdd, Nat.reduceSub]
 refine ct fun hlt => ?_
 dsimp only at hlt
 refine yS fun _ K1 => ?_
 refine yR ?_
 refine yA rfl rfl ?_
 refine yN ?_
 dsimp only [St.put]
 refine K1 _ ?_
 refine yS fun _ K2 => ?_
 refine yR ?_
 refine yM rfl rfl ?_
 refine yM rfl rfl ?_
 refine aa rfl (fj rfl rfl rfl) ?_
 refine yA rfl rfl ?_
 refine yN ?_
 dsimp only [St.put]
 refine K2 _ ?_
 refine ax ?_
 refine bp rfl (by constructor) zN zS ?_
 exact vb (by simp)
theorem yh (x y : Int) : Pure Tryd.prog 90 [.v (.int .i64 x), .v (.int .i64 y)] (.v (.int .i64 (ip x y))) := by
 refine dm Tryd.func90 rfl (fun m => .v) fun G nx => ?_
 simp only [Tryd.ntmps90, List.length_cons, List.length_nil, Nat.reduceAdd, Nat.reduceSub]
 refine ct fun hlt => ?_
 dsimp only at hlt
 refine yS fun _ K1 => ?_
 refine yR ?_
 refine yA rfl rfl ?_
 refine yN ?_
 dsimp only [St.put]
 refine K1 _ ?_
 refine yS fun _ K2 => ?_
 refine yR ?_
 refine yM rfl rfl ?_
 try dsimp only [St.put]
 refine af rfl (ba rfl rfl rfl (ubz _) ?_)
 refine yA rfl rfl ?_
 refine yN ?_
 dsimp only [St.put]
 refine K2 _ ?_
 refine yS fun _ K3 => ?_
 refine yR ?_
 refine yM rfl rfl ?_
 try dsimp only [St.put]
 refine af rfl (ba rfl rfl rfl (ubz _) ?_)
 refine yA rfl rfl ?_
 refine yN ?_
 dsimp only [St.put]
 refine K3 _ ?_
 refine yS fun _ K4 => ?_
 refine yS fun _ K5 => ?_
 refine yR ?_
 refine aa rfl (fu (c := false) (gi rfl (by constructor)) (by rfl)) ?_
 refine yN ?_
 dsimp only [St.put]
 refine K5 _ ?_
 refine ak rfl (fun h => by cases h) (fun _ => ?_)
 refine av ?_
 refine K4 _ ?_
 refine yS fun _ K6 => ?_
 refine yS fun _ K7 => ?_
 refine yR ?_
 refine aa rfl (fu (c := false) (gi rfl (by constructor)) (by rfl)) ?_
 refine yN ?_
 dsimp only [St.put]
 refine K7 _ ?_
 refine ak rfl (fun h => by cases h) (fun _ => ?_)
 refine av ?_
 refine K6 _ ?_
 refine yS fun _ K8 => ?_
 refine yS fun _ K9 => ?_
 refine yR ?_
 refine yM rfl rfl ?_
 refine yM rfl rfl ?_
 refine aa rfl (cn rfl rfl rfl) ?_
 refine yN ?_
 dsimp only [St.put]
 refine K9 _ ?_
 refine ak rfl (fun hc => ?_) (fun hc => ?_)
 ·have h1 := of_decide_eq_true hc
  refine yS fun _ K10 => ?_
  refine yR ?_
  refine yA rfl rfl ?_
  refine yN ?_
  dsimp only [St.put]
  refine K10 _ ?_
  refine ax ?_
  refine bp rfl (by constructor) zN zS ?_
  exact vi (by simp [ip, h1])
 have h1 := of_decide_eq_false hc
 refine av ?_
 refine K8 _ ?_
 refine yS fun _ K11 => ?_
 refine yS fun _ K12 => ?_
 refine yR ?_
 refine yM rfl rfl ?_
 refine yM rfl rfl ?_
 refine aa rfl (gq rfl rfl rfl) ?_
 refine yN ?_
 dsimp only [St.put]
 refine K12 _ ?_
 refine ak rfl (fun hc => ?_) (fun hc => ?_)
 ·have h2 := of_decide_eq_true hc
  refine yS fun _ K13 => ?_
  refine yR ?_
  refine yA rfl rfl ?_
  refine yN ?_
  dsimp only [St.put]
  refine K13 _ ?_
  refine ax ?_
  refine bp rfl (by constructor) zN zS ?_
  exact vi (by have h2' : y < x := h2; simp [ip, h1, h2'])
 have h2 := of_decide_eq_false hc
 refine av ?_
 refine K11 _ ?_
 refine yS fun _ K14 => ?_
 refine yR ?_
 refine yA rfl rfl ?_
 refine yN ?_
 dsimp only [St.put]
 refine K14 _ ?_
 refine ax ?_
 refine bp rfl (by constructor) zN zS ?_
 exact vi (by have h2' : ¬ y < x := h2; simp [ip, h1, h2'])
end Go.Proofs.YtgffhbbcpgdjjaaDoor
