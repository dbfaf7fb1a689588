/-
  What the walks through the program rest on: values, states, steps, calls (AbMap, AbScope, AbRange, AbIter, AbYield, AbGive, AbMix, AbNamed, AbConv, AbWords, AbDrawn, AbDrawnB, Ty, AdData, CdData, AbTypes, CfFuncs, AcOne, AcEq, AcTwo, AcThree, AcFour, AcFive, CrOne, CePlain, CsRows, CtPlain, CuFuncs, CkKeys, LcCheck, CvOpen, ItData, CwLines, CxTells, DaPlain).
-/
import Derived.Test.YthboenlglkmnjaaDoorPartA
import Derived.Maps.Keyed
import Derived.DeepKeys4
import Derived.LoopNIn
import Derived.Laws.IdiomRangeMap
import Derived.RangeFuncWrites
import Derived.Laws.IdiomStrings
import Derived.WalkKit
import Derived.Test.YthboenlglkmnjaaDoorProg
import Derived.Tactics
import Derived.Laws.StructEq
import Derived.Maps.Own
import Derived.WalkMore
namespace Go.AB
open Go Go.RowKit
open Go.Maps (Keyed)
open Go.AB.Enc (cells)
variable {ρ : Option Nat}
/-- Keys as plain data. -/
class KeyV (α : Type) where
 kv : α → Value
 kc : α → C
 inv : ∀ {E : Env} {w : World} {x : α} {v : Value}, R E w (kc x) v → v = kv x
 inj : ∀ {x y : α}, kv x = kv y → x = y
 any : ∀ {E : Env} {w : World} {x : α} {v : Value}, R E w (kc x) v → ∀ (E' : Env) (w' : World), R E' w' (kc x) (kv x)
def wh (P : Program) (t k e : TypeId) : Bool := match P.underlying t with | some (.map k' e') => k' == k && e' == e | _ => false
class MapT (P : Program) (t : TypeId) (k e : outParam TypeId) : Prop where
 chk : wh P t k e = true
theorem MapT.spec {P : Program} {t k e : TypeId} [h : MapT P t k e] : P.underlying t = some (.map k e) := by
 have := h.chk
 unfold wh at this
 split at this
 ·rename_i k' e' he
  simp only [Bool.and_eq_true, beq_iff_eq] at this
  rw [he, this.1, this.2]
 ·cases this
class KeyT (P : Program) (k : TypeId) (α : Type) [KeyV α] : Prop where
 keyed : Keyed P k
 has : ∀ {E : Env} {w : World} {x : α} {v : Value}, R E w (KeyV.kc x) v → ∃ l, keyOf P k (KeyV.kv x) = some l
def okK1 (P : Program) (k : TypeId) (α : Type) [KeyV α] : MapEntry → Prop := fun e => ∃ (x : α) (l : Lit), e.key = KeyV.kv x ∧ keyOf P k e.key = some l ∧ ∀ (E : Env) (w : World), R E w (KeyV.kc x) e.key
def okK (P : Program) (k : TypeId) (α : Type) [KeyV α] : List MapEntry → Nat → Prop := fun es _ => ∀ e ∈ es, okK1 P k α e
open Classical in
noncomputable def gp {α : Type} [KeyV α] (m : α → Option C) : Value → Option C := fun v => if h : ∃ x : α, v = KeyV.kv x then m h.choose else none
theorem gh {α : Type} [KeyV α] (m : α → Option C) (x : α) : gp m (KeyV.kv x) = m x := by
 have h : ∃ y : α, KeyV.kv x = KeyV.kv y := ⟨x, rfl⟩
 unfold gp
 rw [dif_pos h]
 exact congrArg m (KeyV.inj h.choose_spec).symm
theorem m2 {α : Type} [KeyV α] (m : α → Option C) {v : Value} (h : ¬ ∃ x : α, v = KeyV.kv x) : gp m v = none := by
 unfold gp
 rw [dif_neg h]
/-- A map whose keys are data. -/
noncomputable def ei (P : Program) (k : TypeId) {α : Type} [KeyV α] (wv : Nat) (m : α → Option C) : GObj := .map wv (okK P k α) (gp m)
def fx {α : Type} [DecidableEq α] (m : α → Option C) (x : α) (c : C) : α → Option C := fun y => if y = x then some c else m y
/-- What the run of an update leaves. -/
theorem wb {P : Program} {k t e : TypeId} {w : World} {r : Nat} {es : Array MapEntry} {clock : Nat} (K : Keyed P k) (ht : P.underlying t = some (.map k e)) (hb : w.heap[r]? = some (.map es clock))
  (h1 : ∀ e ∈ es.toList, ∃ l, keyOf P k e.key = some l) (h2 : es.toList.Pairwise (fun a b => a.key ≠ b.key)) {key : Value} {kl : Lit} (hkey : keyOf P k key = some kl) (val : Value) (hcl : es.all (·.born < clock) = true) :
  ∃ es' clock', (Instr.mapUpdate t (.map (some r)) key val).run P w = .ok () (ChangeMaps.setBlock w r (.map es' clock')) ∧ (∀ e ∈ es'.toList, (e.key = key ∧ e.val = val ∧ ((∃ e0 ∈ es.toList, e0.key = key ∧ e0.born = e.born) ∨ ((∀ e0 ∈ es.toList, e0.key ≠ key) ∧ e.born = clock))) ∨ (e ∈ es.toList ∧ e.key ≠ key)) ∧ es'.toList.Pairwise (fun a b => a.key ≠ b.key) ∧
   (∃ e ∈ es'.toList, e.key = key) ∧ (∀ e ∈ es.toList, e.key ≠ key → e ∈ es'.toList) ∧ es'.all (·.born < clock') = true ∧ (es.toList.Pairwise (fun a b => a.born ≠ b.born) → es'.toList.Pairwise fun a b => a.born ≠ b.born) ∧ ((∃ e0 ∈ es.toList, e0.key = key) → clock' = clock) := by
 have hcl' : ∀ e ∈ es.toList, e.born < clock := fun e he => by simpa using Array.all_eq_true_iff_forall_mem.1 hcl e (by simpa using he)
 rcases K.find w hkey es.toList h1 with ⟨hf, hn⟩ | ⟨j, e0, hf, hj, hk⟩
 ·refine ⟨es.push ⟨key, val, clock⟩, clock + 1, ?_, fun e he => ?_, ?_, ⟨⟨key, val, clock⟩, by simp, rfl⟩, fun e he _ => by simp [Array.mem_toList_iff.1 he], ?_, fun hb => ?_, fun ⟨e0, h1, h2⟩ => absurd h2 (hn e0 h1)⟩
  ·simp [Instr.mapUpdate, run_underlying ht, MapKept.run_getObj_map hb, K.check w false hkey, hf, MapKept.run_setObj_map _ hb, Result.andThen, ChangeMaps.setBlock]
  ·simp only [Array.toList_push, List.mem_append, List.mem_singleton] at he
   rcases he with he | rfl
   ·exact .inr ⟨he, hn e he⟩
   ·exact .inl ⟨rfl, rfl, .inr ⟨fun e0 he0 => hn e0 he0, rfl⟩⟩
  ·simp only [Array.toList_push]
   refine List.pairwise_append.2 ⟨h2, by simp, ?_⟩
   intro a ha b hb
   simp only [List.mem_singleton] at hb
   subst hb
   exact hn a ha
  ·refine Array.all_eq_true_iff_forall_mem.2 fun e he => ?_
   rcases Array.mem_push.1 he with he | rfl
   ·have := hcl' e (by simpa using he)
    simp; omega
   ·simp
  ·simp only [Array.toList_push]
   refine List.pairwise_append.2 ⟨hb, by simp, ?_⟩
   intro a ha b hb
   simp only [List.mem_singleton] at hb
   subst hb
   have := hcl' a ha
   show a.born ≠ clock
   omega
 ·have hj' : es[j]? = some e0 := by simpa using hj
  have hjl : j < es.toList.length := (List.getElem?_eq_some_iff.1 hj).1
  have hlist : (es.modify j (fun e' => { e' with key := key, val := val })).toList = es.toList.set j { e0 with key := key, val := val } := by rw [Array.toList_modify, ChangeMaps.modify_eq_set _ _ _ _ hj]
  have hother : ∀ (i : Nat) (a : MapEntry), i ≠ j → es.toList[i]? = some a → a.key ≠ key := by
   intro i a hi ha
   rw [← hk]
   have hil : i < es.toList.length := (List.getElem?_eq_some_iff.1 ha).1
   have ea := (List.getElem?_eq_some_iff.1 ha).2
   have ej := (List.getElem?_eq_some_iff.1 hj).2
   rw [List.pairwise_iff_getElem] at h2
   rcases Nat.lt_or_gt_of_ne hi with hlt | hlt
   ·have := h2 i j hil hjl hlt
    rw [ea, ej] at this
    exact this
   ·have := h2 j i hjl hil hlt
    rw [ea, ej] at this
    exact this.symm
  have who : ∀ x ∈ es.toList.set j { e0 with key := key, val := val }, x = { e0 with key := key, val := val } ∨ (x ∈ es.toList ∧ x.key ≠ key) := by
   intro x hx
   obtain ⟨i, hi, ex⟩ := List.getElem_of_mem hx
   rw [List.getElem_set] at ex
   split at ex
   ·exact Or.inl ex.symm
   ·rename_i hne
    have hi' : i < es.toList.length := by simpa using hi
    exact Or.inr ⟨ex ▸ List.getElem_mem hi', hother i x (fun e => hne e.symm) (by rw [List.getElem?_eq_getElem hi', ex])⟩
  have hin : ∀ i a, i ≠ j → es.toList[i]? = some a → a ∈ es.toList.set j { e0 with key := key, val := val } := by
   intro i a hi ha
   have : (es.toList.set j { e0 with key := key, val := val })[i]? = some a := by rw [List.getElem?_set_ne (fun e => hi e.symm)]; exact ha
   exact List.mem_of_getElem? this
  have hinj : ({ e0 with key := key, val := val } : MapEntry) ∈ es.toList.set j { e0 with key := key, val := val } := by
   refine List.mem_of_getElem? (i := j) ?_
   rw [List.getElem?_set_self hjl]
  refine ⟨es.modify j (fun e' => { e' with key := key, val := val }), clock, ?_, ?_, ?_, ⟨_, hlist ▸ hinj, rfl⟩, ?_, ?_, fun hb => ?_, fun _ => rfl⟩
  ·simp [Instr.mapUpdate, run_underlying ht, MapKept.run_getObj_map hb, K.check w false hkey, hf, hj', hk, K.stays w hkey, MapKept.run_setObj_map _ hb, Result.andThen, ChangeMaps.setBlock]
  ·intro e he
   rw [hlist] at he
   rcases who e he with rfl | h
   ·exact .inl ⟨rfl, rfl, .inl ⟨e0, List.mem_of_getElem? hj, hk, rfl⟩⟩
   ·exact .inr h
  ·rw [hlist, List.pairwise_iff_getElem]
   intro i i' hi hi' hlt
   rw [List.pairwise_iff_getElem] at h2
   have hil : i < es.toList.length := by simpa using hi
   have hil' : i' < es.toList.length := by simpa using hi'
   have hh := h2 i i' hil hil' hlt
   have ej := (List.getElem?_eq_some_iff.1 hj).2
   simp only [List.getElem_set]
   by_cases hij : j = i
   ·have hij' : ¬ j = i' := by omega
    simp only [hij, if_true]
    rw [if_neg (by omega)]
    subst hij
    rw [ej, hk] at hh
    exact hh
   ·rw [if_neg hij]
    by_cases hij' : j = i'
    ·subst hij'
     rw [ej, hk] at hh
     simpa using hh
    ·rw [if_neg hij']
     exact hh
  ·intro e he hne
   rw [hlist]
   obtain ⟨i, hi⟩ := List.mem_iff_getElem?.1 he
   refine hin i e (fun hij => ?_) hi
   subst hij
   rw [hj] at hi
   injection hi with hi
   subst hi
   exact hne hk
  ·refine Array.all_eq_true_iff_forall_mem.2 fun e he => ?_
   have he' : e ∈ es.toList.set j { e0 with key := key, val := val } := by rw [← hlist]; exact Array.mem_toList_iff.2 he
   rcases who e he' with rfl | ⟨h, _⟩
   ·have := hcl' e0 (List.mem_of_getElem? hj)
    simpa using this
   ·simpa using hcl' e h
  ·rw [hlist]
   have e1 : (es.toList.set j { e0 with key := key, val := val }).map (·.born) = es.toList.map (·.born) := by
    rw [List.map_set]
    have : (es.toList.map (·.born))[j]? = some e0.born := by rw [List.getElem?_map, hj]; rfl
    exact List.ext_getElem? fun i => by
     rw [List.getElem?_set]
     split
     ·rename_i hij
      subst hij
      split
      ·exact this.symm
      ·rename_i h0; rw [List.getElem?_eq_none (by omega)]
     ·rfl
   exact List.pairwise_map.1 (e1 ▸ List.pairwise_map.2 hb)

theorem pc (w : World) (r b : Nat) (o : Obj) (h : b ≠ r) : (ChangeMaps.setBlock w r o).heap[b]? = w.heap[b]? := by
 simp [ChangeMaps.setBlock, Ne.symm h]
section
variable {P : Program} {o : Oper} {st : St} {K : St → Prop} {α : Type} [KeyV α]
theorem pv {E : Env} {w : World} {v : Value} {n wv : Nat} {r : Option Nat} (hp : R E w (.map n) v) (hT : E.T n = some (0, wv, .map r)) : v = .map r := by
 cases hp with
 | map h1 h2 =>
  have := h2 _ _ _ hT rfl
  exact this.symm
theorem uca {D : Nat → Prop} {t k e : TypeId} [MapT P t k e] [KeyT P k α] {x i : Operand} {n wv : Nat} {ok : List MapEntry → Nat → Prop} {m : α → Option C} {key : α} {z : Value} [Zero P e z] (hx : evC st x = .map n) (hG : st.G n = some (.map wv ok (gp m))) (hk0 : ∀ es cl, ok es cl → okK P k α es cl) (hD : D n) (hi : evC st i = KeyV.kc key) :
  ∀ E w a, Sim E w st a → ∃ v, R E w ((m key).getD (jl z)) v ∧ ∀ w', Keeps E D w w' → (Instr.lookup t (a.eval x) (a.eval i) true).run P w' = .ok (.tuple #[v, .bool (m key).isSome]) w' ∧ (Instr.lookup t (a.eval x) (a.eval i) false).run P w' = .ok v w' := by
 intro E w a hs
 obtain ⟨r, es, clock, hT, hh, hok, _⟩ := hs.g.obj n _ hG
 have e1 := pv (hx ▸ hs.ev x) hT
 have hkr := hi ▸ hs.ev i
 have e2 := KeyV.inv hkr
 obtain ⟨kl, hkey⟩ := KeyT.has (P := P) (k := k) hkr
 have ht := MapT.spec (P := P) (t := t) (k := k) (e := e)
 have Kd := KeyT.keyed (P := P) (k := k) (α := α)
 have hz := fun w' => Zero.run (P := P) (t := e) (v := z) (w := w')
 have hk1 : ∀ e ∈ es.toList, ∃ l, keyOf P k e.key = some l := fun e he => let ⟨_, l, _, h, _⟩ := hk0 _ _ hok.ok e he; ⟨l, h⟩
 rw [e1, e2]
 cases hm : m key with
 | none =>
  refine ⟨z, R.const E w z, fun w' hk => ?_⟩
  have hb := (hk.2 n hD _ _ _ r hT rfl).trans hh
  rcases Kd.find w' hkey es.toList hk1 with ⟨hf, _⟩ | ⟨j, e0, hf, hj, hke⟩
  ·simp [Instr.lookup, run_underlying ht, MapKept.run_getObj_map hb, Kd.check w' _ hkey, hf, hz, Result.andThen]
  ·obtain ⟨c, hc, _⟩ := hok.val e0 (List.mem_of_getElem? hj)
   rw [hke, gh, hm] at hc
   cases hc
 | some c =>
  obtain ⟨e0, he0, hke0⟩ := hok.has (KeyV.kv key) c (by rw [gh, hm])
  obtain ⟨c', hc', hr'⟩ := hok.val e0 he0
  rw [hke0, gh, hm] at hc'
  cases hc'
  refine ⟨e0.val, hr', fun w' hk => ?_⟩
  have hb := (hk.2 n hD _ _ _ r hT rfl).trans hh
  rcases Kd.find w' hkey es.toList hk1 with ⟨hf, hn⟩ | ⟨j, e1', hf, hj, hke⟩
  ·exact absurd hke0 (hn e0 he0)
  ·have : e1' = e0 := Go.entry_eq_of_key hok.pw (List.mem_of_getElem? hj) he0 (hke.trans hke0.symm)
   subst this
   simp [Instr.lookup, run_underlying ht, MapKept.run_getObj_map hb, Kd.check w' _ hkey, hf, Result.andThen]
theorem uf {D : Nat → Prop} {t k e : TypeId} [MapT P t k e] [KeyT P k α] {x i : Operand} {n wv : Nat} {m : α → Option C} {r : Option C} {z : Value} [Zero P e z] (key : α) (ho : o.op = .lookup t x i false) (hx : evC st x = .map n) (hG : st.G n = some (ei P k wv m)) (hD : D n) (hi : evC st i = KeyV.kc key) (hm : m key = r) : SStep P D o st (r.getD (jl z)) := fun E w a hs => by
 subst hm
 obtain ⟨v, h1, h2⟩ := uca (P := P) (t := t) (e := e) (z := z) hx hG (fun _ _ h => h) hD hi E w a hs
 refine ⟨v, h1, fun w' hk => ?_⟩
 simp only [execOp, ho, Sem.run_bind, (h2 w' hk).2, Result.andThen_ok]
 rfl
theorem ub8 [DecidableEq α] {t k e : TypeId} [MapT P t k e] [KeyT P k α] {x i y : Operand} {n wv : Nat} {ok ok' : List MapEntry → Nat → Prop} {m m' : α → Option C} (key : α) (ho : o.op = .mapUpdate t x i y) (hd : o.dst = none) (hx : evC st x = .map n) (hG : st.G n = some (.map wv ok (gp m))) (hk0 : ∀ es cl, ok es cl → okK P k α es cl)
  (hnw : ∀ (E : Env) (w : World) (es es' : List MapEntry) (clock clock' : Nat), MapOk E w ok (gp m) es clock → (∀ e ∈ es', (okK1 P k α e ∧ e.key = KeyV.kv key ∧ ((∃ e0 ∈ es, e0.key = KeyV.kv key ∧ e0.born = e.born) ∨ ((∀ e0 ∈ es, e0.key ≠ KeyV.kv key) ∧ e.born = clock))) ∨ (e ∈ es ∧ e.key ≠ KeyV.kv key)) → ((∃ e0 ∈ es, e0.key = KeyV.kv key) → clock' = clock) → ok' es' clock') (hi : evC st i = KeyV.kc key) (hm : fx m key (evC st y) = m')
  (h : K { st with G := bc st.G n (.map (wv + 1) ok' (gp m')) }) : EStep P o st K := fun E w a hs Kr Q hq => by
 subst hm
 obtain ⟨r, es, clock, hT, hh, hok, hcl⟩ := hs.g.obj n _ hG
 have e1 := pv (hx ▸ hs.ev x) hT
 have hkr := hi ▸ hs.ev i
 have e2 := KeyV.inv hkr
 obtain ⟨kl, hkey⟩ := KeyT.has (P := P) (k := k) hkr
 have ht := MapT.spec (P := P) (t := t) (k := k) (e := e)
 have Kd := KeyT.keyed (P := P) (k := k) (α := α)
 obtain ⟨es', clock', hrun, h1, h2, h3, h4, h5, h6, h7⟩ := wb (w := w) Kd ht hh (fun e he => let ⟨_, l, _, h, _⟩ := hk0 _ _ hok.ok e he; ⟨l, h⟩) hok.pw hkey (a.eval y) hcl
 have hnew : (ChangeMaps.setBlock w r (.map es' clock')).heap[r]? = some (.map es' clock') := ChangeMaps.heap_setBlock_same hh _
 have hchg : Chg E w (ChangeMaps.setBlock w r (.map es' clock')) 0 wv (.map (some r)) 0 (wv + 1) (.map (some r)) (E.L r) := by
  have hbn := hs.g.tb n _ _ _ r hT rfl
  refine ⟨⟨rfl, rfl, rfl, by simp [ChangeMaps.setBlock], fun k hk => pc w r k _ (by omega)⟩, fun k _ hk => pc w r k _ (fun e => hk (by simp [blk, e])), fun b hb => .inl ⟨hb, ?_⟩, fun b i hb hi => ?_, .inr ⟨rfl, rfl, by omega⟩, fun b o hb ho => ?_, fun hv => absurd hv (Nat.lt_irrefl _), fun b hb hl => ?_⟩
  ·simp only [blk, Option.some.injEq] at hb; subst hb; exact Nat.le_refl _
  ·simp only [blk, Option.some.injEq] at hb; subst hb
   simp [World.cell?, hh, hnew]
  ·simp only [blk, Option.some.injEq] at hb; subst hb; rw [hh] at ho; cases ho; exact ⟨_, hnew, rfl⟩
  ·simp only [blk, Option.some.injEq] at hb; subst hb; omega
 have hev := Ev.chg hs.g hT hchg
 have hobj : ObjOk (E.chg n (0, wv + 1, .map (some r)) (E.L r)) (ChangeMaps.setBlock w r (.map es' clock')) n (.map (wv + 1) ok' (gp (fx m key (evC st y)))) := by
  refine ⟨r, es', clock', by simp [Env.chg], hnew, ⟨?_, h2, h6 hok.pb, fun e he => ?_, fun x c hx => ?_⟩, h5⟩
  ·refine hnw E w es.toList es'.toList clock clock' hok (fun e he => ?_) h7
   rcases h1 e he with ⟨h, _, hb⟩ | ⟨h, hne⟩
   ·exact .inl ⟨⟨key, kl, h, h ▸ hkey, fun E' w' => h ▸ KeyV.any hkr E' w'⟩, h, hb⟩
   ·exact .inr ⟨h, hne⟩
  ·rcases h1 e he with ⟨hk, hv, _⟩ | ⟨hm, hne⟩
   ·refine ⟨evC st y, by rw [hk, gh]; simp [fx], ?_⟩
    rw [hv]
    exact (hs.ev y).ev hev
   ·obtain ⟨c, hc, hr⟩ := hok.val e hm
    refine ⟨c, ?_, hr.ev hev⟩
    obtain ⟨y, l, hy, _⟩ := hk0 _ _ hok.ok e hm
    rw [hy, gh] at hc ⊢
    have : y ≠ key := fun e2 => hne (by rw [hy, e2])
    simp [fx, this, hc]
  ·by_cases hex : ∃ y : α, x = KeyV.kv y
   ·obtain ⟨y, rfl⟩ := hex
    rw [gh] at hx
    by_cases hyk : y = key
    ·subst hyk; exact h3
    ·simp only [fx, hyk, if_false] at hx
     obtain ⟨e, he, hek⟩ := hok.has (KeyV.kv y) c (by rw [gh]; exact hx)
     exact ⟨e, h4 e he (by rw [hek]; exact fun e2 => hyk (KeyV.inj e2)), hek⟩
   ·rw [m2 _ hex] at hx; cases hx
 have hg := SimG.chg hs.g hT hchg hobj
 unfold Oper.wp
 have hex : (execOp a.eval o).run P w = .ok .skip (ChangeMaps.setBlock w r (.map es' clock')) := by simp [execOp, ho, e1, e2, hrun]
 rw [hex]
 refine hq _ _ _ _ hev ?_ h
 have h8 := hs.evd hev hg
 simpa [Act.put, hd] using h8
theorem ud0 [DecidableEq α] {t k e : TypeId} [MapT P t k e] [KeyT P k α] {x i y : Operand} {n wv : Nat} {m m' : α → Option C} (key : α) (ho : o.op = .mapUpdate t x i y) (hd : o.dst = none) (hx : evC st x = .map n) (hG : st.G n = some (ei P k wv m)) (hi : evC st i = KeyV.kc key) (hm : fx m key (evC st y) = m')
  (h : K { st with G := bc st.G n (ei P k (wv + 1) m') }) : EStep P o st K :=
 ub8 key ho hd hx hG (fun _ _ h => h) (fun _ _ es es' _ _ hk he _ e h => by
  rcases he e h with h | h
  ·exact h.1
  ·exact hk.ok e h.1) hi hm h
/-- A new map. -/
theorem xw {t k e : TypeId} [MapT P t k e] {ok : List MapEntry → Nat → Prop} (h0 : ok [] 0) (ho : o.op = .makeMap t none) (h : K (St.put { st with G := bc st.G st.nx (.map 0 ok (gp (α := α) fun _ => none)), nx := st.nx + 1 } o.dst (.map st.nx))) : EStep P o st K := kh fun E w a hs => by
 have hnx := hs.g.nx
 have hold : ∀ b, b < w.heap.size → (w.alloc (.map #[] 0)).heap[b]? = w.heap[b]? := fun b hb => Below.heap_alloc w _ b hb
 have hnew : (w.alloc (.map #[] 0)).heap[w.heap.size]? = some (.map #[] 0) := heap_alloc_new w _
 have hTn : ∀ n t, E.T n = some t → (E.name (.map (some w.heap.size))).T n = some t := fun n t ht => by
  have := hs.g.lt n t ht
  simp only [Env.name]; rw [if_neg (by omega)]; exact ht
 have hTo : ∀ n t, (E.name (.map (some w.heap.size))).T n = some t → (n = E.nx ∧ t = (0, 0, .map (some w.heap.size))) ∨ E.T n = some t := fun n t ht => by
  simp only [Env.name] at ht
  split at ht
  ·rename_i e; exact .inl ⟨e, by simpa using ht.symm⟩
  ·exact .inr ht
 have hev : Ev E w (E.name (.map (some w.heap.size))) (w.alloc (.map #[] 0)) := by
  refine ⟨(Below.refl _ _).alloc hs.g.base _, rfl, fun _ => Nat.le_refl _, fun b i hi => ?_, Nat.le_succ _, fun n hn ver wv val ht => ?_, fun n ver wv wv' val h1 h2 hn => ?_, ?_⟩
  ·have hb : b < w.heap.size := Nat.lt_of_not_le fun hle => by have := hs.g.fresh b hle; omega
   exact World.cell?_of_block (w := w) (hold b hb)
  ·rcases hTo n _ ht with ⟨e, _⟩ | ht
   ·omega
   ·exact ⟨ver, wv, val, ht, Nat.le_refl _, fun _ => ⟨rfl, fun _ b hb => hold b (hs.g.tb n ver wv val b ht hb).2⟩⟩
  ·rcases hTo n _ h2 with ⟨e, _⟩ | h2
   ·omega
   ·rw [h1] at h2; simp at h2; omega
  ·refine ⟨rfl, fun b hb => absurd hb (Nat.lt_irrefl _), fun b o ho _ => (hold b (Array.getElem?_eq_some_iff.1 ho).1).trans ho, fun b o ho => ⟨o, (hold b (Array.getElem?_eq_some_iff.1 ho).1).trans ho, rfl⟩, fun n t' b o ht hb ho => ?_, fun n t t' b hn h1 h2 hv _ => ?_⟩
   ·rcases hTo n _ ht with ⟨_, rfl⟩ | ht
    ·simp only [blk, Option.some.injEq] at hb
     subst hb
     have := (Array.getElem?_eq_some_iff.1 ho).1
     omega
    ·exact ⟨t', ht, hb⟩
   ·rcases hTo n _ h2 with ⟨e, _⟩ | h2
    ·omega
    ·rw [h1] at h2; cases h2; omega
 refine ⟨.map (some w.heap.size), w.alloc (.map #[] 0), _, _, _, .map st.nx, ?_, hev, ?_, ?_, h⟩
 ·simp [execOp, ho, Instr.makeMap]
 ·refine .map (by simp [Env.name]; omega) fun ver wv val ht _ => ?_
  simp only [Env.name] at ht
  rw [if_pos hnx.symm] at ht
  simp only [Option.some.injEq, Prod.mk.injEq] at ht
  exact ht.2.2.symm
 ·refine ⟨by simp [Env.name, hnx], fun n o ho => ?_, fun n t ht => ?_, fun n ver wv val b ht hb => ?_, fun n m t t' b h1 h2 hne hb => ?_, fun b hb => ?_, ?_⟩
  ·simp only [bc] at ho
   split at ho
   ·rename_i en
    subst en
    simp only [Option.some.injEq] at ho
    subst ho
    exact ⟨w.heap.size, #[], 0, by simp [Env.name, hnx], hnew, ⟨h0, by simp, by simp, by simp, fun x c hx => by
     by_cases hex : ∃ y : α, x = KeyV.kv y
     ·obtain ⟨y, rfl⟩ := hex
      rw [gh] at hx; cases hx
     ·rw [m2 _ hex] at hx; cases hx⟩, by simp⟩
   ·rename_i en
    refine (hs.g.obj n o ho).keep hev (by simp only [Env.name]; rw [if_neg (by omega)]) fun ver wv val b h1 h2 => ⟨hold b (hs.g.tb n ver wv val b h1 h2).2, rfl⟩
  ·rcases hTo n _ ht with ⟨e, _⟩ | ht
   ·simp [Env.name]; omega
   ·have := hs.g.lt n t ht
    simp [Env.name]; omega
  ·rcases hTo n _ ht with ⟨_, e⟩ | ht
   ·simp only [Prod.mk.injEq] at e
    obtain ⟨rfl, rfl, rfl⟩ := e
    simp only [blk, Option.some.injEq] at hb
    subst hb
    exact ⟨hs.g.base, by simp⟩
   ·have := hs.g.tb n ver wv val b ht hb
    exact ⟨this.1, by simp; omega⟩
  ·rcases hTo n _ h1 with ⟨e, rfl⟩ | h1 <;> rcases hTo m _ h2 with ⟨e', rfl⟩ | h2
   ·omega
   ·intro hb'
    simp only [blk, Option.some.injEq] at hb
    subst hb
    have := hs.g.tb m _ _ _ w.heap.size h2 hb'
    omega
   ·intro hb'
    simp only [blk, Option.some.injEq] at hb'
    subst hb'
    have := hs.g.tb n _ _ _ w.heap.size h1 hb
    omega
   ·exact hs.g.ap n m t t' b h1 h2 hne hb
  ·exact hs.g.fresh b (by simp at hb; omega)
  ·have := hs.g.base
   simp [Env.name]; omega
theorem ud1 {t k e : TypeId} [MapT P t k e] (ho : o.op = .makeMap t none) (h : K (St.put { st with G := bc st.G st.nx (ei P k (α := α) 0 fun _ => none), nx := st.nx + 1 } o.dst (.map st.nx))) : EStep P o st K :=
 xw (ok := okK P k α) (fun e he => by simp at he) ho h
end
end Go.AB
namespace Go.AB
open Go Go.RowKit
open Go.AB.Enc (cells)
theorem mx {P : Program} {b : Frame} {a : Act} {k : List Item} {cs : List Frame} {w : World} {c : Code} : step P (lone (b.atR a (.code (.scope c) :: k)) cs w) = .next (lone (b.atR a (.code c :: .inScope c :: k)) cs w) :=
 step_lone_go (by simp [stepG, stepG.exec, Frame.atR])
theorem z9 {P : Program} {b : Frame} {a : Act} {k : List Item} {cs : List Frame} {w : World} {c : Code} : step P (lone (b.atR a (.inScope c :: k)) cs w) = .next (lone (b.atR a k) cs w) :=
 step_lone_go (by simp [stepG, stepG.exec, Frame.atR])
def ubt (Q : Exit → Act → World → Prop) : Exit → Act → World → Prop
 | .goto _, _, _ => False
 | e, a, w => Q e a w
theorem zl {F : Fence} {n : Nat} {P : Program} {Q : Exit → Act → World → Prop} {a : Act} {w : World} {c : Code} (h : c.wpIn F n P (ubt Q) a w) : (Code.scope c).wpIn F n P Q a w := by
 intro b k cs hro hb hr
 have h0 : (lone (b.atR a (.code (.scope c) :: k)) cs w).fenced P F := fenced_calm hb hr rfl
 obtain ⟨e, a₁, w₁, hq, harr⟩ := h b (.inScope c :: k) cs hro hb hr
 cases e with
 | normal => exact ⟨.normal, a₁, w₁, hq, .head h0 mx (StepsIn.trans harr (.one (fenced_calm hb hr rfl) z9))⟩
 | exit id' =>
  have hx : exitTo id' (.inScope c :: k) = exitTo id' k := by simp [exitTo]
  exact ⟨.exit id', a₁, w₁, hq, fun k' hk => .head h0 mx (harr.1 k' (by rw [hx]; exact hk)),
   fun hr' hk => let ⟨k₁, h1, h2⟩ := harr.2 hr' (by rw [hx]; exact hk); ⟨k₁, h1, .head h0 mx h2⟩⟩
 | goto l => exact hq.elim
 | ret => exact ⟨_, a₁, w₁, hq, .of_steps (.one h0 mx) harr⟩
 | panic ch => exact ⟨_, a₁, w₁, hq, .of_steps (.one h0 mx) harr⟩
 | outgrown => exact ⟨_, a₁, w₁, hq, .of_steps (.one h0 mx) harr⟩
section
variable {ρ : Option Nat} {P : Program} {Q : Exit → St → Prop} {st : St}
def uga (Q : Exit → St → Prop) : Exit → St → Prop
 | .goto _, _ => False
 | e, st => Q e st
theorem uey {c : Code} (h : AW ρ P c (uga Q) st) : AW ρ P (.scope c) Q st := by
 intro E w a hs
 refine zl (gd ?_ (h E w a hs))
 rintro e a' w' ⟨st', E', h1, h2, h3⟩
 cases e with
 | goto l => exact h3
 | _ => exact ⟨st', E', h1, h2, h3⟩
/-- Round by round. -/
def o4 (ρ : Option Nat) (P : Program) (c : Code) (Q : Exit → St → Prop) : Nat → St → Prop
 | 0, _ => False
 | m + 1, st => AW ρ P c (jz (o4 ρ P c Q m) Q) st
theorem uez {c : Code} (m : Nat) (h : o4 ρ P c Q m st) : AW ρ P (.loop c) Q st := by
 intro E w a hs
 refine wpIn_loop_rounds m ?_
 have key : ∀ m st E1 w1 a1, Ev E w E1 w1 → Sim E1 w1 st a1 → o4 ρ P c Q m st → Code.roundsIn (fen ρ) 1 P c (kq E w Q) m a1 w1 := by
  intro m
  induction m with
  | zero => intro st E1 w1 a1 _ _ h; exact h.elim
  | succ m ih =>
   intro st E1 w1 a1 hev hs1 h
   refine gd ?_ (h E1 w1 a1 hs1)
   rintro e a' w' ⟨st', E', h1, h2, h3⟩
   cases e with
   | normal => exact ih st' E' w' a' (hev.trans h1) h2 h3
   | _ => exact ⟨st', E', hev.trans h1, h2, h3⟩
 exact key m st E w a (Ev.refl E w) hs h
theorem ue6 {c : Code} {m : Nat} (h : ∀ K : St → Prop, (∀ st', o4 ρ P c Q m st' → K st') → AW ρ P c (jz K Q) st) : o4 ρ P c Q (m + 1) st := h _ fun _ h => h
end
end Go.AB
namespace Go.AB
open Go Go.RowKit
open Go.Maps (Keyed)
variable {ρ : Option Nat}

section
variable {P : Program} {o : Oper} {st : St} {K : St → Prop} {α : Type} [KeyV α]
/-- A fact among the named objects. -/
theorem udr {E : Env} {w : World} {G : Nat → Option GObj} {nx : Nat} (hg : SimG E w G nx) {v : Value} {c : C} (hr : R E w c v) :
  ∃ E', Ev E w E' w ∧ SimG E' w (bc G nx (.fact v c)) (nx + 1) := by
 refine ⟨_, Ev.name hg undef (fun b o hb => by cases hb), hg.name undef _ (fun b hb => by cases hb) ⟨by simp [Env.name, hg.nx], hr.ev (Ev.name hg undef (fun b o hb => by cases hb))⟩⟩

end
end Go.AB
namespace Go.AB
open Go Go.RowKit

/-- Cells that are laid stay. -/
def KeepL (E : Env) (W W' : World) : Prop := W.heap.size ≤ W'.heap.size ∧ ∀ b i, i < E.L b → W'.cell? ⟨b, i, none⟩ = W.cell? ⟨b, i, none⟩
/-- What an iterator's call does, in one world. -/
def ti (P : Program) (gf : Nat) (E : Env) (w : World) (lb : List Value) {β : Type} (xs : List β) (encv : β → List Value) : Prop :=
 SeqStopsK (fen none) 2 P gf lb.toArray (fun x : { x // x ∈ xs } => (encv x.1).toArray) (KeepL E) (fun zs => zs.map Subtype.val = xs) (fun pre => pre.map Subtype.val <+: xs) xs.length w
/-- The contract of an iterator's value: what comes, in which order. -/
def th (P : Program) (gf : Nat) (caps : List C) {β : Type} (xs : List β) (encv : β → List Value) : Prop :=
 ∀ (E : Env) (w : World) (lb : List Value), Rs E w caps lb → (∀ b, w.heap.size ≤ b → E.L b = 0) → ti P gf E w lb xs encv
/-- The first m named blocks that are no cells lie below B. -/
def NCB (m B : Nat) (E : Env) (W : World) : Prop := ∀ n t b o, n < m → E.T n = some t → blk t.2.2 = some b → W.heap[b]? = some o → o.isCells = false → b < B
/-- What is owned, between two rounds. -/
def OwnW (E : Env) (w : World) (G : Nat → Option GObj) (nx : Nat) (W : World) : Prop := ∃ E1, Ev E w E1 W ∧ SimG E1 W G nx ∧ NCB nx w.heap.size E1 W

theorem SimG.heap {E : Env} {W W' : World} {G : Nat → Option GObj} {nx : Nat} (h : SimG E W G nx) (hcell : ∀ b i, i < E.L b → W'.cell? ⟨b, i, none⟩ = W.cell? ⟨b, i, none⟩) (hblk : ∀ n t b, E.T n = some t → blk t.2.2 = some b → W'.heap[b]? = W.heap[b]?) (hsz : W.heap.size ≤ W'.heap.size) : SimG E W' G nx := by
 have hrs : ∀ {c : List C} {v : List Value}, Rs E W c v → Rs E W' c v := fun hr => hr.same (fun _ => Nat.le_refl _) hcell rfl rfl
 refine ⟨h.nx, fun n o ho => ?_, h.lt, fun n ver wv val b h3 h4 => ?_, h.ap, fun b hb => h.fresh b (Nat.le_trans hsz hb), Nat.le_trans h.base hsz⟩
 ·have hr1 : ∀ {c : C} {v : Value}, R E W c v → R E W' c v := fun hr => hr.same (fun _ => Nat.le_refl _) hcell rfl rfl
  have := h.obj n o ho
  cases o with
  | fact v c => exact ⟨this.1, hr1 this.2⟩
  | raw wv o => obtain ⟨b, q1, q2, q3⟩ := this; exact ⟨b, q1, (hblk n _ b q1 rfl).trans q2, q3⟩
  | map wv ok f =>
   obtain ⟨r, es, clock, q1, q2, q3, q4⟩ := this
   exact ⟨r, es, clock, q1, (hblk n _ r q1 rfl).trans q2, q3.imp fun _ _ _ _ hr => hr1 hr, q4⟩
  | box wv cs =>
   obtain ⟨b, us, tt, q1, q2, q3, q4, q5⟩ := this
   exact ⟨b, us, tt, q1, (hblk n _ b q1 rfl).trans q2, q3, hrs q4, q5⟩
  | arr ver wv tt sz len cs =>
   obtain ⟨val, us, q1, q2, q3, q4, q5, q6⟩ := this
   refine ⟨val, us, q1, ⟨q2.1, ?_⟩, q3, hrs q4, q5, q6⟩
   rcases q2.2 with q2 | ⟨g, cap, cur, rfl, hg, hgg, rest⟩
   ·exact .inl q2
   ·exact .inr ⟨g, cap, cur, rfl, hg, (hblk n _ g q1 rfl).trans hgg, rest⟩
  | tip len tt sz =>
   obtain ⟨val, us, q1, q2, q5, q6⟩ := this
   refine ⟨val, us, q1, ⟨q2.1, ?_⟩, q5, q6⟩
   rcases q2.2 with q2 | ⟨g, cap, cur, rfl, hg, hgg, rest⟩
   ·exact .inl q2
   ·exact .inr ⟨g, cap, cur, rfl, hg, (hblk n _ g q1 rfl).trans hgg, rest⟩
 ·have := h.tb n ver wv val b h3 h4
  exact ⟨this.1, Nat.lt_of_lt_of_le this.2 hsz⟩

theorem sc {W : World} {b i : Nat} {o : Obj} (h : W.heap[b]? = some o) (hf : o.isCells = false) : W.cell? ⟨b, i, none⟩ = none := by
 unfold World.cell?
 dsimp only
 rw [h]
 cases o <;> first | rfl | cases hf

/-- The turn of a block that is no cells, and that came later. -/
theorem Ev.turn {E E1 : Env} {w W W' : World} {G0 : Nat → Option GObj} {nx0 : Nat} (hs : SimG E w G0 nx0) (hev : Ev E w E1 W) (hfr : ∀ b, W.heap.size ≤ b → E1.L b = 0) {row : Option Nat} (hg : W.grownBy W' row)
  (hr : ∀ r, row = some r → w.heap.size ≤ r ∧ ∃ o : Obj, W.heap[r]? = some o ∧ o.isCells = false) : Ev E w E1 W' ∧ ∀ b i, i < E1.L b → W'.cell? ⟨b, i, none⟩ = W.cell? ⟨b, i, none⟩ := by
 have hsz := hev.below.size
 have hold : ∀ b, b < w.heap.size → W'.heap[b]? = W.heap[b]? := fun b hb => hg.block b (by omega) fun e => by have := (hr b e.symm).1; omega
 have hsame : ∀ (b : Nat) (o : Obj), W.heap[b]? = some o → o.isCells = true → W'.heap[b]? = some o := fun b o ho hc => by
  refine (hg.block b (Array.getElem?_eq_some_iff.1 ho).1 fun e => ?_).trans ho
  obtain ⟨_, o', h1, h2⟩ := hr b e.symm
  rw [ho] at h1; cases h1; rw [hc] at h2; cases h2
 have hcell : ∀ b i, i < E1.L b → W'.cell? ⟨b, i, none⟩ = W.cell? ⟨b, i, none⟩ := fun b i hi => by
  have hlt : b < W.heap.size := Nat.lt_of_not_le fun hle => by have := hfr b hle; omega
  by_cases e : some b = row
  ·obtain ⟨h1, o, h2, h3⟩ := hr b e.symm
   have h4 := hs.fresh b h1
   obtain ⟨v, hv⟩ := hev.x.lc b (by omega)
   rw [sc h2 h3] at hv; cases hv
  ·exact World.cell?_of_block (w := W) (hg.block b hlt e)
 refine ⟨⟨⟨hg.os.trans hev.below.os, hg.tape.trans hev.below.tape, hg.output.trans hev.below.output, Nat.le_trans hsz hg.size, fun k hk => (hold k (Nat.lt_of_lt_of_le hk hs.base)).trans (hev.below.block k hk)⟩, hev.B, hev.L,
  fun b i hi => (hcell b i (Nat.lt_of_lt_of_le hi (hev.L b))).trans (hev.cell b i hi), hev.nx, fun n hn' ver' wv' val' h3 => ?_, hev.wv,
  ⟨hev.x.F, fun b hb => ?_, fun b o ho hu => (hold b (Array.getElem?_eq_some_iff.1 ho).1).trans (hev.x.oth b o ho hu), fun b o ho => ?_, hev.x.nb, fun n t t' b hn' q1 q2 q3 q4 => ?_⟩⟩, hcell⟩
 ·obtain ⟨ver, wv, val, q1, q2, q3⟩ := hev.T n hn' _ _ _ h3
  exact ⟨ver, wv, val, q1, q2, fun e => ⟨(q3 e).1, fun e2 b hb => (hold b (hs.tb n _ _ _ b q1 hb).2).trans ((q3 e).2 e2 b hb)⟩⟩
 ·obtain ⟨v, hv⟩ := hev.x.lc b hb
  exact ⟨v, (hcell b 0 (by omega)).trans hv⟩
 ·rw [hold b (Array.getElem?_eq_some_iff.1 ho).1]
  exact hev.x.ic b o ho
 ·obtain ⟨o, q5, q6⟩ := hev.x.mv n t t' b hn' q1 q2 q3 q4
  exact ⟨o, hsame b o q5 q6, q6⟩

/-- What is owned abides it. -/
theorem OwnW.turn {E : Env} {w : World} {G0 : Nat → Option GObj} {nx0 : Nat} (hs : SimG E w G0 nx0) {G : Nat → Option GObj} {nx : Nat} {W W' : World} {row : Option Nat} (h : OwnW E w G nx W) (hg : W.grownBy W' row)
  (hr : ∀ r, row = some r → w.heap.size ≤ r ∧ ∃ o : Obj, W.heap[r]? = some o ∧ o.isCells = false) : OwnW E w G nx W' := by
 obtain ⟨E1, hev, hs1, hn⟩ := h
 obtain ⟨hev', hcell⟩ := hev.turn hs hs1.fresh hg hr
 have hnx := hs1.nx
 have hblk : ∀ n t b, E1.T n = some t → blk t.2.2 = some b → W'.heap[b]? = W.heap[b]? := fun n t b ht hb => by
  have hlt := (hs1.tb n t.1 t.2.1 t.2.2 b ht hb).2
  refine hg.block b hlt fun e => ?_
  obtain ⟨h1, o, h2, h3⟩ := hr b e.symm
  have := hn n t b o (hnx ▸ hs1.lt n t ht) ht hb h2 h3
  omega
 exact ⟨E1, hev', hs1.heap hcell hblk hg.size, fun n t b o hm ht hb ho hf => hn n t b o hm ht hb ((hblk n t b ht hb).symm.trans ho) hf⟩
theorem OwnW.put {E : Env} {w : World} {G0 : Nat → Option GObj} {nx0 : Nat} (hs : SimG E w G0 nx0) {G : Nat → Option GObj} {nx : Nat} {W : World} {l : Nat} {o : Obj} (h : OwnW E w G nx W) (hl : w.heap.size ≤ l) (ho : W.heap[l]? = some o) (hf : o.isCells = false) (o' : Obj) : OwnW E w G nx (W.putObj l o') :=
 h.turn hs (grownBy_putObj' W l o') (fun r e => by cases e; exact ⟨hl, o, ho, hf⟩)

theorem NCB.step {m B : Nat} {E1 E2 : Env} {W W' : World} {G1 : Nat → Option GObj} {nx1 : Nat} (hn : NCB m B E1 W) (hm : m ≤ E1.nx) (hs1 : SimG E1 W G1 nx1) (h1 : Ev E1 W E2 W') : NCB m B E2 W' := by
 intro n t b o hlt ht hb ho hf
 obtain ⟨v', wv', val'⟩ := t
 obtain ⟨v, wv, val, q1, q2, q3⟩ := h1.T n (by omega) _ _ _ ht
 by_cases e : v = v'
 ·have hval := (q3 e).1
  subst hval
  have hlt2 := (hs1.tb n v wv val b q1 hb).2
  cases ho0 : W.heap[b]? with
  | none => rw [Array.getElem?_eq_none_iff] at ho0; omega
  | some o0 =>
   obtain ⟨o', h3, h4⟩ := h1.x.ic b o0 ho0
   rw [ho] at h3
   cases h3
   exact hn n _ b o0 hlt q1 hb ho0 (h4.symm.trans hf)
 ·obtain ⟨o2, h3, h4⟩ := h1.x.mv n _ _ b (by omega) q1 ht (by show v < v'; omega) hb
  rw [ho] at h3
  cases h3
  rw [hf] at h4; cases h4

/-- What comes is put into the loop's variables. -/
def putL : List Tmp → List C → St → St
 | p :: ps, c :: cs, st => putL ps cs (st.put (some p) c)
 | _, _, st => st
def n3 : List Tmp → List Value → Act → Act
 | p :: ps, v :: vs, a => n3 ps vs (a.put (some p) v)
 | _, _, a => a
theorem uc {E : Env} {w : World} : ∀ (ps : List Tmp) {cs : List C} {vs : List Value} {st : St} {a : Act}, Rs E w cs vs → Sim E w st a → Sim E w (putL ps cs st) (n3 ps vs a)
 | [], _, _, _, _, _, h => h
 | p :: ps, [], [], _, _, _, h => h
 | p :: ps, c :: cs, v :: vs, _, _, hr, h => uc ps (cs := cs) (vs := vs) ⟨by simpa using hr.1, fun j d x h1 h2 => hr.2 (j + 1) d x (by simpa using h1) (by simpa using h2)⟩ (h.put (some p) (hr.2 0 c v rfl rfl))
 | p :: ps, [], v :: vs, _, _, hr, _ => absurd hr.1 (by simp)
 | p :: ps, c :: cs, [], _, _, hr, _ => absurd hr.1 (by simp)
theorem vl : ∀ (ps : List Tmp) (vs : List Value) (a : Act), n3 ps vs a = { a with tmps := (ps.zip vs).foldl (fun t p => t.setIfInBounds p.1 p.2) a.tmps }
 | [], _, _ => rfl
 | p :: ps, [], _ => rfl
 | p :: ps, v :: vs, a => by
  simp only [n3, List.zip_cons_cons, List.foldl_cons]
  rw [vl ps vs]
  rfl

/-- How a round ends. -/
def qy {β Y : Type} (J : List β → Nat → Option GObj) (IxA : Code → List β → Y → Prop) (Gx : Y → Nat → Option GObj) (zs : List β) (e : Exit) (st : St) : Prop :=
 match e with
 | .normal => ∀ n o, J zs n = some o → st.G n = some o
 | .ret => ∃ y, IxA .ret zs y ∧ ∀ n o, Gx y n = some o → st.G n = some o
 | .exit id => ∃ y, IxA (.exit id) zs y ∧ ∀ n o, Gx y n = some o → st.G n = some o
 | .goto l => ∃ y, IxA (.goto l) zs y ∧ ∀ n o, Gx y n = some o → st.G n = some o
 | _ => False

/-- A range over a function: what is known between rounds hangs on what has come. -/
theorem ua2 {E : Env} {w : World} {a : Act} {P : Program} {β Y : Type} {g : Operand} {ps : Array Tmp} {assign body : Code} {Q : Exit → St → Prop} {st : St} {gf : Nat} [Fun P gf] {vs : List Value} {xs : List β} {encv : β → List Value} (cl : β → List C) (pl : List Tmp)
  (J : List β → Nat → Option GObj) (IxA : Code → List β → Y → Prop) (Gx : Y → Nat → Option GObj) (u : β → List (Nat × C)) (hs : Sim E w st a) (it : ti P gf E w vs xs encv)
  (hgv : a.eval g = .func (.func gf) #[] vs.toArray) (hps : ps = pl.toArray) (hlen : ∀ x, (encv x).length = pl.length) (hcl : ∀ x ∈ xs, ∀ E W, Rs E W (cl x) (encv x))
  (hu : ∀ pre x, putL pl (cl x) { st with G := J pre, df := 0 } = { st with r := u x, G := J pre, df := 0 })
  (h0 : ∀ n o, J [] n = some o → st.G n = some o) (hJ : ∀ zs n o, J zs n = some o → st.G n = some o ∨ (n < st.nx ∧ o.low st.nx)) (hGx : ∀ c zs y, IxA c zs y → ∀ n o, Gx y n = some o → st.G n = some o ∨ (n < st.nx ∧ o.low st.nx))
  (round : ∀ l pre x, x ∈ xs → pre.length < xs.length → (∀ y ∈ pre, y ∈ xs) → AW (some l) P assign (jz (AW (some l) P body (qy J IxA Gx (pre ++ [x]))) fun _ _ => False) { st with r := u x, G := J pre, df := 0 })
  (stop : ∀ c pre y, pre <+: xs → IxA c pre y → AW none P c Q { st with G := Gx y, df := st.df + 1 })
  (done : Q .normal { st with G := J xs, df := st.df + 1 }) : cwp none P (.rangeFunc g ps assign body) (kq E w Q) a w := by
 have hlow : ∀ {G : Nat → Option GObj}, (∀ n o, G n = some o → st.G n = some o ∨ (n < st.nx ∧ o.low st.nx)) → ∀ n o, G n = some o → n < st.nx ∧ o.low st.nx := fun h n o ho => by
  rcases h n o ho with h1 | h1
  ·exact hs.lowG n o h1
  ·exact h1
 have hF : E.F ≤ w.heap.size := hs.d.F
 have hnx := hs.g.nx
 have simAt : ∀ {E1 : Env} {W : World} {G : Nat → Option GObj} {ds : List Deferred} {k : Nat}, Ev E w E1 W → SimG E1 W G st.nx → DefN E1 W k ds → Sim E1 W { st with G := G, df := k } { a with defers := ds } := fun hev hg1 hd =>
  ⟨hd, hs.sz, fun i v hv => (hs.t i v hv).ev hev, hg1⟩
 have marked : ∀ {E1 : Env} {W : World} {D : Nat}, Ev E w E1 W → (∀ n t, E1.T n = some t → n < st.nx) → NCB st.nx w.heap.size E1 W → w.heap.size ≤ D → W.heap[D]? = some (.deferred (some [])) → DefN E1 W (st.df + 1) ({ target := .collected D, args := #[] } :: a.defers) := fun {E1 W D} hev hlt hn hD hK => by
  refine ⟨⟨⟨D, rfl, by rw [hev.x.F]; omega, hK, fun n t ht hb => ?_, ?_⟩, (hs.d.ev hev).1⟩, by simp [hs.d.2]⟩
  ·have := hn n t D _ (hlt n t ht) ht hb hK rfl
   omega
  ·have : ∀ {ds : List Deferred}, DefOk E w ds → ∀ d' ∈ ds, d'.target ≠ .collected D := by
    intro ds
    induction ds with
    | nil => exact fun _ d' h => by cases h
    | cons d ds ih =>
     rintro ⟨⟨D', e', _, h2, _⟩, k⟩ d' hd'
     rcases List.mem_cons.1 hd' with rfl | hd'
     ·rw [e']
      intro e
      simp only [Target.collected.injEq] at e
      have := (Array.getElem?_eq_some_iff.1 h2).1
      omega
     ·exact ih k d' hd'
   exact this hs.d.1
 refine s0 (n := 3) (wpIn_rangeFunc fun fn _ => ?_)
 -- the loop's record and the block for deferred calls
 obtain ⟨rc, hrc⟩ : ∃ rc : LoopState → Option Code → Loop, rc = fun s pe => { state := s, pending := pe, fn, tmps := a.tmps, params := ps, assign, body, defers := w.heap.size } := ⟨_, rfl⟩
 obtain ⟨W1, hW1⟩ : ∃ W1, (w.alloc (.deferred (some []))).alloc (.loop (rc .ready none)) = W1 := ⟨_, rfl⟩
 have sz1 : W1.heap.size = w.heap.size + 2 := by rw [← hW1]; simp
 have gr1 : w.grownBy W1 none := by
  refine ⟨by rw [← hW1]; rfl, by rw [← hW1]; rfl, by rw [← hW1]; rfl, by omega, fun k hk _ => ?_⟩
  rw [← hW1, Below.heap_alloc _ _ _ (by simp; omega), Below.heap_alloc _ _ _ hk]
 have recs : W1.heap[w.heap.size + 1]? = some (.loop (rc .ready none)) ∧ W1.heap[w.heap.size]? = some (.deferred (some [])) := by
  rw [← hW1]
  refine ⟨by have := World.alloc_heap_new (w.alloc (.deferred (some []))) (.loop (rc .ready none)); simpa using this, ?_⟩
  rw [Below.heap_alloc _ _ _ (by simp)]
  exact World.alloc_heap_new w _
 have own1 : OwnW E w (J []) st.nx W1 := OwnW.turn hs.g ⟨E, Ev.refl E w, hs.g.weak h0, fun n t b o _ ht hb _ _ => (hs.g.tb n t.1 t.2.1 t.2.2 b ht hb).2⟩ gr1 (fun r e => by cases e)
 refine ⟨w.heap.size + 1, [{ target := .collected w.heap.size, args := #[] }], W1, { target := .fn (.func gf) vs.toArray, args := #[.func (.yield (w.heap.size + 1)) #[] #[]] }, W1, gf, #[.func (.yield (w.heap.size + 1)) #[] #[]] ++ vs.toArray, W1, ?_, ?_, fun _ _ => trivial, ?_, fun e => (by cases e), ?_⟩
 ·rw [← hW1, hrc]; exact run_enterLoop_outer _ _ _ _ _
 ·simp only [resolve, hgv]; simp [go_sem]
 ·simp [invoke, go_sem, ro]
 have below1 : Below w.heap.size w W1 := ⟨gr1.os, gr1.tape, gr1.output, gr1.size, fun k hk => gr1.block k hk (by simp)⟩
 have tame : ∀ {A B : World} {row : Option Nat}, (∀ r, row = some r → W1.heap.size ≤ r ∧ ∃ o : Obj, A.heap[r]? = some o ∧ o.isWalk = true) → ∀ r, row = some r → w.heap.size ≤ r ∧ ∃ o : Obj, A.heap[r]? = some o ∧ o.isCells = false := fun h r e => by
  obtain ⟨h1, o, h2, h3⟩ := h r e
  exact ⟨by omega, o, h2, Obj.not_cells_of_walk h3⟩
 have stays : ∀ {A B : World} {row : Option Nat} {k : Nat} {o : Obj}, A.grownBy B row → (∀ r, row = some r → W1.heap.size ≤ r ∧ ∃ o : Obj, A.heap[r]? = some o ∧ o.isWalk = true) → A.heap[k]? = some o → o.isWalk = false → B.heap[k]? = some o := fun hgr h hk hw =>
  (grownBy_keeps hgr (fun r e => (h r e).2) hk hw).trans hk
 refine (it (w.heap.size + 1)
  (fun zs W => OwnW E w (J (zs.map Subtype.val)) st.nx W ∧ W.heap[w.heap.size + 1]? = some (.loop (rc .ready none)) ∧ W.heap[w.heap.size]? = some (.deferred (some [])))
  (fun zs W => ∃ c y, IxA c (zs.map Subtype.val) y ∧ OwnW E w (Gx y) st.nx W ∧ W.heap[w.heap.size + 1]? = some (.loop (rc .done (some c))) ∧ W.heap[w.heap.size]? = some (.deferred (some [])))
  W1 below1 (fun zs A B row h hgr hr => ⟨h.1.turn hs.g hgr (tame (B := B) hr), stays hgr hr h.2.1 rfl, stays hgr hr h.2.2 rfl⟩)
  (fun zs A B row h hgr hr => let ⟨c, y, h1, h2, h3, h4⟩ := h; ⟨c, y, h1, h2.turn hs.g hgr (tame (B := B) hr), stays hgr hr h3 rfl, stays hgr hr h4 rfl⟩) ?_ ⟨own1, recs⟩).mono ?_
 ·-- a round
  rintro pre x W ⟨⟨E1, hev, hs1, hn⟩, hl, hk⟩ hlen'
  have hE1 : E1.nx = st.nx := hs1.nx
  have unt : ∀ {k : Nat} {o : Obj}, w.heap.size ≤ k → W.heap[k]? = some o → o.isCells = false → ∀ n t, E1.T n = some t → blk t.2.2 ≠ some k := fun {k o} hk' ho hf n t ht hb => by
   have := hn n t k o (hE1 ▸ hs1.lt n t ht) ht hb ho hf
   omega
  have hy := run_yield (P := P) (args := (encv x.1).toArray) hl (by rw [hrc]; simp [hps, hlen])
  rw [hrc] at hy
  refine ⟨fn, _, assign, body, hy, roundIn_of_wpIn trivial ?_⟩
  clear hy
  have ha0 : ({ tmps := (ps.zip (encv x.1).toArray).foldl (fun t (p, v) => t.setIfInBounds p v) a.tmps, defers := [] } : Act) = n3 pl (encv x.1) { tmps := a.tmps, defers := [] } := by
   rw [vl, hps]
   simp
  have hF1 : E1.F ≤ W.heap.size := by rw [hev.x.F]; exact Nat.le_trans hF hev.below.size
  have hsim := uc pl (hcl x.1 x.2 E1 W) (simAt (ds := []) (k := 0) hev hs1 ⟨hF1, rfl⟩)
  rw [hu] at hsim
  show assign.wpIn (fen (some (w.heap.size + 1))) 1 P _ { tmps := (ps.zip (encv x.1).toArray).foldl (fun t (p, v) => t.setIfInBounds p v) a.tmps, defers := [] } W
  rw [ha0]
  refine wpIn_mono (round (w.heap.size + 1) (pre.map Subtype.val) x.1 x.2 (by simpa using hlen') (fun y hy => by
   obtain ⟨z, _, rfl⟩ := List.mem_map.1 hy
   exact z.2) E1 W _ hsim) ?_
  rintro e a1 Wa ⟨st1, E2, q1, q2, q3⟩
  cases e with
  | normal =>
   have hla := q1.x.oth _ _ hl (unt (by omega) hl rfl)
   have hka := q1.x.oth _ _ hk (unt (Nat.le_refl _) hk rfl)
   have hlta := (Array.getElem?_eq_some_iff.1 hla).1
   refine ⟨_, run_beginRound hla (by rw [hrc]), ?_⟩
   -- the record is busy
   have unt2 : ∀ {k : Nat} {o : Obj}, w.heap.size ≤ k → W.heap[k]? = some o → o.isCells = false → ∀ n t, E2.T n = some t → blk t.2.2 ≠ some k := fun {k o} hk' ho hf n t ht hb => by
    obtain ⟨t0, h1, h2⟩ := q1.x.nb n t k o ht hb ho
    exact unt hk' ho hf n t0 h1 h2
   obtain ⟨Wb, hWb⟩ : ∃ Wb, Wa.putObj (w.heap.size + 1) (.loop { rc .ready none with state := .busy }) = Wb := ⟨_, rfl⟩
   rw [hWb]
   have grb : Wa.grownBy Wb (some (w.heap.size + 1)) := hWb ▸ grownBy_putObj' _ _ _
   have hlb : Wb.heap[w.heap.size + 1]? = some (.loop { rc .ready none with state := .busy }) := hWb ▸ World.putObj_heap_same hlta
   have hkb : Wb.heap[w.heap.size]? = some (.deferred (some [])) := (grb.block _ (Array.getElem?_eq_some_iff.1 hka).1 (by simp)).trans hka
   obtain ⟨evb, hcellb⟩ := (hev.trans q1).turn hs.g q2.g.fresh grb (fun r e => by cases e; exact ⟨by omega, _, hla, rfl⟩)
   have hblkb : ∀ n t b, E2.T n = some t → blk t.2.2 = some b → Wb.heap[b]? = Wa.heap[b]? := fun n t b ht hb => by
    refine grb.block b (q2.g.tb n t.1 t.2.1 t.2.2 b ht hb).2 fun e => ?_
    simp only [Option.some.injEq] at e
    subst e
    exact unt2 (by omega) hl rfl n t ht hb
   have gb := q2.g.heap hcellb hblkb grb.size
   have db : DefN E2 Wb st1.df a1.defers := by
    have : ∀ {ds : List Deferred}, DefOk E2 Wa ds → DefOk E2 Wb ds := by
     intro ds
     induction ds with
     | nil => exact fun h => Nat.le_trans h grb.size
     | cons d ds ih =>
      rintro ⟨⟨D', e', h1, h2, h3, h4⟩, k⟩
      refine ⟨⟨D', e', h1, (grb.block D' (Array.getElem?_eq_some_iff.1 h2).1 fun e => ?_).trans h2, h3, h4⟩, ih k⟩
      simp only [Option.some.injEq] at e
      subst e
      rw [hla] at h2; cases h2
    exact ⟨this q2.d.1, q2.d.2⟩
   have simb : Sim E2 Wb st1 a1 := ⟨db, q2.sz, fun i v hv => (q2.t i v hv).same (fun _ => Nat.le_refl _) hcellb rfl rfl, gb⟩
   have nb2 : NCB st.nx w.heap.size E2 Wb := fun n t b o hm ht hb ho hf => by
    have := hblkb n t b ht hb
    exact hn.step (by omega) hs1 q1 n t b o hm ht hb (this.symm.trans ho) hf
   have hm2 : st.nx ≤ E2.nx := hE1 ▸ q1.nx
   refine wpIn_mono (q3 E2 Wb a1 simb) ?_
   rintro e a3 W3 ⟨st', E3, r1, r2, r3⟩
   have hl3 := r1.x.oth _ _ hlb (unt2 (by omega) hl rfl)
   have hk3 := r1.x.oth _ _ hkb (unt2 (Nat.le_refl _) hk rfl)
   have nb3 := nb2.step hm2 gb r1
   have own : ∀ {Gk : Nat → Option GObj}, (∀ n o, Gk n = some o → st'.G n = some o) → (∀ n o, Gk n = some o → n < st.nx ∧ o.low st.nx) → OwnW E w Gk st.nx W3 := fun {Gk} hsub hlw =>
    ⟨E3.drop st.nx, (evb.trans r1).drop (by omega), (r2.g.weak hsub).drop hlw, fun n t b o hm ht hb ho hf => nb3 n t b o hm (by simp only [Env.drop] at ht; rw [if_pos hm] at ht; exact ht) hb ho hf⟩
   have hmap : (pre ++ [x]).map Subtype.val = pre.map Subtype.val ++ [x.1] := by simp
   -- the end of the round
   have fin : ∀ (jump : Option Code), (Instr.endRound (w.heap.size + 1) jump).run P W3 = .ok (.bool jump.isNone) (W3.putObj (w.heap.size + 1) (.loop (rc (if jump.isNone then .ready else .done) jump))) ∧
     (W3.putObj (w.heap.size + 1) (.loop (rc (if jump.isNone then .ready else .done) jump))).heap[w.heap.size + 1]? = some (.loop (rc (if jump.isNone then .ready else .done) jump)) ∧
     (W3.putObj (w.heap.size + 1) (.loop (rc (if jump.isNone then .ready else .done) jump))).heap[w.heap.size]? = some (.deferred (some [])) := fun jump => by
    refine ⟨?_, World.putObj_heap_same (Array.getElem?_eq_some_iff.1 hl3).1, (World.putObj_heap_other (by omega)).trans hk3⟩
    have := run_endRound (P := P) jump hl3
    rw [hrc] at this ⊢
    exact this
   have keep : ∀ jump, KeepL E W (W3.putObj (w.heap.size + 1) (.loop (rc (if jump.isNone then .ready else .done) jump))) := fun jump => ⟨by
    rw [World.putObj_size]
    exact Nat.le_trans q1.below.size (Nat.le_trans grb.size r1.below.size), fun b i hi => by
    have hne : b ≠ w.heap.size + 1 := fun e => by subst e; rw [hs.g.fresh _ (by omega)] at hi; omega
    refine (World.cell?_of_block (w := W3) (World.putObj_heap_other hne)).trans ?_
    have h1 : i < E1.L b := Nat.lt_of_lt_of_le hi (hev.L b)
    have h2 : i < E2.L b := Nat.lt_of_lt_of_le h1 (q1.L b)
    exact (r1.cell b i h2).trans ((hcellb b i h2).trans (q1.cell b i h1))⟩
   cases e with
   | normal =>
    obtain ⟨h1, h2, h3⟩ := fin none
    refine ⟨_, _, h1, .inl ⟨rfl, ⟨?_, h2, h3⟩, keep none⟩⟩
    rw [hmap]
    exact (own r3 (hlow (hJ _))).put hs.g (by omega) hl3 rfl _
   | ret =>
    obtain ⟨h1, h2, h3⟩ := fin (some .ret)
    obtain ⟨y, k1, k2⟩ := r3
    exact ⟨_, _, h1, .inr ⟨rfl, .ret, y, by rw [hmap]; exact k1, (own k2 (hlow (hGx _ _ y k1))).put hs.g (by omega) hl3 rfl _, h2, h3⟩⟩
   | exit id =>
    obtain ⟨h1, h2, h3⟩ := fin (some (.exit id))
    obtain ⟨y, k1, k2⟩ := r3
    exact ⟨_, _, h1, .inr ⟨rfl, .exit id, y, by rw [hmap]; exact k1, (own k2 (hlow (hGx _ _ y k1))).put hs.g (by omega) hl3 rfl _, h2, h3⟩⟩
   | goto l' =>
    obtain ⟨h1, h2, h3⟩ := fin (some (.goto l'))
    obtain ⟨y, k1, k2⟩ := r3
    exact ⟨_, _, h1, .inr ⟨rfl, .goto l', y, by rw [hmap]; exact k1, (own k2 (hlow (hGx _ _ y k1))).put hs.g (by omega) hl3 rfl _, h2, h3⟩⟩
   | panic c => exact r3.elim
   | outgrown => exact r3.elim
  | _ => exact q3.elim
 ·-- behind the iterator
  rintro e W2 ⟨⟨v, rfl⟩, (⟨zs, hz, hI, hl, hk⟩ | ⟨pre, hz, c, y, hi, hI, hl, hk⟩)⟩
  ·obtain ⟨E1, hev, hs1, hn⟩ := hI.put hs.g (by omega) hl rfl (.loop { rc .ready none with state := .exhausted })
   have hK : (W2.putObj (w.heap.size + 1) (.loop { rc .ready none with state := .exhausted })).heap[w.heap.size]? = some (.deferred (some [])) := (World.putObj_heap_other (by omega)).trans hk
   rw [hz] at hs1
   exact ⟨none, _, by have := run_endLoop (P := P) hl (by rw [hrc]; simp); rw [hrc] at this ⊢; exact this, _, E1, hev, simAt hev hs1 (marked hev (fun n t ht => hs1.nx ▸ hs1.lt n t ht) hn (Nat.le_refl _) hK), done⟩
  ·obtain ⟨E1, hev, hs1, hn⟩ := hI.put hs.g (by omega) hl rfl (.loop { rc .done (some c) with state := .exhausted })
   have hK : (W2.putObj (w.heap.size + 1) (.loop { rc .done (some c) with state := .exhausted })).heap[w.heap.size]? = some (.deferred (some [])) := (World.putObj_heap_other (by omega)).trans hk
   refine ⟨some c, W2.putObj (w.heap.size + 1) (.loop { rc .done (some c) with state := .exhausted }), by rw [run_endLoop (P := P) hl (by rw [hrc]; simp), hrc], ?_⟩
   have h2 := s0 (m := 3) (stop c _ y hz hi E1 _ _ (simAt hev hs1 (marked hev (fun n t ht => hs1.nx ▸ hs1.lt n t ht) hn (Nat.le_refl _) hK)))
   exact wpIn_mono h2 fun _ _ _ hq => kp hev hq
theorem ue0 {P : Program} {β Y : Type} {g : Operand} {ps : Array Tmp} {assign body : Code} {Q : Exit → St → Prop} {st : St} {gf : Nat} [Fun P gf] {caps : List C} {xs : List β} {encv : β → List Value} (cl : β → List C) (pl : List Tmp)
  (J : List β → Nat → Option GObj) (IxA : Code → List β → Y → Prop) (Gx : Y → Nat → Option GObj) (u : β → List (Nat × C)) (it : th P gf caps xs encv)
  (hg : evC st g = .fn (.func gf) caps) (hps : ps = pl.toArray) (hlen : ∀ x, (encv x).length = pl.length) (hcl : ∀ x ∈ xs, ∀ E W, Rs E W (cl x) (encv x))
  (hu : ∀ pre x, putL pl (cl x) { st with G := J pre, df := 0 } = { st with r := u x, G := J pre, df := 0 })
  (h0 : ∀ n o, J [] n = some o → st.G n = some o) (hJ : ∀ zs n o, J zs n = some o → st.G n = some o ∨ (n < st.nx ∧ o.low st.nx)) (hGx : ∀ c zs y, IxA c zs y → ∀ n o, Gx y n = some o → st.G n = some o ∨ (n < st.nx ∧ o.low st.nx))
  (round : ∀ l pre x, x ∈ xs → pre.length < xs.length → (∀ y ∈ pre, y ∈ xs) → AW (some l) P assign (jz (AW (some l) P body (qy J IxA Gx (pre ++ [x]))) fun _ _ => False) { st with r := u x, G := J pre, df := 0 })
  (stop : ∀ c pre y, pre <+: xs → IxA c pre y → AW none P c Q { st with G := Gx y, df := st.df + 1 })
  (done : Q .normal { st with G := J xs, df := st.df + 1 }) : AW none P (.rangeFunc g ps assign body) Q st := fun E w a hs =>
 let ⟨vs, hgv, hvs⟩ := (hg ▸ hs.ev g).fn_inv
 ua2 cl pl J IxA Gx u hs (it E w vs hvs hs.g.fresh) hgv hps hlen hcl hu h0 hJ hGx round stop done
end Go.AB
namespace Go.AB
open Go Go.RowKit

/-- Values alone. -/
def exC : C → C
 | .v x => .v x
 | _ => .any
theorem R.ex {E E' : Env} {W W' : World} {c : C} {v : Value} (h : R E W c v) : R E' W' (exC c) v := by
 cases c with
 | v x =>
  have := h.v_inv
  cases h with
  | v h1 => exact .v h1
 | _ => exact .any
def noG : Nat → Option GObj := fun _ => none
def gj (st : St) : St := { n := st.n, l := st.l.map exC, r := st.r.map fun p => (p.1, exC p.2), G := noG, nx := 0, df := st.df }
theorem xb (l : List C) (r : List (Nat × C)) (i : Nat) : cq (l.map exC) (r.map fun p => (p.1, exC p.2)) i = exC (cq l r i) := by
 induction r with
 | nil =>
  simp only [cq, List.map_nil, List.getD_eq_getElem?_getD, List.getElem?_map]
  cases l[i]? <;> rfl
 | cons p r ih =>
  simp only [cq, List.map_cons]
  cases Nat.beq p.1 i
  ·exact ih
  ·rfl
theorem R.bare {E E' : Env} {W W' : World} (h0 : E.nx = 0) (hL : ∀ b, E.L b ≤ E'.L b) (hc : ∀ b i, i < E.L b → W'.cell? ⟨b, i, none⟩ = W.cell? ⟨b, i, none⟩) {c : C} {x : Value} (hr : R E W c x) : R E' W' c x := by
 induction hr with
 | v hx => exact .v hx
 | list h1 h2 h3 h4 h5 h6 _ z1 z2 h8 ih => exact .list h1 h2 h3 h4 h5 (h6.same hL hc) ih z1 z2 fun n h => by have := (h8 n h).1; omega
 | elem h1 h2 h3 _ ih => exact .elem h1 h2 (h3.same hL hc) ih
 | box h1 h2 => omega
 | arr h1 h2 h3 h4 => omega
 | own h1 h2 h3 h4 => omega
 | fn h1 _ h3 ih => exact .fn h1 ih h3
 | map h1 h2 => omega
 | agg h1 h2 _ h4 ih => exact .agg h1 h2 ih h4
 | tup h1 _ h3 ih => exact .tup h1 ih h3
 | any => exact .any
theorem DefN.imp {E E' : Env} {w : World} (hF : E'.F = E.F) (hT : ∀ n t b, E'.T n = some t → blk t.2.2 = some b → ∃ t0, E.T n = some t0 ∧ blk t0.2.2 = some b)  {n : Nat} {ds : List Deferred} (h : DefN E w n ds) : DefN E' w n ds := by
 refine ⟨?_, h.2⟩
 have := h.1
 clear h
 induction ds with
 | nil => show E'.F ≤ w.heap.size; rw [hF]; exact this
 | cons d ds ih =>
  obtain ⟨⟨D, e, h1, h2, h3, h4⟩, k⟩ := this
  exact ⟨⟨D, e, by rw [hF]; exact h1, h2, fun n t ht hb => let ⟨t0, q1, q2⟩ := hT n t D ht hb; h3 n t0 q1 q2, h4⟩, ih k⟩

/-- What a value is known as, whatever the names. -/
def Known (L : Nat → Nat) (Ws : World) (v : Value) (c : C) : Prop := ∀ (E : Env) (W : World), (∀ b, L b ≤ E.L b) → (∀ b i, i < L b → W.cell? ⟨b, i, none⟩ = Ws.cell? ⟨b, i, none⟩) → R E W c v
theorem Known.of {E : Env} {Ws : World} {v : Value} {c : C} (h0 : E.nx = 0) (h : R E Ws c v) : Known E.L Ws v c := fun _ _ hL hc => h.bare h0 hL hc

def itE (L : Nat → Nat) : Env := ⟨0, L, fun _ => none, 0, 0⟩
def xn (facts : List (Value × C)) : Nat → Option GObj := fun n => (facts[n]?).map fun p => .fact p.1 p.2

/-- An iterator at work: what lay when it began; what is laid; the two invariants of who asks. -/
structure ItC (β : Type) where
 xs : List β
 encv : β → List Value
 L : Nat → Nat
 Ws : World
 l : Nat
 J : List { x // x ∈ xs } → World → Prop
 Jx : List { x // x ∈ xs } → World → Prop

section
variable {β : Type} (P : Program) (I : ItC β)
structure ItC.Ok : Prop where
 fr : ∀ b, I.Ws.heap.size ≤ b → I.L b = 0
 aJ : AbidesFrom I.Ws.heap.size I.J
 aJx : AbidesFrom I.Ws.heap.size I.Jx
 hY : ∀ (pre : List { x // x ∈ I.xs }) (x : { x // x ∈ I.xs }) (W : World), I.J pre W → pre.length < I.xs.length → YieldAt (fen none) 1 P I.l (I.encv x.1).toArray W fun e W' =>
  (e = .returned (.bool true) ∧ I.J (pre ++ [x]) W' ∧ KeepL (itE I.L) W W') ∨ (e = .returned (.bool false) ∧ I.Jx (pre ++ [x]) W')

/-- The state of an iterator: y.1: no more is asked for; y.2: what has come. -/
def IterS (st : St) (y : Bool × List β) (W : World) (a : Act) : Prop :=
 match y.1 with
 | false => st.df = 0 ∧ Sim (itE I.L) W st a ∧ KeepL (itE I.L) I.Ws W ∧ ∃ pre, pre.map Subtype.val = y.2 ∧ I.J pre W
 | true => st.df = 0 ∧ Sim (itE fun _ => 0) W st a ∧ ∃ pre, pre.map Subtype.val = y.2 ∧ I.Jx pre W
def IW (c : Code) (Q : Exit → St → Bool × List β → Prop) (st : St) (y : Bool × List β) : Prop :=
 ∀ W a, IterS I st y W a → cwp none P c (fun e a' W' => ∃ st' y', IterS I st' y' W' a' ∧ Q e st' y') a W
def zh (K : St → Bool × List β → Prop) (Q : Exit → St → Bool × List β → Prop) : Exit → St → Bool × List β → Prop
 | .normal, st, y => K st y
 | e, st, y => Q e st y
def zi (id : Nat) (Q : Exit → St → Bool × List β → Prop) : Exit → St → Bool × List β → Prop
 | .exit id', st, y => if id' = id then Q .normal st y else Q (.exit id') st y
 | e, st, y => Q e st y
def ms (ops : Array Oper) (K : St → Bool × List β → Prop) (rest : List Oper) (st : St) (y : Bool × List β) : Prop :=
 ∀ W a, IterS I st y W a → ∀ Q : Exit → Act → World → Prop, (∀ a' W' st' y', IterS I st' y' W' a' → K st' y' → Q .normal a' W') → wpListIn (fen none) 1 P ops Q rest a W
end

section
variable {β : Type} {P : Program} {I : ItC β} {Q : Exit → St → Bool × List β → Prop} {st : St} {y : Bool × List β}
theorem qd (h : Q .normal st y) : IW P I .skip Q st y := fun _ _ hs => wpIn_skip ⟨st, y, hs, h⟩
theorem sn {id : Nat} (h : Q (.exit id) st y) : IW P I (.exit id) Q st y := fun _ _ hs => wpIn_exit ⟨st, y, hs, h⟩
theorem uc8 (h : Q .ret st y) : IW P I .ret Q st y := fun _ _ hs => wpIn_ret ⟨st, y, hs, h⟩
theorem i6 {x z : Code} (h : ∀ K : St → Bool × List β → Prop, (∀ st' y', IW P I z Q st' y' → K st' y') → IW P I x (zh K Q) st y) : IW P I (.seq x z) Q st y := by
 intro W a hs
 refine wpIn_seq (wpIn_mono (h _ (fun _ _ h => h) W a hs) ?_)
 rintro e a' W' ⟨st', y', h1, h2⟩
 cases e with
 | normal => exact h2 W' a' h1
 | _ => exact ⟨st', y', h1, h2⟩
theorem m5 {id : Nat} {c : Code} (h : IW P I c (zi id Q) st y) : IW P I (.block id c) Q st y := by
 intro W a hs
 refine wpIn_block (wpIn_mono (h W a hs) ?_)
 rintro e a' W' ⟨st', y', h1, h2⟩
 cases e with
 | exit id' =>
  simp only [zi] at h2
  simp only [Exit.inBlock]
  split at h2
  ·rename_i e; rw [if_pos e]; exact ⟨st', y', h1, h2⟩
  ·rename_i e; rw [if_neg e]; exact ⟨st', y', h1, h2⟩
 | _ => exact ⟨st', y', h1, h2⟩
theorem IterS.simE {W : World} {a : Act} (h : IterS I st y W a) : ∃ L, Sim (itE L) W st a := by
 obtain ⟨b, zs⟩ := y
 cases b with
 | false => exact ⟨_, h.2.1⟩
 | true => exact ⟨_, h.2.1⟩
theorem og {c : Operand} {x z : Code} {b : Bool} (hc : evC st c = .v (.bool b)) (ht : b = true → IW P I x Q st y) (hf : b = false → IW P I z Q st y) : IW P I (.cond c x z) Q st y := by
 intro W a hs
 obtain ⟨L, hsim⟩ := hs.simE
 have := (hc ▸ hsim.ev c).v_inv
 exact wpIn_cond_split this (fun e => ht e W a hs) (fun e => hf e W a hs)
theorem IterS.le {st' : St} {W : World} {a : Act} (h : IterS I st y W a) (hdf : st'.df = st.df) (hl : ∀ E, Sim E W st a → Sim E W st' a) : IterS I st' y W a := by
 obtain ⟨b, zs⟩ := y
 cases b with
 | false => exact ⟨hdf.trans h.1, hl _ h.2.1, h.2.2⟩
 | true => exact ⟨hdf.trans h.1, hl _ h.2.1, h.2.2⟩
theorem sl {c : Code} (k : Nat) (h : IW P I c Q { st with l := ks st.l st.r 0 k, r := [] } y) : IW P I c Q st y := fun W a hs => h W a (hs.le rfl fun _ hs => hs.wipe k)
theorem udq {E : Env} {W : World} {st' : St} {u : List (Nat × C)} {a : Act} (hr : st.r = []) (hb : Back st u st.G st') (hG : st'.G = st.G) (hn : st'.nx = st.nx) (hs : Sim E W st' a) : Sim E W { st with r := u } a := by
 refine ⟨hb.n.2 ▸ hs.d, hs.sz.trans hb.n.1, fun i v hv => ?_, hG ▸ hn ▸ hs.g⟩
 have hcl : cq st.l u i = .any ∨ cq st.l u i = cq st'.l st'.r i := by
  by_cases hi : i < st.l.length
  ·rcases qk _ _ hb.fits i (Nat.zero_le _) (by omega) with h | h
   ·exact .inl h
   ·exact .inr h.symm
  ·rcases oo st.l u i with ⟨p, hp, he, he2⟩ | ⟨_, he⟩
   ·rcases hb.keys with hk | hk
    ·have := qa hk p hp; omega
    ·rcases qj hk p hp with h | h
     ·left; rw [he2, h]
     ·right; rw [he2, ← h, he]
   ·left; rw [he, List.getD_eq_getElem?_getD, List.getElem?_eq_none (by omega)]; rfl
 rcases hcl with h | h
 ·rw [h]; exact .any
 ·rw [h]; exact hs.t i v hv
theorem sm {X : Type} {c : Code} (Inv : X → Prop) (μ : X → Nat) (u : X → List (Nat × C)) (yy : X → Bool × List β) (x0 : X) (hr : st.r = []) (h0 : Inv x0) (e0 : l4 st.l [] (u x0)) (hy : y = yy x0)
  (round : ∀ x, Inv x → IW P I c (zh (fun st' y' => ∃ x', μ x' < μ x ∧ Inv x' ∧ y' = yy x' ∧ st'.G = st.G ∧ st'.nx = st.nx ∧ Back st (u x') st.G st') Q) { st with r := u x } (yy x)) : IW P I (.loop c) Q st y := by
 intro W a hs
 refine s4 (fun m a1 W1 => ∃ x, m = μ x ∧ Inv x ∧ IterS I { st with r := u x } (yy x) W1 a1) (μ x0) ⟨x0, rfl, h0, hy ▸ hs.le rfl fun E hs => ?_⟩ ?_
 ·have := le_r (n := st.n) (G := st.G) (nx := st.nx) (df := st.df) e0 rfl E W a (by rw [← hr]; exact hs)
  exact this
 ·rintro m a1 W1 ⟨x, rfl, hI, hs1⟩
  refine wpIn_mono (round x hI W1 a1 hs1) ?_
  rintro e a' W' ⟨st', y', h1, h2⟩
  cases e with
  | normal =>
   obtain ⟨x', h3, h4, rfl, h5, h6, h7⟩ := h2
   exact ⟨μ x', h3, x', rfl, h4, h1.le h7.n.2.symm fun E hs => udq hr h7 h5 h6 hs⟩
  | _ => exact ⟨st', y', h1, h2⟩

/-- The abstract state of a stretch of plain code. -/
def im (st : St) (facts : List (Value × C)) : St := { st with G := xn facts, nx := facts.length }
def j8 (L : Nat → Nat) (n : Nat) (W : World) : Env := ⟨W.heap.size, L, fun k => if k < n then some (0, 0, undef) else none, n, 0⟩
theorem uad {L : Nat → Nat} {W : World} {a : Act} {facts : List (Value × C)} (hs : Sim (itE L) W st a) (hf : ∀ p ∈ facts, ∀ E : Env, (∀ b, L b ≤ E.L b) → R E W p.2 p.1) : Sim (j8 L facts.length W) W (im st facts) a := by
 have hT : ∀ n t b, (j8 L facts.length W).T n = some t → blk t.2.2 = some b → False := fun n t b ht hb => by
  simp only [j8] at ht
  split at ht
  ·simp only [Option.some.injEq] at ht; subst ht; simp [blk, undef] at hb
  ·cases ht
 refine ⟨DefN.imp (E := itE L) (E' := j8 L facts.length W) rfl (fun n t b ht hb => (hT n t b ht hb).elim) hs.d, hs.sz, fun i v hv => (hs.t i v hv).bare (E := itE L) (E' := j8 L facts.length W) rfl (fun _ => Nat.le_refl _) (fun _ _ _ => rfl), ⟨rfl, fun n o ho => ?_, fun n t ht => ?_, fun n ver wv val b ht hb => (hT n _ b ht hb).elim, fun n m t t' b ht _ _ hb => (hT n t b ht hb).elim, fun b hb => hs.g.fresh b hb, Nat.le_refl _⟩⟩
 ·simp only [im, xn, Option.map_eq_some_iff] at ho
  obtain ⟨p, hp, rfl⟩ := ho
  refine ⟨?_, hf p (List.mem_of_getElem? hp) _ (fun _ => Nat.le_refl _)⟩
  simp only [j8]
  rw [if_pos (List.getElem?_eq_some_iff.1 hp).1]
 ·simp only [j8] at ht
  split at ht
  ·assumption
  ·cases ht
theorem uae {L : Nat → Nat} {W W' : World} {a' : Act} {n : Nat} {E' : Env} {st' : St} (hfr : ∀ b, W.heap.size ≤ b → L b = 0) (hev : Ev (j8 L n W) W E' W') (hs : Sim E' W' st' a') : Sim (itE L) W' (gj st') a' ∧ KeepL (itE L) W W' ∧ W.grownBy W' none := by
 have hb := hev.below
 refine ⟨⟨DefN.imp (E := E') (E' := itE L) (hev.x.F).symm (fun n t b ht _ => (by cases ht)) hs.d, hs.sz, fun i v hv => ?_, ⟨rfl, fun n o ho => (by cases ho), fun n t ht => (by cases ht), fun n ver wv val b ht => (by cases ht), fun n m t t' b ht => (by cases ht), fun b h => hfr b (Nat.le_trans hb.size h), Nat.zero_le _⟩⟩, ⟨hb.size, fun b i hi => hev.cell b i hi⟩, ⟨hb.os, hb.tape, hb.output, hb.size, fun k hk _ => hb.block k hk⟩⟩
 simp only [gj]
 rw [xb]
 exact (hs.t i v hv).ex
theorem KeepL.trans {E : Env} {A B C : World} (h : KeepL E A B) (k : KeepL E B C) : KeepL E A C := ⟨Nat.le_trans h.1 k.1, fun b i hi => (k.2 b i hi).trans (h.2 b i hi)⟩

variable {zs : List β}
/-- A state behind plain code. -/
theorem IterS.back (ok : I.Ok P) {W W' : World} {a a' : Act} {facts : List (Value × C)} {E' : Env} {st' : St} (h : IterS I st (false, zs) W a) (hev : Ev (j8 I.L facts.length W) W E' W') (hs : Sim E' W' st' a') (hdf : st'.df = 0) : IterS I (gj st') (false, zs) W' a' := by
 obtain ⟨_, _, hk, pre, h1, h2⟩ := h
 obtain ⟨q1, q2, q3⟩ := uae (fun b hb => ok.fr b (Nat.le_trans hk.1 hb)) hev hs
 exact ⟨hdf, q1, hk.trans q2, pre, h1, ok.aJ pre W W' none h2 q3 (fun r e => by cases e)⟩
theorem IterS.start {W : World} {a : Act} {facts : List (Value × C)} (h : IterS I st (false, zs) W a) (hf : ∀ p ∈ facts, Known I.L I.Ws p.1 p.2) : Sim (j8 I.L facts.length W) W (im st facts) a :=
 uad h.2.1 fun p hp E hL => hf p hp E W hL h.2.2.1.2
/-- Plain code. -/
theorem kd (ok : I.Ok P) {c : Code} (facts : List (Value × C)) (hf : ∀ p ∈ facts, Known I.L I.Ws p.1 p.2) (h : AW none P c (fun e st' => st'.df = 0 ∧ Q e (gj st') (false, zs)) (im st facts)) : IW P I c Q st (false, zs) := by
 intro W a hs
 refine gd ?_ (h _ W a (hs.start hf))
 rintro e a' W' ⟨st', E', h1, h2, h3⟩
 exact ⟨_, _, hs.back ok h1 h2 h3.1, h3.2⟩
/-- Two pieces of it. -/
theorem uc7 (ok : I.Ok P) {x x2 z : Code} (facts : List (Value × C)) (hf : ∀ p ∈ facts, Known I.L I.Ws p.1 p.2)
  (h : AW none P x (jz (AW none P x2 (jz (fun st' => st'.df = 0 ∧ IW P I z Q (gj st') (false, zs)) fun _ _ => False)) fun _ _ => False) (im st facts)) : IW P I (.seq x (.seq x2 z)) Q st (false, zs) := by
 intro W a hs
 refine wpIn_seq (gd ?_ (h _ W a (hs.start hf)))
 rintro e a1 W1 ⟨st1, E1, h1, h2, h3⟩
 cases e with
 | normal =>
  refine wpIn_seq (gd ?_ (h3 E1 W1 a1 h2))
  rintro e a2 W2 ⟨st2, E2, q1, q2, q3⟩
  cases e with
  | normal => exact q3.2 W2 a2 (hs.back ok (h1.trans q1) q2 q3.1)
  | _ => exact q3.elim
 | _ => exact h3.elim
theorem uc9 {id : Nat} {l : List Oper} (h : ms P I l.toArray (Q .normal) l st y) : IW P I (.region id l.toArray false) Q st y := fun W a hs =>
 wpIn_region_lit (h W a hs _ fun a' W' st' y' h1 h2 => ⟨st', y', h1, h2⟩)
variable {ops : Array Oper} {K : St → Bool × List β → Prop} {rest : List Oper} {o : Oper}
theorem w8 (h : K st y) : ms P I ops K [] st y := fun W a hs _ hq => wpListIn_nil (hq a W st y hs h)
theorem IterS.put {W : World} {a : Act} (h : IterS I st y W a) (d : Option Tmp) {c : C} {v : Value} (hr : ∀ E, Sim E W st a → R E W c v) : IterS I (st.put d c) y W (a.put d v) := by
 obtain ⟨b, zs⟩ := y
 cases b with
 | false => exact ⟨by cases d <;> exact h.1, h.2.1.put d (hr _ h.2.1), h.2.2⟩
 | true => exact ⟨by cases d <;> exact h.1, h.2.1.put d (hr _ h.2.1), h.2.2⟩
theorem lj {c : C} (hg : eg ops st o = some true) (hq : NStep P o st c) (h : ms P I ops K rest (st.put o.dst c) y) : ms P I ops K (o :: rest) st y := by
 intro W a hs Q hQ
 obtain ⟨L, hsim⟩ := hs.simE
 refine wpListIn_step fun Kr hK => ?_
 rw [if_pos (i7 hg hsim)]
 obtain ⟨v, h1, h2⟩ := hq _ W a hsim
 refine r9 (qi hg).2 ?_
 unfold Oper.wp
 rw [h2 W]
 refine hK _ _ (h W _ (hs.put o.dst fun E hE => ?_) Q hQ)
 obtain ⟨v', h3, h4⟩ := hq _ W a hE
 have := (h2 W).symm.trans (h4 W)
 simp only [Result.ok.injEq, Next.value.injEq, and_true] at this
 exact this ▸ h3
theorem uao {n m l : Nat} {P : Program} {f : FuncId} {tmps : Array Value} {assign body : Code} {w : World} {R : Ending → World → Prop} (h : RoundIn (fen none) n P l f tmps assign body w R) : RoundIn (fen none) m P l f tmps assign body w R :=
 ⟨h.1, fun c cs _ => h.2 c cs (fun _ hd => by cases hd)⟩
/-- A call of yield. -/
theorem udc (ok : I.Ok P) {fv : Operand} {args : List Operand} {ats : Array TypeId} {cs : List C} {x : β} (hx : x ∈ I.xs) (hg : eg ops st o = some true) (ho : o.op = .call { callee := .value fv, args := args.toArray, argTypes := ats }) (hf : evC st fv = .v (.func (.yield I.l) #[] #[])) (has : args.map (evC st) = cs)
  (hcs : ∀ E W vs, Rs E W cs vs → vs = I.encv x) (hlen : zs.length < I.xs.length)
  (h1 : ms P I ops K rest (st.put o.dst (.v (.bool true))) (false, zs ++ [x])) (h2 : ms P I ops K rest (gj (st.put o.dst (.v (.bool false)))) (true, zs ++ [x])) : ms P I ops K (o :: rest) st (false, zs) := by
 intro W a hs Q hQ
 have hs0 := hs
 obtain ⟨hdf, hsim, hk, pre, hp, hj⟩ := hs
 have hdef : a.defers = [] := List.eq_nil_of_length_eq_zero (hsim.d.2.trans hdf)
 refine wpListIn_step fun Kr hK => ?_
 rw [if_pos (i7 hg hsim)]
 have hfv := (hf ▸ hsim.ev fv).v_inv
 subst has
 have hra : Rs (itE I.L) W (args.map (evC st)) (args.map a.eval) := by
  refine ⟨by simp, fun j c v h1 h2 => ?_⟩
  rw [List.getElem?_map] at h1 h2
  cases hx : args[j]? with
  | none => rw [hx] at h1; cases h1
  | some x =>
   rw [hx] at h1 h2
   simp only [Option.map_some, Option.some.injEq] at h1 h2
   subst h1; subst h2
   exact hsim.ev x
 have hargs := hcs _ _ _ hra
 obtain ⟨fn, tmps, assign, body, hy, hR⟩ := ok.hY pre ⟨x, hx⟩ W hj (by have hl := congrArg List.length hp; rw [List.length_map] at hl; dsimp only at hl; omega)
 refine ⟨fun _ _ => trivial, ?_⟩
 rw [Oper.semAt_eq _ _ _ (qi hg).2]
 have hrun : (execOp a.eval o).run P W = .ok (.round I.l fn tmps assign body) W := by
  rw [show (I.encv (⟨x, hx⟩ : { x // x ∈ I.xs }).1).toArray = (args.map a.eval).toArray by rw [hargs]] at hy
  simp only [execOp, ho, resolve, hfv]
  simp [Deferred.ofValue, invoke]
  simpa using hy
 rw [hrun]
 refine ⟨fun e => (by cases e), uao (hR.mono ?_)⟩
 have hmap : (pre ++ [(⟨x, hx⟩ : { x // x ∈ I.xs })]).map Subtype.val = zs ++ [x] := by rw [List.map_append, hp]; rfl
 rintro e W' (⟨rfl, h3, h4⟩ | ⟨rfl, h3⟩)
 ·refine hK _ _ (h1 W' _ ?_ Q hQ)
  have hs' : Sim (itE I.L) W' st a := by
   refine ⟨⟨?_, hsim.d.2⟩, hsim.sz, fun i v hv => (hsim.t i v hv).bare rfl (fun _ => Nat.le_refl _) h4.2, ⟨hsim.g.nx, fun n o ho => ?_, hsim.g.lt, fun n ver wv val b ht => (by cases ht), hsim.g.ap, fun b hb => hsim.g.fresh b (Nat.le_trans h4.1 hb), Nat.zero_le _⟩⟩
   ·rw [hdef]; exact Nat.zero_le _
   ·have := hsim.g.obj n o ho
    cases o with
    | box => obtain ⟨_, _, _, e, _⟩ := this; cases e
    | arr => obtain ⟨_, _, e, _⟩ := this; cases e
    | tip => obtain ⟨_, _, e, _⟩ := this; cases e
    | fact => cases this.1
    | raw => obtain ⟨_, e, _⟩ := this; cases e
    | map => obtain ⟨_, _, _, e, _⟩ := this; cases e
  refine ⟨by cases o.dst <;> exact hdf, hs'.put _ (.v rfl), hk.trans h4, _, hmap, h3⟩
 ·refine hK _ _ (h2 W' _ ?_ Q hQ)
  have hput := hsim.put o.dst (c := .v (.bool false)) (v := .bool false) (.v rfl)
  refine ⟨by cases o.dst <;> exact hdf, ⟨⟨?_, ?_⟩, hput.sz, fun i v hv => ?_, ⟨rfl, fun n o ho => (by cases ho), fun n t ht => (by cases ht), fun n ver wv val b ht => (by cases ht), fun n m t t' b ht => (by cases ht), fun _ _ => rfl, Nat.zero_le _⟩⟩, _, hmap, h3⟩
  ·show DefOk _ W' (a.put o.dst (.bool false)).defers
   have : (a.put o.dst (.bool false)).defers = [] := by cases o.dst <;> exact hdef
   rw [this]; exact Nat.zero_le _
  ·exact hput.d.2
  ·simp only [gj]
   rw [xb]
   exact (hput.t i v hv).ex
end
end Go.AB
namespace Go.AB
open Go Go.RowKit

theorem ou {L : Nat → Nat} {Ws : World} : ∀ p ∈ ([] : List (Value × C)), Known L Ws p.1 p.2 := fun p hp => by cases hp
theorem lm {L : Nat → Nat} {Ws : World} {v : Value} {c : C} {l : List (Value × C)} (h : Known L Ws v c) (k : ∀ p ∈ l, Known L Ws p.1 p.2) : ∀ p ∈ (v, c) :: l, Known L Ws p.1 p.2 := fun p hp => by
 rcases List.mem_cons.1 hp with rfl | hp
 ·exact h
 ·exact k p hp

/-- What an iterator's body must achieve. -/
def qz {β : Type} (xs : List β) : Exit → St → Bool × List β → Prop
 | .normal, _, y | .ret, _, y => (y.1 = false → y.2 = xs) ∧ (y.1 = true → y.2 <+: xs)
 | _, _, _ => False
theorem udi {β : Type} {xs : List β} {st : St} {zs : List β} (h : zs = xs) : qz xs .normal st (false, zs) := ⟨fun _ => h, fun e => by cases e⟩
theorem udh {β : Type} {xs : List β} {st : St} {zs : List β} (h : zs <+: xs) : qz xs .ret st (true, zs) := ⟨fun e => (by cases e), fun _ => h⟩

theorem udb {β : Type} {P : Program} {gf : Nat} {fn : Func} {c : Code} {caps : List C} {xs : List β} {encv : β → List Value} {E : Env} {w : World} {lb : List Value} (hrs : Rs E w caps lb) (hfr : ∀ b, w.heap.size ≤ b → E.L b = 0) (hf : P.funcs[gf]? = some fn) (hb : fn.body = some c) (hr : fn.results = #[]) (hone : ∀ c ∈ caps, C.one c = true)
  (h : ∀ (W : World) (l : Nat) (J Jx : List { x // x ∈ xs } → World → Prop), Rs E W caps lb → (∀ b i, i < E.L b → W.cell? ⟨b, i, none⟩ = w.cell? ⟨b, i, none⟩) → ItC.Ok P ⟨xs, encv, E.L, W, l, J, Jx⟩ →
   IW P ⟨xs, encv, E.L, W, l, J, Jx⟩ c (qz xs) { n := lb.length + 1 + (fn.ntmps - (lb.length + 1)), l := .v (.func (.yield l) #[] #[]) :: lb.map .v, r := [], G := noG, nx := 0 } (false, [])) : ti P gf E w lb xs encv := by
 intro l J Jx W hbel aJ aJx hY hJ
 have hcell : ∀ b i, i < E.L b → W.cell? ⟨b, i, none⟩ = w.cell? ⟨b, i, none⟩ := fun b i hi => by
  have hlt : b < w.heap.size := Nat.lt_of_not_le fun hle => by have := hfr b hle; omega
  exact World.cell?_of_block (w := w) (hbel.block b hlt)
 have hrs' : Rs E W caps lb := hrs.same (E := E) (E' := E) (fun _ => Nat.le_refl _) hcell rfl rfl
 have hsz := hbel.size
 have ok : ItC.Ok P ⟨xs, encv, E.L, W, l, J, Jx⟩ := ⟨fun b hb => hfr b (Nat.le_trans hsz hb), aJ, aJx, hY⟩
 have hargs : Rs (itE E.L) W (.v (.func (.yield l) #[] #[]) :: lb.map .v) (.func (.yield l) #[] #[] :: lb) := by
  refine ⟨by simp, fun j c v hc hv => ?_⟩
  cases j with
  | zero =>
   simp only [List.getElem?_cons_zero, Option.some.injEq] at hc hv
   subst hc; subst hv
   exact .v rfl
  | succ j =>
   simp only [List.getElem?_cons_succ] at hc hv
   rw [List.getElem?_map, hv] at hc
   simp only [Option.map_some, Option.some.injEq] at hc
   subst hc
   have hlt : j < caps.length := by rw [← hrs'.1]; exact (List.getElem?_eq_some_iff.1 hv).1
   have h1 := hrs'.2 j _ v (List.getElem?_eq_getElem hlt) hv
   have h2 := hone _ (List.getElem_mem hlt)
   refine .v ?_
   generalize caps[j] = cc at h1 h2
   cases h1 with
   | v h => exact h
   | list => rfl
   | elem => rfl
   | box => rfl
   | arr => rfl
   | own => rfl
   | fn => rfl
   | map => rfl
   | agg => cases h2
   | tup => cases h2
   | any => cases h2
 have hg : SimG (itE E.L) W noG 0 := ⟨rfl, fun n o ho => (by cases ho), fun n t ht => (by cases ht), fun n ver wv val b ht => (by cases ht), fun n m t t' b ht => (by cases ht), fun b hb => hfr b (Nat.le_trans hsz hb), Nat.zero_le _⟩
 have hsim := Sim.start hargs hg (Nat.zero_le _) fn.ntmps
 have e1 : (#[.func (.yield l) #[] #[]] ++ lb.toArray : Array Value) = (.func (.yield l) #[] #[] :: lb).toArray := by simp
 rw [e1]
 have hw := h W l J Jx hrs' hcell ok W _ ⟨rfl, by simpa using hsim, ⟨Nat.le_refl _, fun _ _ _ => rfl⟩, [], rfl, hJ⟩
 refine callsIn_of_wp_marks hf hb trivial (wpIn_mono (s0 (m := 2) hw) ?_)
 rintro e a' w' ⟨st', ⟨b, zs⟩, hI, hQ⟩
 have fin : (b = false → zs = xs) ∧ (b = true → zs <+: xs) → bodyPostM (fen none) 2 P fn (fun e W' => (∃ v, e = .returned v) ∧ ((∃ zs, zs.map Subtype.val = xs ∧ J zs W') ∨ (∃ pre, pre.map Subtype.val <+: xs ∧ Jx pre W'))) .ret a' w' := by
  rintro ⟨q1, q2⟩
  show LeavesInM (fen none) 2 P fn a'.tmps _ a'.defers .returning w'
  cases b with
  | false =>
   obtain ⟨hdf, hs, hk, pre, hp, hj⟩ := hI
   have hd : a'.defers = [] := List.eq_nil_of_length_eq_zero (hs.d.2.trans hdf)
   rw [hd]
   exact ⟨_, results_none hr _ _ _, ⟨_, rfl⟩, .inl ⟨pre, hp.trans (q1 rfl), hj⟩⟩
  | true =>
   obtain ⟨hdf, hs, pre, hp, hj⟩ := hI
   have hd : a'.defers = [] := List.eq_nil_of_length_eq_zero (hs.d.2.trans hdf)
   rw [hd]
   exact ⟨_, results_none hr _ _ _, ⟨_, rfl⟩, .inr ⟨pre, by rw [hp]; exact q2 rfl, hj⟩⟩
 cases e with
 | normal => exact fin hQ
 | ret => exact fin hQ
 | _ => exact hQ.elim
theorem uda {β : Type} {P : Program} {gf : Nat} {fn : Func} {c : Code} {caps : List C} {xs : List β} {encv : β → List Value} (hf : P.funcs[gf]? = some fn) (hb : fn.body = some c) (hr : fn.results = #[]) (hone : ∀ c ∈ caps, C.one c = true)
  (h : ∀ (E : Env) (W : World) (lb : List Value) (l : Nat) (J Jx : List { x // x ∈ xs } → World → Prop), Rs E W caps lb → ItC.Ok P ⟨xs, encv, E.L, W, l, J, Jx⟩ →
   IW P ⟨xs, encv, E.L, W, l, J, Jx⟩ c (qz xs) { n := lb.length + 1 + (fn.ntmps - (lb.length + 1)), l := .v (.func (.yield l) #[] #[]) :: lb.map .v, r := [], G := noG, nx := 0 } (false, [])) : th P gf caps xs encv :=
 fun E _ lb hrs hfr => udb hrs hfr hf hb hr hone fun W l J Jx h1 _ ok => h E W lb l J Jx h1 ok
end Go.AB
namespace Go.AB
open Go Go.RowKit
variable {ρ : Option Nat}

def ml : List (Nat × Option Nat) → Array Bool → Array Bool
  | [], l => l
  | p :: r, l => ml r (l.setIfInBounds p.1 true)
def ne (ops : Array Oper) (late N : Nat → Bool) : List (Nat × Option Nat) → Array Bool → Bool
  | [], _ => true
  | (_, some _) :: _, _ => false
  | (i, none) :: rest, listed =>
    ((Region.ready .any ops listed).contains i && Region.free .any ops listed i && (ops[i]?).isSome &&
       (N i || ((List.range ops.size).all fun j => !late j || j == i || la .any ops ops.size j i))) &&
    ne ops late N rest (listed.setIfInBounds i true)

section
variable {P : Program} {ops : Array Oper} {Q : Exit → Act → World → Prop} {S : World → Prop} {late N : Nat → Bool}
theorem tm (fin : Act → World → Prop) (fuel : Nat) (hs : Region.noSelect ops = true) (hQ : ∀ (o : Option Tmp) (v : Value) c a w, Q (.panic c) (a.put o v) w → Q (.panic c) a w) :
    ∀ (π : List (Nat × Option Nat)) (listed : Array Bool) (a : Act) (w : World), Closed .any ops listed → ne ops late N π listed = true → S w →
      (∀ a, fin a w → ig P .any ops Q S late fuel (ml π listed) a w) → eu P ops (iv fin) S late (fun _ => false) N π a w → ig P .any ops Q S late (f7 π + fuel) listed a w := by
  intro π
  induction π with
  | nil =>
    intro listed a w _ _ _ hf h
    have := hf a h
    simpa [f7, ml] using this
  | cons p rest ih =>
    obtain ⟨i, m⟩ := p
    intro listed a w hcl hc hSw hf h
    cases m with
    | some j => simp [ne] at hc
    | none =>
      simp only [ne, Bool.and_eq_true] at hc
      obtain ⟨⟨⟨⟨hready, hfree⟩, hsome⟩, hlate⟩, hc2⟩ := hc
      simp only [eu, Bool.false_eq_true, if_false] at h
      cases ho : ops[i]? with
      | none => rw [ho] at hsome; cases hsome
      | some o =>
        rw [ho] at h
        obtain ⟨v, hy, hrest⟩ := h
        have hi : i ∈ Region.ready .any ops listed := by simpa using hready
        have hrec := ih _ _ _ (hcl.set hi) hc2 hSw hf hrest
        have hp : f7 ((i, none) :: rest) + fuel = f7 rest + fuel + 1 := by simp only [f7]; omega
        rw [hp]
        by_cases hN : N i = true
        · rw [if_pos hN] at hy
          exact o7 (depth := ops.size) (fun _ => True) ho (Region.noSelect_spec hs) (fun c a w => hQ o.dst v c a w) (.inl fun _ => trivial) (f7 rest + fuel) listed a w hcl (Region.free_spec ho hfree) hi hy trivial hrec
        · rw [if_neg hN] at hy
          refine o7 (depth := ops.size) S ho (Region.noSelect_spec hs) (fun c a w => hQ o.dst v c a w) (.inr ⟨rfl, ?_⟩) (f7 rest + fuel) listed a w hcl (Region.free_spec ho hfree) hi hy hSw hrec
          intro j oj hoj hlj hne
          have hlate' := (Bool.or_eq_true _ _ ▸ hlate).resolve_left hN
          rw [List.all_eq_true] at hlate'
          have := hlate' j (List.mem_range.2 (Array.getElem?_eq_some_iff.1 hoj).1)
          simp only [Bool.or_eq_true, Bool.not_eq_true', beq_iff_eq] at this
          rcases this with (h1 | h1) | h1
          · rw [hlj] at h1; cases h1
          · exact absurd h1 hne
          · exact h1
end

section
variable (P : Program) (ol : List Oper) (K : St → Prop) (late : Nat → Bool)
/-- What is left, in whatever order. -/
def jc (fuel : Nat) (listed : List Bool) (st : St) : Prop :=
  ∀ (E0 : Env) (w0 : World) (Q : Act → World → Prop), (∀ a' w' st' E', Ev E0 w0 E' w' → Sim E' w' st' a' → K st' → Q a' w') →
    ∀ E1 w1 a, Ev E0 w0 E1 w1 → Sim E1 w1 st a → ig P .any ol.toArray (iv Q) (Keeps E0 (· ∈ ([] : List Nat)) w0) late fuel listed.toArray a w1
/-- One operation, then the rest. -/
def jm (fuel : Nat) (listed : List Bool) (i : Nat) (st : St) : Prop :=
  ∃ o, ol[i]? = some o ∧ ((eg ol.toArray st o = some true ∧ EStep P o st (jc P ol K late fuel (listed.set i true))) ∨ (eg ol.toArray st o = some false ∧ jc P ol K late fuel (listed.set i true) (st.put o.dst (.tup []))))
def o5 (fuel : Nat) (listed : List Bool) (st : St) : List Nat → Prop
  | [] => True
  | i :: is => jm P ol K late fuel listed i st ∧ o5 fuel listed st is
end
section
variable {P : Program} {ol : List Oper} {K : St → Prop} {late : Nat → Bool} {fuel : Nat} {listed : List Bool} {st : St} {i : Nat} {is : List Nat} {o : Oper} {c : C}
theorem d8 : o5 P ol K late fuel listed st [] := trivial
theorem dz (h : jm P ol K late fuel listed i st) (k : o5 P ol K late fuel listed st is) : o5 P ol K late fuel listed st (i :: is) := ⟨h, k⟩
theorem dr (hol : ol[i]? = some o) (hg : eg ol.toArray st o = some true) {listed' : List Bool} (hl : listed.set i true = listed') (h : EStep P o st (jc P ol K late fuel listed')) : jm P ol K late fuel listed i st :=
  ⟨o, hol, .inl ⟨hg, by rw [hl]; exact h⟩⟩
theorem ue7 (hol : ol[i]? = some o) (hg : eg ol.toArray st o = some true) {listed' : List Bool} (hl : listed.set i true = listed') (hq : SStep P (fun _ => True) o st c) (h : jc P ol K late fuel listed' (st.put o.dst c)) : jm P ol K late fuel listed i st :=
  dr hol hg hl (hq.e.mono fun _ e => e ▸ h)
theorem nf (hol : ol[i]? = some o) (hg : eg ol.toArray st o = some true) {listed' : List Bool} (hl : listed.set i true = listed') (hq : NStep P o st c) (h : jc P ol K late fuel listed' (st.put o.dst c)) : jm P ol K late fuel listed i st :=
  ue7 hol hg hl hq.s h
theorem mp (hol : ol[i]? = some o) (hg : eg ol.toArray st o = some false) {listed' : List Bool} (hl : listed.set i true = listed') (h : jc P ol K late fuel listed' (st.put o.dst (.tup []))) : jm P ol K late fuel listed i st :=
  ⟨o, hol, .inr ⟨hg, by rw [hl]; exact h⟩⟩
theorem gw (hr : (Region.ready .any ol.toArray listed.toArray == []) = true) (h : K st) : jc P ol K late fuel listed st := by
  intro E0 w0 Q hQ E1 w1 a hev hs
  have hr' : Region.ready .any ol.toArray listed.toArray = [] := by simpa using hr
  have hq := hQ a w1 st E1 hev hs h
  cases fuel with
  | zero => exact ⟨hr', hq⟩
  | succ n => exact ⟨fun _ => hq, fun i hi => by rw [hr'] at hi; cases hi⟩
theorem dj (is : List Nat) (hr : (Region.ready .any ol.toArray listed.toArray == is) = true) (hne : is ≠ []) (h : o5 P ol K late fuel listed st is) : jc P ol K late (fuel + 1) listed st := by
  intro E0 w0 Q hQ E1 w1 a hev hs
  have hr' : Region.ready .any ol.toArray listed.toArray = is := by simpa using hr
  refine ⟨fun e => absurd (hr'.symm.trans e) hne, fun i hi => ?_⟩
  rw [hr'] at hi
  have hi' : jm P ol K late fuel listed i st := by
    clear hr hr' hne
    induction is with
    | nil => cases hi
    | cons j is ih =>
      rcases List.mem_cons.1 hi with rfl | hi
      · exact h.1
      · exact ih h.2 hi
  obtain ⟨o, hol, hcase⟩ := hi'
  have ho : ol.toArray[i]? = some o := by simpa using hol
  have hset : listed.toArray.setIfInBounds i true = (listed.set i true).toArray := by simp
  refine wpOp_step ho fun Kr hK => ?_
  rcases hcase with ⟨hg, h1⟩ | ⟨hg, h1⟩
  · rw [if_pos (i7 hg hs)]
    refine h1 E1 w1 a hs Kr _ fun a' w' st' E' q1 q2 q3 => ?_
    refine hK a' w' ⟨.inr fun hS => ⟨fun b j hj => (q1.cell b j (Nat.lt_of_lt_of_le hj (hev.L b))).trans (hS.1 b j hj), fun n hn => by cases hn⟩, ?_⟩
    rw [hset]
    exact q3 E0 w0 Q hQ E' w' a' (hev.trans q1) q2
  · rw [if_neg (by rw [i7 hg hs]; simp)]
    refine hK _ _ ⟨.inr id, ?_⟩
    rw [hset]
    exact h1 E0 w0 Q hQ E1 w1 _ hev (hs.put o.dst (R.undef E1 w1))
/-- A state read as another one. -/
def Tr (st st' : St) : Prop := ∀ E w a, Sim E w st a → ∃ E', Ev E w E' w ∧ Sim E' w st' a
theorem zc {st' : St} (h : Tr st st') (k : jc P ol K late fuel listed st') : jc P ol K late fuel listed st := by
  intro E0 w0 Q hQ E1 w1 a hev hs
  obtain ⟨E', q1, q2⟩ := h E1 w1 a hs
  exact k E0 w0 Q hQ E' w1 a (hev.trans q1) q2
theorem t6 {i n wv : Nat} {cs : List C} (h0 : st.at i = .box n 0 0) (hG : st.G n = some (.box wv cs)) (hne : cs ≠ []) : Tr st { st with r := (i, .elem cs) :: st.r, G := j5 st.G n } := by
  intro E w a hs
  obtain ⟨E', b, hE, hg', hTT, hT, hone, us, h1, h2⟩ := uei hs hG
  have hp := hs.at i
  rw [h0] at hp
  have hl : R E' w (.elem cs) (a.tmps.getD i undef) := by
    generalize hv : a.tmps.getD i undef = v at hp
    cases hp with
    | @box _ _ _ b' q1 q2 =>
      have hb : b' = b := by
        have := (q2 _ _ _ hT).2 rfl
        simp only [blk, Option.some.injEq] at this
        exact this.symm
      subst hb
      exact .elem hne hone (.inr ⟨b', 0, rfl, h1⟩) h2
  have hs2 := hs.evd hE hg'
  refine ⟨E', hE, ⟨hs2.d, hs.sz, fun j v hj => ?_, hg'⟩⟩
  simp only [cq]
  cases hb : Nat.beq i j
  · exact hs2.t j v hj
  · have hij := Nat.eq_of_beq_eq_true hb
    subst hij
    have hv : a.tmps.getD i undef = v := by rw [Array.getD_eq_getD_getElem?, hj]; rfl
    exact hv ▸ hl

theorem kx {id : Nat} {l : List Oper} {Q : Exit → St → Prop} (π : List (Nat × Option Nat)) (late N : Nat → Bool) (fuel : Nat) (listed : List Bool) (hm : P.follows .mixedOrders = true)
    (hchk : (n8 l && (Region.noSelect l.toArray && (ne l.toArray late N π (Array.replicate l.toArray.size false) && ((ml π (Array.replicate l.toArray.size false)).toList == listed && f7 π + fuel == l.toArray.size)))) = true)
    (h : iw P l.toArray (jc P l (Q .normal) late fuel listed) [] late (fun _ => false) N π st) : AW ρ P (.region id l.toArray true) Q st := by
  intro E w a hs
  simp only [Bool.and_eq_true, beq_iff_eq] at hchk
  obtain ⟨h0, h1, h2, h3, h4⟩ := hchk
  have hev : Ev E w E w.drew := Ev.same ((Below.refl _ _).drew) rfl
  have hend : ml π (Array.replicate l.toArray.size false) = listed.toArray := by rw [← h3]
  have key : ig P .any l.toArray (iv fun a' w' => kq E w Q .normal a' w') (Keeps E (· ∈ ([] : List Nat)) w.drew) late (f7 π + fuel) (Array.replicate l.toArray.size false) a w.drew := by
    refine tm (fun a' w' => ig P .any l.toArray (iv fun a' w' => kq E w Q .normal a' w') (Keeps E (· ∈ ([] : List Nat)) w.drew) late fuel listed.toArray a' w') fuel h1 (fun _ _ _ _ _ h => h) π _ a w.drew ?_ h2 (Keeps.refl _ _ _) (fun a' h' => by rw [hend]; exact h') ?_
    · intro j o _ hj
      rw [Array.getD_eq_getD_getElem?, Array.getElem?_replicate] at hj
      split at hj <;> simp at hj
    · exact h E w.drew _ (fun a' w' st' E' q1 q2 q3 => q3 E w.drew _ (fun a2 w2 st2 E2 r1 r2 r3 => ⟨st2, E2, hev.trans r1, r2, r3⟩) E' w' a' q1 q2) a hs.drew
  rw [h4] at key
  refine gd (Q := iv fun a' w' => kq E w Q .normal a' w') ?_ (ya hm h0 (ra _ _ _ _ key))
  intro e a' w' hq
  cases e with
  | normal => exact hq
  | _ => exact hq.elim
end
/-! ### Quiet operations between what acts -/
def ye (ops : Array Oper) (listed : Array Bool) : Bool :=
  (List.range ops.size).all fun j => !listed.getD j false || match ops[j]? with
    | some o => o.after.toList.all fun e => !Region.binds .any e || listed.getD e.on false
    | none => true
theorem uel {ops : Array Oper} {listed : Array Bool} (h : ye ops listed = true) : Closed .any ops listed := by
  intro j o ho hj e he hb
  have hlt := (Array.getElem?_eq_some_iff.1 ho).1
  have := List.all_eq_true.1 h j (List.mem_range.2 hlt)
  simp only [hj, Bool.not_true, Bool.false_or, ho, List.all_eq_true] at this
  have := this e (by simpa using he)
  simpa [hb] using this
section
variable {P : Program} {ops : Array Oper} {Q : Exit → Act → World → Prop}
theorem tr {S S2 : World → Prop} (hS : ∀ w, S2 w → S w) : ∀ (fuel : Nat) (listed : Array Bool) (a : Act) (w : World), S2 w → ig P .any ops Q S2 (fun _ => false) fuel listed a w → ig P .any ops Q S (fun _ => false) fuel listed a w
  | 0, _, _, _, _, h => h
  | fuel + 1, listed, a, w, hw, h => by
    refine ⟨h.1, fun i hi => wpOp_mono (fun a' w' h' => ?_) (h.2 i hi)⟩
    have h2 := (h'.1.resolve_left (by simp)) hw
    exact ⟨.inr fun _ => hS _ h2, tr hS fuel _ a' w' h2 h'.2⟩
end
theorem fm {P : Program} {ol : List Oper} {K : St → Prop} {total : Nat} {listed : List Bool} {st : St} (π : List (Nat × Option Nat)) (N : Nat → Bool) (fuel : Nat) (listed' : List Bool)
    (hchk : (ye ol.toArray listed.toArray && (Region.noSelect ol.toArray && (ne ol.toArray (fun _ => false) N π listed.toArray && ((ml π listed.toArray).toList == listed' && total == f7 π + fuel)))) = true)
    (h : iw P ol.toArray (jc P ol K (fun _ => false) fuel listed') [] (fun _ => false) (fun _ => false) N π st) : jc P ol K (fun _ => false) total listed st := by
  simp only [Bool.and_eq_true, beq_iff_eq] at hchk
  obtain ⟨h0, h1, h2, h3, h4⟩ := hchk
  subst h4
  intro E0 w0 Q hQ E1 w1 a hev hs
  have hend : ml π listed.toArray = listed'.toArray := by rw [← h3]
  refine tr (S2 := Keeps E1 (· ∈ ([] : List Nat)) w1) (fun w' hk => ⟨fun b i hi => (hk.1 b i (Nat.lt_of_lt_of_le hi (hev.L b))).trans (hev.cell b i hi), fun n hn => by cases hn⟩) _ _ _ _ (Keeps.refl _ _ _) ?_
  refine tm (fun a' w' => ig P .any ol.toArray (iv Q) (Keeps E1 (· ∈ ([] : List Nat)) w1) (fun _ => false) fuel listed'.toArray a' w') fuel h1 (fun _ _ _ _ _ h => h) π _ a w1 (uel h0) h2 (Keeps.refl _ _ _) (fun a' h' => by rw [hend]; exact h') ?_
  exact h E1 w1 _ (fun a' w' st' E' q1 q2 q3 => q3 E1 w1 Q (fun a2 w2 st2 E2 r1 r2 r3 => hQ a2 w2 st2 E2 (hev.trans r1) r2 r3) E' w' a' q1 q2) a hs
end Go.AB
namespace Go.AB
open Go Go.RowKit
open Go.AB.Enc (cells)
variable {ρ : Option Nat}
theorem C.low.mono {m k : Nat} {c : C} (h : c.low m) (hk : m ≤ k) : c.low k := by
 induction h with
 | v => exact .v
 | list _ h2 ih => exact .list ih fun n hn => Nat.lt_of_lt_of_le (h2 n hn) hk
 | elem _ ih => exact .elem ih
 | box h => exact .box (Nat.lt_of_lt_of_le h hk)
 | arr h => exact .arr (Nat.lt_of_lt_of_le h hk)
 | own h => exact .own (Nat.lt_of_lt_of_le h hk)
 | fn _ ih => exact .fn ih
 | map h => exact .map (Nat.lt_of_lt_of_le h hk)
 | agg _ ih => exact .agg ih
 | tup _ ih => exact .tup ih
 | any => exact .any
theorem GObj.low_mono {m k : Nat} {o : GObj} (h : o.low m) (hk : m ≤ k) : o.low k := by
 cases o with
 | box => exact fun c hc => (h c hc).mono hk
 | arr => exact fun c hc => (h c hc).mono hk
 | tip => trivial
 | fact => exact C.low.mono h hk
 | raw => trivial
 | map => exact fun x c hx => (h x c hx).mono hk
theorem SimG.lowG {E : Env} {w : World} {G : Nat → Option GObj} {nx : Nat} (hg : SimG E w G nx) {n : Nat} {o : GObj} (ho : G n = some o) : n < nx ∧ o.low nx := by
 have hnx := hg.nx
 have hlt : ∀ t, E.T n = some t → n < nx := fun t ht => by have := hg.lt n t ht; omega
 have := hg.obj n o ho
 cases o with
 | box => obtain ⟨b, us, tt, h1, _, _, h4, _⟩ := this; exact ⟨hlt _ h1, hnx ▸ h4.low⟩
 | arr => obtain ⟨b, us, h1, _, _, h4, _⟩ := this; exact ⟨hlt _ h1, hnx ▸ h4.low⟩
 | tip => obtain ⟨b, us, h1, _⟩ := this; exact ⟨hlt _ h1, trivial⟩
 | fact => exact ⟨hlt _ this.1, hnx ▸ this.2.low⟩
 | raw => obtain ⟨b, h1, _⟩ := this; exact ⟨hlt _ h1, trivial⟩
 | map wv ok f =>
  obtain ⟨r, es, cl, h1, _, h3, _⟩ := this
  refine ⟨hlt _ h1, fun x c hx => ?_⟩
  obtain ⟨e, he, rfl⟩ := h3.has x c hx
  obtain ⟨c', h4, h5⟩ := h3.val e he
  rw [hx] at h4; cases h4
  exact hnx ▸ h5.low

/-- A contract whose result has new named objects, out of the body's walk. -/
theorem je {P : Program} {f : FuncId} {fn : Func} {c : Code} {args : List C} {r : C} {G : Nat → Option GObj} {nx : Nat} (g : Nat → Option GObj) (m : Nat) (hf : P.funcs[f]? = some fn) (hb : fn.body = some c) (hl : r.low m) (hm : nx ≤ m) (hg : (∀ n o, G n = some o → n < nx) → ∀ n o, g n = some o → G n = some o ∨ (n < m ∧ o.low m))
  (h : AW none P c (l5 P fn r g m) { n := args.length + (fn.ntmps - args.length), l := args, r := [], G := G, nx := nx }) : PC P f args G nx fun r' G' nx' => r' = r ∧ G' = g ∧ nx' = m := by
 intro E w vs hr hg0
 have key := r7 (K := fun r' G' nx' => r' = r ∧ m ≤ nx' ∧ ∀ n o, g n = some o → G' n = some o) hf hb (AW.mono h fun e st hq => by
  cases e with
  | normal => exact ⟨r, hq.1, rfl, hq.2.1, hq.2.2⟩
  | ret => exact ⟨r, hq.1, rfl, hq.2.1, hq.2.2⟩
  | _ => exact hq)
 refine (key E w vs hr hg0).mono ?_
 rintro e w' ⟨r', v, E', G', nx', e1, e2, e3, e4, rfl, e5, e6⟩
 have hnx := hg0.nx
 refine ⟨r', v, E'.drop m, g, m, e1, e2.drop (by omega), e3.drop hl, ?_, rfl, rfl, rfl⟩
 refine (e4.weak e6).drop fun n o ho => ?_
 rcases hg (fun n o ho => (hg0.lowG ho).1) n o ho with h1 | h1
 ·have := hg0.lowG h1
  exact ⟨by omega, GObj.low_mono this.2 hm⟩
 ·exact h1
/-! ### Reading what is owned -/
/-- So many cells lie in a block. -/
def ki (w : World) (b : Nat) : Nat := match w.heap[b]? with
 | some (.cells us _ _) => us.size
 | _ => 0
theorem qs {w : World} {b j : Nat} {u : Value} (h : w.cell? ⟨b, j, none⟩ = some u) : j < ki w b := by
 unfold World.cell? at h
 unfold ki
 dsimp only at h ⊢
 split at h
 ·rename_i c tt fz e
  rw [e]
  simp only [Option.isSome_none, Bool.false_eq_true, if_false] at h
  exact (Array.getElem?_eq_some_iff.1 h).1
 ·cases h
/-- All that lies in a world is laid. -/
def fk (w : World) : Env := ⟨w.heap.size, fun b => ki w b, fun _ => none, 0, 0⟩
theorem y7 (w : World) : SimG (fk w) w noG 0 := by
 refine ⟨rfl, fun n o ho => (by cases ho), fun n t ht => (by cases ht), fun n ver wv val b ht => (by cases ht), fun n m t t' b ht => (by cases ht), fun b hb => ?_, Nat.le_refl _⟩
 show ki w b = 0
 unfold ki
 rw [Array.getElem?_eq_none hb]
/-- A value is read as if its own slices were laid. -/
inductive Rdg (G : Nat → Option GObj) : C → C → Prop
 | low {c : C} : c.low 0 → Rdg G c c
 | own {α : Type} [Enc α] {n ver wv len sz : Nat} {tt : TypeId} {cs : List C} (xs : List α) : G n = some (.arr ver wv tt sz len cs) → sz = Enc.n α → cs = cy xs → len = xs.length → Rdg G (.own n ver len) (lst xs)
 | agg {cs ds : List C} : cs.length = ds.length → (∀ (j : Nat) (c d : C), cs[j]? = some c → ds[j]? = some d → Rdg G c d) → (∀ d ∈ ds, d.one = true) → Rdg G (.agg cs) (.agg ds)
theorem Rdg.to {E : Env} {w : World} {G : Nat → Option GObj} {nx : Nat} (hg : SimG E w G nx) {c d : C} (h : Rdg G c d) : ∀ {v : Value}, R E w c v → R (fk w) w d v := by
 have h0 : ∀ {c : C} {v : Value}, R E w c v → c.low 0 → R (fk w) w c v := fun hr hl => hr.to0 hl fun b i u hu => qs hu
 induction h with
 | low hl => exact fun hr => h0 hr hl
 | @own α _ n ver wv len sz tt cs xs hG hsz hcs hlen =>
  intro v hr
  subst hsz; subst hcs; subst hlen
  obtain ⟨val, us, hT, how, hone, hrs, _, hpos⟩ := hg.obj n _ hG
  obtain ⟨rfl, _, a, cap, rfl, hc1, hc2⟩ := n5 hr hT how
  have hr0 : Rs (fk w) w (cy xs) us := ⟨hrs.1, fun j c v hc hv => h0 (hrs.2 j c v hc hv) (ey xs c (List.mem_of_getElem? hc))⟩
  have := R.mk_list (E := fk w) (w := w) (rows := xs.map cells) (a := a) (cap := cap) (sz := Enc.n α) (us := us) (tok := .none) (by simpa using hc1) hc2 hpos (i5 xs) (fun r hr c hc => by
   obtain ⟨x, _, rfl⟩ := List.mem_map.1 hr
   exact Enc.one x c hc) hr0 (by
   rcases how.2 with ⟨e, h1⟩ | ⟨g, cap', cur, e, _, hh, h1, h2, h3, h4⟩
   ·exact .inl (by rw [List.length_eq_zero_iff] at h1; rw [h1]; rfl)
   ·cases e
    refine .inr ⟨g, 0, rfl, ?_, fun j u hu => ?_⟩
    ·show 0 + us.length ≤ ki w g
     unfold ki
     rw [hh]
     have := how.1
     have hle : xs.length * Enc.n α ≤ cap * Enc.n α := Nat.mul_le_mul_right _ h1
     simp only
     omega
    ·rw [Nat.zero_add, lf how rfl (by rw [← how.1]; exact (List.getElem?_eq_some_iff.1 hu).1)]
     exact hu) (by simp) (by simp) (by simp)
  rw [List.length_map] at this
  exact this
 | @agg cs ds hl hd hone ih =>
  intro v hr
  obtain ⟨vs, rfl, hrs, h1⟩ := hr.agg_inv
  refine Rs.agg ⟨by rw [hrs.1, hl], fun j d v hd' hv => ?_⟩ hone
  have hlt := (List.getElem?_eq_some_iff.1 hd').1
  obtain ⟨c, hc⟩ : ∃ c, cs[j]? = some c := ⟨_, List.getElem?_eq_getElem (by rw [hl]; exact hlt)⟩
  exact ih j c d hc hd' (hrs.2 j c v hc hv)
/-- What only exact values are in. -/
def Flat (r : C) : Prop := ∀ (E E' : Env) (w w' : World) (v : Value), R E w r v → R E' w' r v
theorem udn (x : Value) : Flat (.v x) := fun _ _ _ _ _ h => by cases h with | v h => exact .v h
/-! ### Own slices are laid for good -/
theorem ubg {E : Env} {w : World} {G : Nat → Option GObj} {nx : Nat} (hg : SimG E w G nx) {α : Type} [Enc α] {n ver wv len sz : Nat} {tt : TypeId} {cs : List C} (xs : List α) (hG : G n = some (.arr ver wv tt sz len cs)) (hsz : sz = Enc.n α) (hcs : cs = cy xs) (hlen : len = xs.length) :
  ∃ E', Ev E w E' w ∧ SimG E' w (j5 G n) nx ∧ ∀ v, R E w (.own n ver len) v → R E' w (lst xs) v := by
 subst hsz; subst hcs; subst hlen
 obtain ⟨val, us, hT, how, hone, hrs, hL, hpos⟩ := hg.obj n _ hG
 have hE : Ev E w { E with L := fun k => if blk val = some k then us.length else E.L k } w := by
  refine ⟨Below.refl _ _, rfl, fun k => ?_, fun _ _ _ => rfl, Nat.le_refl _, fun n _ ver wv val h => ⟨ver, wv, val, h, Nat.le_refl _, fun _ => ⟨rfl, fun _ _ _ => rfl⟩⟩, fun n ver wv wv' v h h' _ => by rw [show ({ E with L := fun k => if blk val = some k then us.length else E.L k } : Env).T = E.T from rfl, h] at h'; simp at h'; omega, ?_⟩
  ·show E.L k ≤ if blk val = some k then us.length else E.L k
   split
   ·rename_i e; rw [hL k e]; exact Nat.zero_le _
   ·exact Nat.le_refl _
  ·refine ⟨rfl, fun k hk => ?_, fun _ _ h _ => h, fun _ o h => ⟨o, h, rfl⟩, fun _ t _ _ h k _ => ⟨t, h, k⟩, fun n t t' _ _ h1 h2 hv _ => by rw [show ({ E with L := fun k => if blk val = some k then us.length else E.L k } : Env).T = E.T from rfl, h1] at h2; cases h2; omega⟩
   have hk' : E.L k < if blk val = some k then us.length else E.L k := hk
   split at hk'
   ·rename_i e
    have h0 : 0 < us.length := by omega
    exact ⟨us[0], by rw [lf how e (by rw [← how.1]; exact h0), List.getElem?_eq_getElem h0]⟩
   ·omega
 refine ⟨_, hE, ⟨hg.nx, fun k o ho => ?_, hg.lt, hg.tb, hg.ap, fun k hk => ?_, hg.base⟩, fun v hr => ?_⟩
 ·have hkn : k ≠ n := fun e => by subst e; simp [j5] at ho
  rw [jt hkn] at ho
  refine (hg.obj k o ho).keep hE rfl fun ver wv v' b' h1 h2 => ⟨rfl, ?_⟩
  show (if blk val = some b' then us.length else E.L b') = E.L b'
  rw [if_neg (fun e => hg.ap k n _ _ b' h1 hT hkn h2 e)]
 ·show (if blk val = some k then us.length else E.L k) = 0
  rw [if_neg (fun e => by have := (hg.tb n _ _ _ k hT e).2; omega)]
  exact hg.fresh k hk
 ·obtain ⟨rfl, _, a, cap, rfl, hc1, hc2⟩ := n5 hr hT how
  have := R.mk_list (E := { E with L := fun k => if blk (.slice a xs.length cap) = some k then us.length else E.L k }) (w := w) (rows := xs.map cells) (a := a) (cap := cap) (sz := Enc.n α) (us := us) (tok := .none) (by simpa using hc1) hc2 hpos (i5 xs) (fun r hr c hc => by
   obtain ⟨x, _, rfl⟩ := List.mem_map.1 hr
   exact Enc.one x c hc) (hrs.ev hE) (by
   rcases how.2 with ⟨e, h1⟩ | ⟨g, cap', cur, e, _, hh, h1, h2, h3, h4⟩
   ·exact .inl (by rw [List.length_eq_zero_iff] at h1; rw [h1]; rfl)
   ·cases e
    refine .inr ⟨g, 0, rfl, ?_, fun j u hu => ?_⟩
    ·show 0 + us.length ≤ if some g = some g then us.length else E.L g
     rw [if_pos rfl]; omega
    ·rw [Nat.zero_add, lf how rfl (by rw [← how.1]; exact (List.getElem?_eq_some_iff.1 hu).1)]
     exact hu) (by simp) (by simp) (by simp)
  rw [List.length_map] at this
  exact this
/-- The length of a slice that is known as it is. -/
theorem ca {P : Program} {o : Oper} {st : St} {t : TypeId} {x : Operand} {a : Option Addr} {n cap : Nat} {e : TypeId} [Elt P t e] (ho : o.op = .call { callee := .builtin .len, args := #[x], argTypes := #[t] }) (hx : evC st x = .v (.slice a n cap)) (hn : n ≤ 9223372036854775807) : NStep P o st (.v (.int .i64 (n : Int))) := fun E w ac hs => by
 have e1 := (hx ▸ hs.ev x).v_inv
 generalize hv : ac.eval x = v at e1
 subst e1
 refine ⟨_, .v (jf ⟨by omega, by omega⟩), fun w' => ?_⟩
 have q1 := Elt.spec (P := P) (t := t) (e := e)
 simp [execOp, ho, hv, resolve, invoke, builtin, Builtin.len_, run_underlying q1, goInt]
section
variable {P : Program} {st : St}
end
end Go.AB
namespace Go.AB
open Go Go.RowKit
open Go.AB.Enc (cells)
variable {ρ : Option Nat}
def u8s (s : ByteArray) : List U8 := s.data.toList.map fun b => ⟨(b.toNat : Int)⟩
theorem np (s : ByteArray) : (u8s s).length = s.size := by simp [u8s]
section
variable {P : Program} {o : Oper} {st : St} {K : St → Prop}
theorem ud2 {src dst e : TypeId} [StrT P src] [Elt P dst e] {x : Operand} {s : ByteArray} (he : P.underlying e = some (.int .u8)) (ho : o.op = .convert src dst x) (hx : evC st x = .v (.string s)) (h : K (st.put o.dst (lst (u8s s)))) : EStep P o st K := kh fun E w a hs => by
 have hr := hx ▸ hs.ev x
 have e1 := hr.v_inv
 rw [e1] at hr
 have hsz : s.size ≤ 9223372036854775807 := by
  cases hr with | v h => exact okV_str.1 h
 have hrun := run_bytes_of_string (P := P) w src dst e s StrT.spec Elt.spec he
 have hcap : s.size ≤ grownCap w s.size 0 e := grownCap_ge w _ _ _
 have hcm : grownCap w s.size 0 e ≤ maxLen := grownCap_le_maxLen w _ _ _ (by simpa [maxLen] using hsz)
 generalize hc : grownCap w s.size 0 e = cap at hrun hcap hcm
 obtain ⟨ob, hob⟩ : ∃ ob, ob = Obj.cells (bytesRow s cap) e ((bytesRow s cap).size, (bytesRow s cap).size + 1) := ⟨_, rfl⟩
 rw [← hob] at hrun
 have hcell : ∀ j, (w.drew.alloc ob).cell? ⟨w.heap.size, j, none⟩ = (bytesRow s cap)[j]? := fun j => by
  rw [hob]
  exact World.cell?_alloc_mark w.drew (bytesRow s cap) e _ j
 have hrow : ∀ (j : Nat) (x : U8), (u8s s)[j]? = some x → (bytesRow s cap)[j]? = some (.int .u8 x.v) ∧ okV (.int .u8 x.v) = true := fun j x hj => by
  have hl := (List.getElem?_eq_some_iff.1 hj).1
  rw [np] at hl
  unfold u8s at hj
  rw [List.getElem?_map, Array.getElem?_toList, Array.getElem?_eq_getElem hl] at hj
  simp only [Option.map_some, Option.some.injEq] at hj
  subst hj
  refine ⟨?_, sa ⟨by simp, by have := (s.data[j] : UInt8).toNat_lt; simp only; omega⟩⟩
  unfold bytesRow
  rw [Array.getElem?_append_left (by simpa using hl), Array.getElem?_map, Array.getElem?_eq_getElem hl]
  rfl
 have hx0 : s.size = 0 ∨ ∃ v, (w.drew.alloc ob).cell? ⟨w.heap.size, 0, none⟩ = some v := by
  rcases Nat.eq_zero_or_pos s.size with h | h
  ·exact .inl h
  ·obtain ⟨x, hx⟩ : ∃ x, (u8s s)[0]? = some x := ⟨_, List.getElem?_eq_getElem (by rw [np]; exact h)⟩
   exact .inr ⟨_, (hcell 0).trans (hrow 0 x hx).1⟩
 have hev := Ev.laid hs.g (o := ob) s.size (.inr rfl) hx0
 refine ⟨.slice (some ⟨w.heap.size, 0, none⟩) s.size cap, w.drew.alloc ob, _, st.G, st.nx, lst (u8s s), ?_, hev, ?_, SimG.laid hs.g _ (.inr rfl) hx0, h⟩
 ·simp [execOp, ho, e1, hrun]
 ·have := R.mk_list (E := E.lay w.heap.size s.size) (w := w.drew.alloc ob) (rows := (u8s s).map cells) (a := some ⟨w.heap.size, 0, none⟩) (cap := cap) (sz := 1) (us := (u8s s).map fun x => .int .u8 x.v) (tok := .none) (by rw [List.length_map, np]; exact hcap) hcm (Nat.le_refl _) (fun r hr => by
   obtain ⟨x, _, rfl⟩ := List.mem_map.1 hr; rfl) (fun r hr c hc => by
   obtain ⟨x, _, rfl⟩ := List.mem_map.1 hr
   exact Enc.one x c hc) ⟨by
    have : ∀ l : List U8, ((l.map cells).flatten).length = l.length := fun l => by rw [i0 (i5 l)]; simp [Enc.n]
    rw [this]; simp, fun j c v hc hv => by
    rw [List.getElem?_map] at hv
    cases hj : (u8s s)[j]? with
    | none => rw [hj] at hv; cases hv
    | some x =>
     rw [hj] at hv
     simp only [Option.map_some, Option.some.injEq] at hv
     subst hv
     have h1 := oq (rows := (u8s s).map cells) (s := 1) (k := j) (j := 0) (c := .v (.int .u8 x.v)) (i5 (u8s s)) (bm hj) rfl
     rw [Nat.mul_one, Nat.add_zero] at h1
     rw [h1] at hc
     cases hc
     exact .v (hrow j x hj).2⟩ (.inr ⟨w.heap.size, 0, rfl, by
    simp only [Env.lay, if_true, List.length_map, np]; omega, fun j u hu => by
    rw [List.getElem?_map] at hu
    cases hj : (u8s s)[j]? with
    | none => rw [hj] at hu; cases hu
    | some x =>
     rw [hj] at hu
     simp only [Option.map_some, Option.some.injEq] at hu
     subst hu
     rw [Nat.zero_add, hcell j]
     exact (hrow j x hj).1⟩) (by simp) (by simp) (by simp)
  rw [List.length_map, np] at this
  exact this
end
instance : KeyV Int where
 kv x := .int .i64 x
 kc x := .v (.int .i64 x)
 inv h := h.v_inv
 inj h := by simpa using h
 any h _ _ := by cases h with | v h => exact .v h
theorem qc {E : Env} {w : World} {x : Int} {v : Value} (h : R E w (.v (.int .i64 x)) v) : -9223372036854775808 ≤ x ∧ x ≤ 9223372036854775807 := by
 cases h with | v h => exact n7 h
theorem pz {x : Int} (h : -9223372036854775808 ≤ x ∧ x ≤ 9223372036854775807) : (Lit.int .i64 x).wf = true := by
 simp [Lit.wf, IntKind.min, IntKind.max, IntKind.signed, IntKind.bits]; omega
/-- What a map has for a key, or nothing. -/
theorem uah {P : Program} {o : Oper} {st : St} {α : Type} [KeyV α] {D : Nat → Prop} {t k e : TypeId} [MapT P t k e] [KeyT P k α] {x i : Operand} {n wv : Nat} {m : α → Option C} {c : C} {z : Value} [Zero P e z] (key : α) (ho : o.op = .lookup t x i false) (hx : evC st x = .map n) (hG : st.G n = some (ei P k wv m)) (hD : D n) (hi : evC st i = KeyV.kc key) (hm : (m key).getD (jl z) = c) : SStep P D o st c := by
 subst hm
 exact uf key ho hx hG hD hi rfl
theorem om {P : Program} {α : Type} [KeyV α] {k : TypeId} {wv n : Nat} {m : α → Option C} (h : ∀ x c, m x = some c → C.low n c) : (ei P k wv m).low n := by
 intro x c hx
 by_cases hex : ∃ y : α, x = KeyV.kv y
 ·obtain ⟨y, rfl⟩ := hex
  rw [gh] at hx
  exact h y c hx
 ·rw [m2 _ hex] at hx; cases hx
end Go.AB
namespace Go.AB
open Go Go.RowKit
open Go.AB.Enc (cells)
theorem zG {p : Prop} (h : p := by (try dsimp only); repeat (first | exact f5 _ _ _ | assumption | rw [dg (by omega)] | rw [jt (by omega)])) : p := h
theorem zN {p : Prop} (h : p := by first | exact Nat.le_refl _ | omega | (simp; try omega)) : p := h
theorem zS {p : Prop} (h : p := by intro n o h; first | exact h | (have := hlt n o h; (try dsimp only); repeat (first | exact h | rw [dg (by omega)] | rw [jt (by omega)]))) : p := h
theorem zX {p : Prop} (h : p := by (repeat' (refine mw (by (try dsimp only); repeat (first | exact f5 _ _ _ | assumption | rw [dg (by omega)] | rw [jt (by omega)])) ?_)); (intro n o h; first | exact h | (have := hlt n o h; (try dsimp only); repeat (first | exact h | rw [dg (by omega)] | rw [jt (by omega)])))) : p := h
theorem zL {p : Prop} (h : p := by (try dsimp only); repeat' (first | exact trivial | refine ⟨?_, ?_⟩ | exact .v | exact .any | refine .elem ?_ | exact ce _ _ | exact fh _ _ | exact e9 _ _ | exact fg _ (by (try dsimp only); omega) | exact .box (by (try dsimp only); omega) | exact fe | exact de | refine fb ?_ ?_ | exact .arr (by (try dsimp only); omega) | exact .own (by (try dsimp only); omega) | exact .map (by (try dsimp only); omega) | exact ey _ | refine cv ?_ ?_ | exact ce _ _)) : p := h
theorem zH {p : Prop} (h : p := by (repeat' (refine ji ?_ (by (try dsimp only); omega) ?_)); all_goals (first | exact jp (by intro n o h; first | exact h | (have := hlt n o h; (try dsimp only); repeat (first | exact h | rw [dg (by omega)] | rw [jt (by omega)]))) | (repeat' (first | exact trivial | refine ⟨?_, ?_⟩ | exact .v | exact .any | refine .elem ?_ | exact ce _ _ | exact fh _ _ | exact e9 _ _ | exact fg _ (by (try dsimp only); omega) | exact .box (by (try dsimp only); omega) | exact fe | exact de | refine fb ?_ ?_ | exact .arr (by (try dsimp only); omega) | exact .own (by (try dsimp only); omega) | exact .map (by (try dsimp only); omega) | exact ey _ | refine cv ?_ ?_ | exact ce _ _)))) : p := h
theorem zF {p : Prop} (h : p := by repeat' (first | exact trivial | refine ⟨?_, ?_⟩ | exact .inr rfl | exact .inl rfl | exact .inr (congrArg C.v (congrArg (Value.int _) (by simp; try omega))))) : p := h
theorem zB {p : Prop} (h : p := by first | exact .inl rfl | (refine .inr ?_; repeat' (first | exact trivial | refine ⟨?_, ?_⟩ | exact .inr rfl | exact .inl rfl | exact .inr (congrArg C.v (congrArg (Value.int _) (by simp; try omega)))))) : p := h
theorem zD {p : Prop} (h : p := by repeat (first | exact uaf | refine uag (by (try dsimp only [St.put]); exact (by (try dsimp only); repeat (first | exact f5 _ _ _ | assumption | rw [dg (by omega)] | rw [jt (by omega)]))) (by (try dsimp only [St.put]); exact (by (try dsimp only); repeat (first | exact f5 _ _ _ | assumption | rw [dg (by omega)] | rw [jt (by omega)]))) rfl ?_)) : p := h
theorem zA {p : Prop} (h : p := by first | omega | (simp only [List.length_take, List.length_cons, List.length_nil, List.length_append, List.length_map]; omega) | (simp; omega)) : p := h
theorem zO {p : Prop} (h : p := by first | (simp; done) | (simp; omega) | exact Nat.lt_of_lt_of_eq (by decide) (Enc.len _).symm) : p := h
theorem zE {p : Prop} (h : p := by first | rfl | simp) : p := h
theorem zC {p : Prop} (h : p := by first | exact List.cons_ne_nil _ _ | (simp; done) | (simp [putAt]; done)) : p := h
def rl : List Nat → List Bool
  | [] => []
  | [a] => List.replicate a true
  | a :: b :: r => List.replicate a true ++ (List.replicate b false ++ rl r)
theorem zQ {p q : Prop} (h : q) (e : p = q := by (simp only [ks, cq, Nat.reduceAdd, List.getD_cons_zero, List.getD_cons_succ, List.getD_nil, ubv, Nat.reduceBEq, cond_true, cond_false]) <;> rfl) : p := e ▸ h
theorem zR {p : Prop} (h : p := by first | (simp; done) | (intro r hr; simp only [List.mem_cons, List.not_mem_nil, or_false] at hr; first | (subst hr; rfl) | (rcases hr with hr | hr <;> (subst hr; rfl)) | (rcases hr with hr | hr | hr <;> (subst hr; rfl)) | (rcases hr with hr | hr | hr | hr <;> (subst hr; rfl)))) : p := h
theorem zW {p : Prop} (h : p := by repeat' (first | exact Wk.refl _ | exact Wk.tok | refine Wk.agg ?_ | refine ⟨?_, ?_⟩ | exact trivial)) : p := h
section
variable {ρ : Option Nat} {P : Program} {ops : Array Oper} {K : St → Prop} {rest : List Oper} {o : Oper} {st : St} {Q : Exit → St → Prop} {x : Operand} {c : C}
theorem yM (ho : o.op = .move x) (hg : eg ops st o = some true) (h : el ρ P ops K rest (st.put o.dst c)) (hx : Is (evC st x) c := by constructor) : el ρ P ops K (o :: rest) st := ae hg (ar ho hx) h
theorem yA (ho : o.op = .assign x) (hg : eg ops st o = some true) (h : el ρ P ops K rest (st.put o.dst c)) (hx : Is (evC st x) c := by constructor) : el ρ P ops K (o :: rest) st := ae hg (ax ho hx) h
theorem yL {t : TypeId} {cs : List C} [Ty P t false 1] (ho : o.op = .load t x) (hg : eg ops st o = some true) (hx : evC st x = .elem (c :: cs)) (h : el ρ P ops K rest (st.put o.dst c)) : el ρ P ops K (o :: rest) st := aa hg (aw ho hx) h
theorem yE {α : Type} [Enc α] {t : TypeId} {a : α} [Ty P t true (Enc.n α)] (ho : o.op = .load t x) (hg : eg ops st o = some true) (hx : evC st x = .elem (cells a)) (h : el ρ P ops K rest (st.put o.dst (.agg (cells a)))) : el ρ P ops K (o :: rest) st := aa hg (ah ho hx (Enc.len a)) h
theorem yX {i : Nat} {cs : List C} (ho : o.op = .extract x i) (hg : eg ops st o = some true) (hx : evC st x = .tup cs) (hc : cs[i]? = some c) (h : el ρ P ops K rest (st.put o.dst c)) : el ρ P ops K (o :: rest) st := ae hg (da ho hx hc) h
theorem yF {t : TypeId} {f off : Nat} {ft : TypeId} [Fld P t f off ft] {cs : List C} {d : C} {ds : List C} (ho : o.op = .fieldAddr t x f) (hg : eg ops st o = some true) (hx : evC st x = .elem cs) (hd : cs.drop off = d :: ds) (h : el ρ P ops K rest (st.put o.dst (.elem (d :: ds)))) : el ρ P ops K (o :: rest) st := ae hg (bg ho hx hd) h
theorem yB {e : TypeId} {cs : List C} (ho : o.op = .box e x) (hg : eg ops st o = some true) (hx : ir (evC st x) = some cs) (h : el ρ P ops K rest (st.put o.dst (.elem cs))) (hne : cs ≠ [] := by simp) : el ρ P ops K (o :: rest) st := av hg (cw ho hx hne h)
theorem yK (hg : eg ops st o = some false) (h : el ρ P ops K rest (st.put o.dst (.tup []))) : el ρ P ops K (o :: rest) st := bv hg h
theorem yN (h : K st) : el ρ P ops K [] st := am h
theorem yR {id : Nat} {l : List Oper} (h : el ρ P l.toArray (Q .normal) l st) : AW ρ P (.region id l.toArray false) Q st := aq h
theorem yS {x y : Code} (h : ∀ K : St → Prop, (∀ st', AW ρ P y Q st' → K st') → AW ρ P x (jz K Q) st) : AW ρ P (.seq x y) Q st := aj h
end
section
variable {P : Program} {ol : List Oper} {K : St → Prop} {D : List Nat} {late Ef N : Nat → Bool} {i : Nat} {π : List (Nat × Option Nat)} {o : Oper} {st : St} {c : C} {x : Operand}
theorem xM (ho : o.op = .move x) (hE : Ef i = false) (hN : N i = true) (hol : ol[i]? = some o) (hg : eg ol.toArray st o = some true) (h : iw P ol.toArray K D late Ef N π (st.put o.dst c)) (hx : Is (evC st x) c := by constructor) : iw P ol.toArray K D late Ef N ((i, none) :: π) st := ak hE hN hol hg (ar ho hx) h
end
end Go.AB
namespace Go.AB
open Go Go.RowKit
variable {p : Program}

end Go.AB
namespace Go.AB
open Go Go.RowKit
variable {p : Program}

/-! ### The machine -/
end Go.AB
namespace Go.PB
structure Chap where
 id : Int
 lines : List (List ByteArray)
 deriving DecidableEq
abbrev bd := List Chap
structure PlaceD where
 ch : Int
 ln : Int
 wd : Int
 deriving DecidableEq
structure bh where
 pl : PlaceD
 kind : Int
 word : ByteArray
 deriving DecidableEq
structure CopyD where
 id : Int
 rs : List bh
 deriving DecidableEq
/-- How lines may go on: a kind of readings; how many words of each are used. -/
structure bw where
 kind : Int
 one : Nat
 two : Nat
 deriving DecidableEq
end Go.PB
namespace Go.AB
open Go Go.RowKit
open Go.AB.Enc (cells)
open Go.PB (Chap bd PlaceD bh CopyD bw)


instance : Enc Chap := ⟨fun x => [.v (.int .i64 x.id), lst x.lines], 2, fun _ => rfl, fun m x c h => by
 simp only [List.mem_cons, List.not_mem_nil, or_false] at h; rcases h with rfl | rfl; exact .v; exact ce m _, fun x c h => by
 simp only [List.mem_cons, List.not_mem_nil, or_false] at h; rcases h with rfl | rfl <;> rfl⟩
instance : Enc PlaceD := ⟨fun x => [.v (.int .i64 x.ch), .v (.int .i64 x.ln), .v (.int .i64 x.wd)], 3, fun _ => rfl, fun m x c h => by
 simp only [List.mem_cons, List.not_mem_nil, or_false] at h; rcases h with rfl | rfl | rfl <;> exact .v, fun x c h => by
 simp only [List.mem_cons, List.not_mem_nil, or_false] at h; rcases h with rfl | rfl | rfl <;> rfl⟩
instance : Enc bh := ⟨fun x => [.v (.int .i64 x.pl.ch), .v (.int .i64 x.pl.ln), .v (.int .i64 x.pl.wd), .v (.int .u8 x.kind), .v (.string x.word)], 5, fun _ => rfl, fun m x c h => by
 simp only [List.mem_cons, List.not_mem_nil, or_false] at h; rcases h with rfl | rfl | rfl | rfl | rfl <;> exact .v, fun x c h => by
 simp only [List.mem_cons, List.not_mem_nil, or_false] at h; rcases h with rfl | rfl | rfl | rfl | rfl <;> rfl⟩
instance : Enc CopyD := ⟨fun x => [.v (.int .i64 x.id), lst x.rs], 2, fun _ => rfl, fun m x c h => by
 simp only [List.mem_cons, List.not_mem_nil, or_false] at h; rcases h with rfl | rfl; exact .v; exact ce m _, fun x c h => by
 simp only [List.mem_cons, List.not_mem_nil, or_false] at h; rcases h with rfl | rfl <;> rfl⟩
/-- A struct by value. -/
def val {α : Type} [Enc α] (x : α) : C := .agg (cells x)
abbrev dn (t : bd) : C := .agg [lst t]

def I64 (n : Int) : Prop := -9223372036854775808 ≤ n ∧ n ≤ 9223372036854775807
theorem udj {n : Int} (h : (C.v (.int .i64 n)).fit) : I64 n := n7 (fit_v.1 h)
/-- lengths and numbers of a text that is read out of memory -/
structure zf (t : bd) : Prop where
 len : t.length ≤ 9223372036854775807
 id : ∀ c ∈ t, I64 c.id
 lines : ∀ c ∈ t, c.lines.length ≤ 9223372036854775807
 words : ∀ c ∈ t, ∀ l ∈ c.lines, l.length ≤ 9223372036854775807
 size : ∀ c ∈ t, ∀ l ∈ c.lines, ∀ s ∈ l, s.size ≤ 9223372036854775807
theorem tu {l : List ByteArray} (h : (lst l).fit) : l.length ≤ 9223372036854775807 ∧ ∀ s ∈ l, s.size ≤ 9223372036854775807 := by
 obtain ⟨h1, h2⟩ := fit_lst.1 h
 exact ⟨h1, fun s hs => okV_str.1 (fit_v.1 (h2 s hs _ (List.mem_cons_self ..)))⟩
theorem zx {t : bd} (h : (lst t).fit) : zf t := by
 obtain ⟨h1, h2⟩ := fit_lst.1 h
 have h3 : ∀ c ∈ t, (lst c.lines).fit := fun c hc => h2 c hc _ (List.mem_cons_of_mem _ (List.mem_cons_self ..))
 have h4 : ∀ c ∈ t, ∀ l ∈ c.lines, (lst l).fit := fun c hc l hl => (fit_lst.1 (h3 c hc)).2 l hl _ (List.mem_cons_self ..)
 exact ⟨h1, fun c hc => udj (h2 c hc _ (List.mem_cons_self ..)), fun c hc => (fit_lst.1 (h3 c hc)).1, fun c hc l hl => (tu (h4 c hc l hl)).1, fun c hc l hl => (tu (h4 c hc l hl)).2⟩
theorem nr {t : bd} (h : (dn t).fit) : zf t := zx (fit_agg.1 h _ (List.mem_cons_self ..))
/-! ### Lists -/
theorem dv {α : Type} {l : List α} {k : Nat} {x : α} (h : l[k]? = some x) : x ∈ l := List.mem_of_getElem? h
theorem dd {α : Type} {l : List α} {k : Nat} (h : l.length ≤ k) : l.take k = l := List.take_of_length_le h
theorem ja {α : Type} {l : List α} {k : Nat} {x : α} {p : α → Bool} (hx : l[k]? = some x) : (l.take (k + 1)).all p = ((l.take k).all p && p x) := by
 rw [List.take_add_one, hx]; simp
theorem gu {α : Type} {l : List α} {k : Nat} {x : α} {p : α → Bool} (hx : l[k]? = some x) (hp : p x = false) : l.all p = false :=
 List.all_eq_false.2 ⟨x, List.mem_of_getElem? hx, by simp [hp]⟩
theorem ng {α : Type} {l : List α} {k : Nat} {x : α} {p : α → Bool} (hx : l[k]? = some x) : (l.take (k + 1)).any p = ((l.take k).any p || p x) := by
 rw [List.take_add_one, hx]; simp
theorem nh {α : Type} {l : List α} {k : Nat} {x : α} {p : α → Bool} (hx : l[k]? = some x) (hp : p x = true) : l.any p = true :=
 List.any_eq_true.2 ⟨x, List.mem_of_getElem? hx, hp⟩
theorem ns {α : Type} {a b : List α} {k : Nat} {x : α} (h : a.take k = b.take k) (ha : a[k]? = some x) (hb : b[k]? = some x) : a.take (k + 1) = b.take (k + 1) := by
 rw [List.take_add_one, List.take_add_one, h, ha, hb]
theorem mc {α : Type} {a b : List α} {k : Nat} {x y : α} (ha : a[k]? = some x) (hb : b[k]? = some y) (h : x ≠ y) : a ≠ b := fun e => by
 subst e; rw [ha] at hb; exact h (by simpa using hb)
theorem pu {α β : Type} {l : List α} {k : Nat} {x : α} {f : α → β} (hx : l[k]? = some x) : (l.take (k + 1)).map f = (l.take k).map f ++ [f x] := by
 rw [List.take_add_one, hx]; simp
theorem ubo {α β : Type} {l : List α} {j k : Nat} {x y : α} {f : α → β} (hj : l[j]? = some x) (hk : l[k]? = some y) (hlt : j < k) (hf : f x = f y) : ¬ (l.map f).Nodup := by
 intro h
 rw [List.Nodup, List.pairwise_iff_getElem] at h
 have h1 : (l.map f)[j]? = some (f x) := by simp [hj]
 have h2 : (l.map f)[k]? = some (f y) := by simp [hk]
 obtain ⟨hj', e1⟩ := List.getElem?_eq_some_iff.1 h1
 obtain ⟨hk', e2⟩ := List.getElem?_eq_some_iff.1 h2
 exact h j k hj' hk' hlt (by rw [e1, e2, hf])
theorem sb {α : Type} {l : List α} {x : α} (h : l.Nodup) (hx : x ∉ l) : (l ++ [x]).Nodup := by
 rw [List.nodup_append]
 exact ⟨h, by simp, fun a ha b hb => by simp at hb; subst hb; exact fun e => hx (e ▸ ha)⟩
theorem ubp {α β : Type} [DecidableEq β] {l : List α} {k : Nat} {f : α → β} {b : β} (h : (l.take k).any (fun d => decide (f d = b)) = false) : b ∉ (l.take k).map f := by
 intro hm
 obtain ⟨d, hd, e⟩ := List.mem_map.1 hm
 rw [List.any_eq_false] at h
 exact h d hd (by simp [e])

theorem px {α β : Type} {f : Nat → α → β} {l : List α} {k : Nat} {x : α} (h : l[k]? = some x) : (l.take (k + 1)).mapIdx f = (l.take k).mapIdx f ++ [f k x] := by
 have hlt := (List.getElem?_eq_some_iff.1 h).1
 rw [List.take_add_one, h, List.mapIdx_append]
 simp [List.length_take, Nat.min_eq_left (Nat.le_of_lt hlt)]
theorem se {α β : Type} (f : Nat → α → β) (l : List α) (k : Nat) : (l.take k).mapIdx f <+: l.mapIdx f := by
 refine ⟨(l.drop k).mapIdx fun i => f (i + (l.take k).length), ?_⟩
 rw [← List.mapIdx_append, List.take_append_drop]
theorem xi {α : Type} {a b : List (List α)} (h : a <+: b) : a.flatten <+: b.flatten := by
 obtain ⟨r, rfl⟩ := h
 exact ⟨r.flatten, by simp⟩
/-! ### What the functions compute -/
/-- from lo to hi -/
def inB (n lo hi : Int) : Bool := decide (lo ≤ n) && decide (n ≤ hi)
theorem inB_true {n lo hi : Int} : inB n lo hi = true ↔ lo ≤ n ∧ n ≤ hi := by simp [inB]
theorem udd {n lo hi : Int} : inB n lo hi = false ↔ ¬ (lo ≤ n ∧ n ≤ hi) := by rw [← Bool.not_eq_true, inB_true]
def okc (c : UInt8) : Bool := decide (97 ≤ c.toNat) && decide (c.toNat ≤ 122)
def e8 (s : ByteArray) : Bool := inB s.size 1 12 && s.data.toList.all okc
def iz (l : List ByteArray) : Bool := inB l.length 1 10 && l.all e8
def gl (c : Chap) : Bool := inB c.id 0 9999 && inB c.lines.length 1 10 && c.lines.all iz
def ck (t : bd) : Bool := inB t.length 1 6 && t.all gl && decide (t.map (·.id)).Nodup
def lk (l : List ByteArray) : Bool := decide (15 < l.length) || l.any fun s => decide (40 < s.size)
def ke (c : Chap) : Bool := decide (15 < c.lines.length) || c.lines.any lk
def kf (t : bd) : Bool := decide (10 < t.length) || t.any ke
end Go.AB
namespace Go.AB
open Go Go.RowKit
open Go.AB.Enc (cells)
open Go.PB (Chap bd PlaceD bh CopyD bw)
structure i2 where
 ch : Int
 fr : Int
 tt : Int
 au : Int
 fi : Int
 deriving DecidableEq
structure uf2 where
 id : Int
 ss : List i2
 deriving DecidableEq
structure RowD where
 ch : Int
 ln : Int
 au : Int
 nu : Int
 ws : Int
 deriving DecidableEq
/-- numbers of an edition that is read out of memory -/
structure SFit (s : i2) : Prop where
 ch : I64 s.ch
 fr : I64 s.fr
 tt : I64 s.tt
 au : I64 s.au
 fi : I64 s.fi
structure EFit (e : uf2) : Prop where
 id : I64 e.id
 len : e.ss.length ≤ 9223372036854775807
 ss : ∀ s ∈ e.ss, SFit s
/-! ### What the functions compute -/
/-- so many lines has a chapter -/
def jg (t : bd) (c : Int) : Nat := match t[c.toNat]? with
 | some x => x.lines.length
 | none => 0
/-- the error of a text -/
def fy (t : bd) : Int := bif ck t then 0 else 10
/-- what is so of a valid stretch -/
structure SOk (s : i2) : Prop where
 fr : 0 ≤ s.fr
 lt : s.fr < s.tt
 tt : s.tt ≤ 10
 ch : 0 ≤ s.ch ∧ s.ch ≤ 5
 au : 1 ≤ s.au ∧ s.au ≤ 999
 fi : 1 ≤ s.fi ∧ s.fi + (s.tt - s.fr) ≤ 1000
theorem i3 {t : bd} (h : ck t = true) : 1 ≤ t.length ∧ t.length ≤ 6 ∧ ∀ c ∈ t, 1 ≤ c.lines.length ∧ c.lines.length ≤ 10 ∧ ∀ l ∈ c.lines, 1 ≤ l.length ∧ l.length ≤ 10 := by
 simp only [ck, Bool.and_eq_true, inB_true, List.all_eq_true, gl, iz] at h
 refine ⟨by omega, by omega, fun c hc => ?_⟩
 have := h.1.2 c hc
 refine ⟨by omega, by omega, fun l hl => ?_⟩
 have := this.2 l hl
 omega
theorem vy {t : bd} {c : Int} {k : Nat} {x : Chap} (hc : c = (k : Int)) (hx : t[k]? = some x) : jg t c = x.lines.length := by
 subst hc; simp [jg, hx]
end Go.AB
namespace Go.Proofs.YthboenlglkmnjaaDoor
open Go Go.AB
instance : Ty Tryd.prog 3 false 1 := ⟨by kernel_rfl⟩
instance : Zero Tryd.prog 4 (.bool false) := ⟨by kernel_rfl⟩
instance : Ty Tryd.prog 5 false 1 := ⟨by kernel_rfl⟩
instance : Ty Tryd.prog 9 false 1 := ⟨by kernel_rfl⟩
instance : Zero Tryd.prog 9 (.string ByteArray.empty) := ⟨by kernel_rfl⟩
instance : ZeroC Tryd.prog 9 [.v (.string ByteArray.empty)] := ⟨(.string ByteArray.empty), by kernel_rfl, by rfl⟩
instance : StrT Tryd.prog 9 := ⟨by kernel_rfl⟩
instance : Ty Tryd.prog 22 false 1 := ⟨by kernel_rfl⟩
instance : Elt Tryd.prog 22 55 := ⟨by kernel_rfl⟩
instance : AppT Tryd.prog 22 55 2 32 := ⟨by kernel_rfl⟩
instance : Ty Tryd.prog 24 true 1 := ⟨by kernel_rfl⟩
instance : ZeroC Tryd.prog 24 [.list [] .nil] := ⟨(.agg #[(.slice none 0 0)]), by kernel_rfl, by rfl⟩
instance : Bld Tryd.prog 24 [(0, 1)] := ⟨by kernel_rfl⟩
instance : Fld Tryd.prog 24 0 0 22 := ⟨by kernel_rfl⟩
instance : Ty Tryd.prog 25 false 1 := ⟨by kernel_rfl⟩
instance : Zero Tryd.prog 25 (.slice none 0 0) := ⟨by kernel_rfl⟩
instance : Elt Tryd.prog 25 60 := ⟨by kernel_rfl⟩
instance : AppT Tryd.prog 25 60 5 48 := ⟨by kernel_rfl⟩
instance : Ty Tryd.prog 27 true 2 := ⟨by kernel_rfl⟩
instance : ZeroC Tryd.prog 27 [.v (.int .i64 0), .list [] .nil] := ⟨(.agg #[(.int .i64 0), (.slice none 0 0)]), by kernel_rfl, by rfl⟩
instance : Bld Tryd.prog 27 [(0, 1), (1, 1)] := ⟨by kernel_rfl⟩
instance : Fld Tryd.prog 27 0 0 3 := ⟨by kernel_rfl⟩
instance : Fld Tryd.prog 27 1 1 25 := ⟨by kernel_rfl⟩
instance : Ty Tryd.prog 29 true 3 := ⟨by kernel_rfl⟩
instance : ZeroC Tryd.prog 29 [.v (.int .i64 0), .v (.int .i64 0), .v (.int .i64 0)] := ⟨(.agg #[(.int .i64 0), (.int .i64 0), (.int .i64 0)]), by kernel_rfl, by rfl⟩
instance : Bld Tryd.prog 29 [(0, 1), (1, 1), (2, 1)] := ⟨by kernel_rfl⟩
instance : Fld Tryd.prog 29 0 0 3 := ⟨by kernel_rfl⟩
instance : Fld Tryd.prog 29 1 1 3 := ⟨by kernel_rfl⟩
instance : Fld Tryd.prog 29 2 2 3 := ⟨by kernel_rfl⟩
instance : Ty Tryd.prog 30 false 1 := ⟨by kernel_rfl⟩
instance : Elt Tryd.prog 30 27 := ⟨by kernel_rfl⟩
instance : AppT Tryd.prog 30 27 2 32 := ⟨by kernel_rfl⟩
instance : Ty Tryd.prog 44 false 1 := ⟨by kernel_rfl⟩
instance : ZeroC Tryd.prog 44 [.list [] .nil] := ⟨(.slice none 0 0), by kernel_rfl, by rfl⟩
instance : Elt Tryd.prog 44 29 := ⟨by kernel_rfl⟩
instance : AppT Tryd.prog 44 29 3 24 := ⟨by kernel_rfl⟩
instance : Ty Tryd.prog 53 false 1 := ⟨by kernel_rfl⟩
instance : Elt Tryd.prog 53 56 := ⟨by kernel_rfl⟩
instance : AppT Tryd.prog 53 56 1 24 := ⟨by kernel_rfl⟩
instance : Ty Tryd.prog 55 true 2 := ⟨by kernel_rfl⟩
instance : ZeroC Tryd.prog 55 [.v (.int .i64 0), .list [] .nil] := ⟨(.agg #[(.int .i64 0), (.slice none 0 0)]), by kernel_rfl, by rfl⟩
instance : Bld Tryd.prog 55 [(0, 1), (1, 1)] := ⟨by kernel_rfl⟩
instance : Fld Tryd.prog 55 0 0 3 := ⟨by kernel_rfl⟩
instance : Fld Tryd.prog 55 1 1 53 := ⟨by kernel_rfl⟩
instance : Ty Tryd.prog 56 false 1 := ⟨by kernel_rfl⟩
instance : Elt Tryd.prog 56 9 := ⟨by kernel_rfl⟩
instance : AppT Tryd.prog 56 9 1 16 := ⟨by kernel_rfl⟩
instance : Ty Tryd.prog 60 true 5 := ⟨by kernel_rfl⟩
instance : ZeroC Tryd.prog 60 [.v (.int .i64 0), .v (.int .i64 0), .v (.int .i64 0), .v (.int .u8 0), .v (.string ByteArray.empty)] := ⟨(.agg #[(.int .i64 0), (.int .i64 0), (.int .i64 0), (.int .u8 0), (.string ByteArray.empty)]), by kernel_rfl, by rfl⟩
instance : Fld Tryd.prog 60 0 0 29 := ⟨by kernel_rfl⟩
instance : Fld Tryd.prog 60 1 3 5 := ⟨by kernel_rfl⟩
instance : Fld Tryd.prog 60 2 4 9 := ⟨by kernel_rfl⟩
instance : Ty Tryd.prog 61 false 1 := ⟨by kernel_rfl⟩
instance : ZeroC Tryd.prog 61 [.v (.pointer none)] := ⟨(.pointer none), by kernel_rfl, by rfl⟩
instance : MapT Tryd.prog 79 29 25 := ⟨by kernel_rfl⟩
instance : ZeroC Tryd.prog 81 [.list [] .nil] := ⟨(.agg #[(.slice none 0 0)]), by kernel_rfl, by rfl⟩
instance : Bld Tryd.prog 81 [(0, 1)] := ⟨by kernel_rfl⟩
instance : Fld Tryd.prog 81 0 0 24 := ⟨by kernel_rfl⟩
instance : Ty Tryd.prog 83 false 1 := ⟨by kernel_rfl⟩
instance : Ty Tryd.prog 84 false 1 := ⟨by kernel_rfl⟩
instance : Ty Tryd.prog 86 true 3 := ⟨by kernel_rfl⟩
instance : ZeroC Tryd.prog 86 [.v (.int .i64 0), .v .nilFunc, .v .nilFunc] := ⟨(.agg #[(.int .i64 0), .nilFunc, .nilFunc]), by kernel_rfl, by rfl⟩
instance : Fld Tryd.prog 86 0 0 3 := ⟨by kernel_rfl⟩
instance : Fld Tryd.prog 86 1 1 83 := ⟨by kernel_rfl⟩
instance : Fld Tryd.prog 86 2 2 84 := ⟨by kernel_rfl⟩
instance : ArrT Tryd.prog 87 4 86 := ⟨by kernel_rfl⟩
instance : Elt Tryd.prog 104 3 := ⟨by kernel_rfl⟩
instance : AppT Tryd.prog 104 3 1 8 := ⟨by kernel_rfl⟩
instance : MapT Tryd.prog 107 3 4 := ⟨by kernel_rfl⟩
instance : Elt Tryd.prog 114 5 := ⟨by kernel_rfl⟩
instance : Fun Tryd.prog 4 := ⟨by kernel_rfl⟩
instance : Fun Tryd.prog 5 := ⟨by kernel_rfl⟩
instance : Fun Tryd.prog 6 := ⟨by kernel_rfl⟩
instance : Fun Tryd.prog 7 := ⟨by kernel_rfl⟩
instance : Fun Tryd.prog 8 := ⟨by kernel_rfl⟩
instance : Fun Tryd.prog 9 := ⟨by kernel_rfl⟩
instance : Fun Tryd.prog 10 := ⟨by kernel_rfl⟩
instance : Fun Tryd.prog 11 := ⟨by kernel_rfl⟩
instance : Fun Tryd.prog 12 := ⟨by kernel_rfl⟩
instance : Fun Tryd.prog 13 := ⟨by kernel_rfl⟩
instance : Fun Tryd.prog 14 := ⟨by kernel_rfl⟩
instance : Fun Tryd.prog 15 := ⟨by kernel_rfl⟩
instance : Fun Tryd.prog 16 := ⟨by kernel_rfl⟩
instance : Fun Tryd.prog 17 := ⟨by kernel_rfl⟩
instance : Fun Tryd.prog 18 := ⟨by kernel_rfl⟩
instance : Fun Tryd.prog 19 := ⟨by kernel_rfl⟩
instance : Fun Tryd.prog 20 := ⟨by kernel_rfl⟩
instance : Fun Tryd.prog 21 := ⟨by kernel_rfl⟩
instance : Fun Tryd.prog 22 := ⟨by kernel_rfl⟩
instance : Fun Tryd.prog 23 := ⟨by kernel_rfl⟩
instance : Fun Tryd.prog 24 := ⟨by kernel_rfl⟩
instance : Fun Tryd.prog 25 := ⟨by kernel_rfl⟩
instance : Fun Tryd.prog 26 := ⟨by kernel_rfl⟩
instance : Fun Tryd.prog 27 := ⟨by kernel_rfl⟩
instance : Fun Tryd.prog 28 := ⟨by kernel_rfl⟩
instance : Fun Tryd.prog 29 := ⟨by kernel_rfl⟩
instance : Fun Tryd.prog 30 := ⟨by kernel_rfl⟩
instance : Fun Tryd.prog 31 := ⟨by kernel_rfl⟩
instance : Fun Tryd.prog 32 := ⟨by kernel_rfl⟩
instance : Fun Tryd.prog 33 := ⟨by kernel_rfl⟩
instance : Fun Tryd.prog 34 := ⟨by kernel_rfl⟩
instance : Fun Tryd.prog 35 := ⟨by kernel_rfl⟩
instance : Fun Tryd.prog 36 := ⟨by kernel_rfl⟩
instance : Fun Tryd.prog 37 := ⟨by kernel_rfl⟩
instance : Fun Tryd.prog 39 := ⟨by kernel_rfl⟩
instance : Fun Tryd.prog 40 := ⟨by kernel_rfl⟩
instance : Fun Tryd.prog 41 := ⟨by kernel_rfl⟩
instance : Fun Tryd.prog 42 := ⟨by kernel_rfl⟩
instance : Fun Tryd.prog 43 := ⟨by kernel_rfl⟩
instance : Fun Tryd.prog 44 := ⟨by kernel_rfl⟩
instance : Fun Tryd.prog 45 := ⟨by kernel_rfl⟩
instance : Fun Tryd.prog 46 := ⟨by kernel_rfl⟩
instance : Fun Tryd.prog 47 := ⟨by kernel_rfl⟩
instance : Fun Tryd.prog 48 := ⟨by kernel_rfl⟩
instance : Fun Tryd.prog 49 := ⟨by kernel_rfl⟩
instance : Fun Tryd.prog 50 := ⟨by kernel_rfl⟩
instance : Fun Tryd.prog 51 := ⟨by kernel_rfl⟩
instance : Fun Tryd.prog 52 := ⟨by kernel_rfl⟩
instance : Fun Tryd.prog 53 := ⟨by kernel_rfl⟩
instance : Fun Tryd.prog 54 := ⟨by kernel_rfl⟩
instance : Fun Tryd.prog 55 := ⟨by kernel_rfl⟩
instance : Fun Tryd.prog 56 := ⟨by kernel_rfl⟩
instance : Fun Tryd.prog 57 := ⟨by kernel_rfl⟩
instance : Fun Tryd.prog 58 := ⟨by kernel_rfl⟩
instance : Fun Tryd.prog 59 := ⟨by kernel_rfl⟩
instance : Fun Tryd.prog 60 := ⟨by kernel_rfl⟩
instance : Fun Tryd.prog 61 := ⟨by kernel_rfl⟩
instance : Fun Tryd.prog 62 := ⟨by kernel_rfl⟩
instance : Fun Tryd.prog 63 := ⟨by kernel_rfl⟩
instance : Fun Tryd.prog 64 := ⟨by kernel_rfl⟩
instance : Fun Tryd.prog 65 := ⟨by kernel_rfl⟩
instance : Fun Tryd.prog 66 := ⟨by kernel_rfl⟩
instance : Fun Tryd.prog 84 := ⟨by kernel_rfl⟩
instance : Fun Tryd.prog 85 := ⟨by kernel_rfl⟩
instance : Fun Tryd.prog 86 := ⟨by kernel_rfl⟩
instance : Fun Tryd.prog 87 := ⟨by kernel_rfl⟩
instance : Fun Tryd.prog 88 := ⟨by kernel_rfl⟩
instance : Fun Tryd.prog 89 := ⟨by kernel_rfl⟩
end Go.Proofs.YthboenlglkmnjaaDoor
namespace Go.AB
/-- where the first one stands of which it is so; -1 if there is none -/
def idxOf {α : Type} (p : α → Bool) (xs : List α) : Int := match xs.findIdx? p with
 | some n => (n : Int)
 | none => -1
theorem m7 {α : Type} {p : α → Bool} {xs : List α} (h : ∀ x ∈ xs, p x = false) : idxOf p xs = -1 := by
 have : xs.findIdx? p = none := List.findIdx?_eq_none_iff.2 h
 simp [idxOf, this]
theorem m6 {α : Type} {p : α → Bool} {xs : List α} {k : Nat} {x : α} (hx : xs[k]? = some x) (hp : p x = true) (h : ∀ y ∈ xs.take k, p y = false) : idxOf p xs = k := by
 have : xs.findIdx? p = some k := by
  rw [List.findIdx?_eq_some_iff_getElem]
  obtain ⟨hlt, rfl⟩ := List.getElem?_eq_some_iff.1 hx
  refine ⟨hlt, hp, fun j hj => ?_⟩
  have := h xs[j] (List.mem_of_getElem? (i := j) (by rw [List.getElem?_take, if_pos hj, List.getElem?_eq_getElem (by omega)]))
  simp [this]
 simp [idxOf, this]
theorem m8 {α : Type} {p : α → Bool} {xs : List α} : decide (0 ≤ idxOf p xs) = xs.any p := by
 unfold idxOf
 cases h : xs.findIdx? p with
 | none =>
  have h1 := List.findIdx?_eq_none_iff.1 h
  have : xs.any p = false := by rw [List.any_eq_false]; intro x hx; simp [h1 x hx]
  rw [this]; simp
 | some n =>
  rw [List.findIdx?_eq_some_iff_getElem] at h
  obtain ⟨hlt, hp, _⟩ := h
  have : xs.any p = true := List.any_eq_true.2 ⟨_, List.getElem_mem hlt, hp⟩
  rw [this]; simp
def mb (n lo hi : Int) : Bool := decide (n < lo) || decide (hi < n)
def qh (lo hi : Int) (xs : List Int) : Bool := !xs.any fun n => mb n lo hi
theorem ubi (n lo hi : Int) : (!mb n lo hi) = inB n lo hi := by
 simp only [mb, inB, Bool.not_or]
 rw [← decide_not, ← decide_not]
 congr 1 <;> (congr 1; simp)
theorem fq {lo hi n : Int} : qh lo hi [n] = inB n lo hi := by rw [← ubi]; simp [qh]
end Go.AB
namespace Go.Proofs.YthboenlglkmnjaaDoor
set_option maxRecDepth 10000
open Go.RowKit Go.AB
open Go.AB.Enc (cells)
open Go.PB (Chap bd PlaceD bh CopyD bw)

theorem ufx (xs : List Int) (p : Int → Bool) (k : Nat) (caps : List C) [Fun Tryd.prog k] (hp : ∀ x ∈ xs, Pure Tryd.prog k (.v (.int .i64 x) :: caps) (.v (.bool (p x)))) : Pure Tryd.prog 62 [lst xs, .fn (.func k) caps] (.v (.int .i64 (idxOf p xs))) := by
 refine cx Tryd.func62 rfl (fun m => .v) fun G nx => ?_
 simp only [Tryd.ntmps62, List.length_cons, List.length_nil, Nat.reduceAdd, Nat.reduceSub]
 refine b9 fun hlt => ?_
 dsimp only at hlt
 refine fj 0 (fun hf => ?_)
 replace hf := (fit_lst.1 hf).1
 refine yS fun _ K1 => ?_
 refine yR ?_
 refine yA rfl rfl ?_
 refine yN ?_
 dsimp only [St.put]
 refine K1 _ ?_
 refine yS fun _ K2 => ?_
 refine yS fun _ K3 => ?_
 refine yR ?_
 refine yM rfl rfl ?_
 refine ae rfl (bj rfl rfl (List.length_map _)) ?_
 refine yM rfl rfl ?_
 refine yN ?_
 dsimp only [St.put]
 refine K3 _ ?_
 refine bq ?_
 refine cg 9 ?_
 refine zQ ?_
 refine cn (G) zX ?_
 dsimp only
 refine cz (X := Nat) (fun k => k ≤ xs.length ∧ ∀ y ∈ xs.take k, p y = false) (fun k => xs.length - k) (fun k => [(4, .any), (5, .any), (8, .v (.int .i64 (k : Int)))]) (fun k G' => G') 0 rfl ?_ ?_ (fun _ _ h => h) ?_ ?_ ?_
 ·exact ⟨by simp, by simp⟩
 ·exact zF
 ·rintro k hI
  exact zL
 ·exact fun _ _ _ _ h => .inl h
 rintro k hI
 dsimp only at hI ⊢
 refine yS fun _ K4 => ?_
 refine yR ?_
 refine ae rfl (cj rfl rfl rfl) ?_
 refine yN ?_
 dsimp only [St.put]
 refine K4 _ ?_
 refine yS fun _ K5 => ?_
 refine bl rfl (fun hc => ?_) (fun hc => ?_)
 ·replace hc := of_decide_eq_true hc
  obtain ⟨x, hx⟩ : ∃ x, xs[k]? = some x := cm (by omega)
  refine bn ?_
  refine K5 _ ?_
  refine yS fun _ K6 => ?_
  refine bq ?_
  refine yS fun _ K7 => ?_
  refine yR ?_
  refine yM rfl rfl ?_
  refine yA rfl rfl ?_
  refine yN ?_
  dsimp only [St.put]
  refine K7 _ ?_
  refine yS fun _ K8 => ?_
  refine yR ?_
  refine yM rfl rfl ?_
  refine yM rfl rfl ?_
  refine yM rfl rfl ?_
  refine ae rfl (bf rfl rfl rfl rfl (bm (by assumption)) (Enc.len _)) ?_
  refine yL rfl rfl rfl ?_
  try dsimp only [St.put]
  refine av rfl (br rfl rfl rfl (hp x (dv hx)) ?_)
  refine yN ?_
  dsimp only [St.put]
  refine K8 _ ?_
  refine bl rfl (fun hc => ?_) (fun hc => ?_)
  ·skip
   refine yS fun _ K9 => ?_
   refine yR ?_
   refine yM rfl rfl ?_
   refine yA rfl rfl ?_
   refine yN ?_
   dsimp only [St.put]
   refine K9 _ ?_
   refine bk ?_
   refine bo rfl (by constructor) zN zS ?_
   exact vi (m6 hx hc hI.2).symm
  skip
  refine bn ?_
  refine K6 _ ?_
  refine yR ?_
  refine ae rfl (bx rfl rfl rfl (by omega)) ?_
  refine yM rfl rfl ?_
  refine yN ?_
  dsimp only [St.put]
  exact ⟨k + 1, by omega, ⟨by omega, fun y hy => by
    rw [List.take_add_one, hx] at hy
    simp only [Option.toList_some, List.mem_append, List.mem_singleton] at hy
    rcases hy with hy | rfl
    ·exact hI.2 y hy
    simpa using hc⟩, ⟨⟨rfl, rfl⟩, zF, zB, zN, zX⟩⟩
 try replace hc := of_decide_eq_false hc
 refine co ?_
 refine K2 _ ?_
 refine yS fun _ K10 => ?_
 refine yR ?_
 refine yA rfl rfl ?_
 refine yN ?_
 dsimp only [St.put]
 refine K10 _ ?_
 refine bk ?_
 refine bo rfl (by constructor) zN zS ?_
 exact vi (by
  rw [m7]
  have := hI.2
  rwa [dd (by omega)] at this)

theorem uf5 (xs : List Int) (p : Int → Bool) (k : Nat) (caps : List C) [Fun Tryd.prog k] (hp : ∀ x ∈ xs, Pure Tryd.prog k (.v (.int .i64 x) :: caps) (.v (.bool (p x)))) : Pure Tryd.prog 54 [lst xs, .fn (.func k) caps] (.v (.bool (xs.any p))) := by
 refine cx Tryd.func54 rfl (fun m => .v) fun G nx => ?_
 simp only [Tryd.ntmps54, List.length_cons, List.length_nil, Nat.reduceAdd, Nat.reduceSub]
 refine b9 fun hlt => ?_
 dsimp only at hlt
 refine yS fun _ K1 => ?_
 refine yR ?_
 refine yA rfl rfl ?_
 refine yN ?_
 dsimp only [St.put]
 refine K1 _ ?_
 refine yS fun _ K2 => ?_
 refine yR ?_
 refine yM rfl rfl ?_
 refine yM rfl rfl ?_
 try dsimp only [St.put]
 refine av rfl (br rfl rfl rfl (ufx xs p k caps hp) ?_)
 refine ae rfl (mf rfl rfl rfl) ?_
 refine yA rfl rfl ?_
 refine yN ?_
 dsimp only [St.put]
 refine K2 _ ?_
 refine bk ?_
 refine bo rfl (by constructor) zN zS ?_
 exact vb m8

end Go.Proofs.YthboenlglkmnjaaDoor
namespace Go.Proofs.YthboenlglkmnjaaDoor
set_option maxRecDepth 10000
open Go.RowKit Go.AB
open Go.PB (Chap bd PlaceD bh CopyD bw)

theorem jd (n lo hi : Int) : Pure Tryd.prog 43 [.v (.int .i64 n), .v (.int .i64 lo), .v (.int .i64 hi)] (.v (.bool (inB n lo hi))) := by
 refine cx Tryd.func43 rfl (fun m => .v) fun G nx => ?_
 simp only [Tryd.ntmps43, List.length_cons, List.length_nil, Nat.reduceAdd, Nat.reduceSub]
 refine b9 fun hlt => ?_
 dsimp only at hlt
 refine yS fun _ K1 => ?_
 refine yR ?_
 refine yA rfl rfl ?_
 refine yN ?_
 dsimp only [St.put]
 refine K1 _ ?_
 refine yS fun _ K2 => ?_
 refine yR ?_
 refine yM rfl rfl ?_
 refine yM rfl rfl ?_
 refine ae rfl (mf rfl rfl rfl) ?_
 refine et (fun hs => ?_) (fun hs => ?_)
 ·try replace hs := of_decide_eq_true hs
  refine yM rfl rfl ?_
  refine yM rfl rfl ?_
  refine yM rfl rfl ?_
  refine ae rfl (v7 rfl rfl rfl) ?_
  refine ae rfl (bt rfl rfl (by constructor)) ?_
  refine yA rfl rfl ?_
  refine yN ?_
  dsimp only [St.put]
  refine K2 _ ?_
  refine bk ?_
  refine bo rfl (by constructor) zN zS ?_
  exact vb (by simp [inB, hs]; try omega)
 try replace hs := of_decide_eq_false hs
 refine yM rfl rfl ?_
 refine yK rfl ?_
 refine yK rfl ?_
 refine yK rfl ?_
 refine ae rfl (bu rfl rfl (by constructor)) ?_
 refine yA rfl rfl ?_
 refine yN ?_
 dsimp only [St.put]
 refine K2 _ ?_
 refine bk ?_
 refine bo rfl (by constructor) zN zS ?_
 exact vb (by simp [inB, hs]; try omega)

theorem tg (s : ByteArray) : Pure Tryd.prog 50 [.v (.string s)] (.v (.bool (e8 s))) := by
 refine cx Tryd.func50 rfl (fun m => .v) fun G nx => ?_
 simp only [Tryd.ntmps50, List.length_cons, List.length_nil, Nat.reduceAdd, Nat.reduceSub]
 refine b9 fun hlt => ?_
 dsimp only at hlt
 refine fj 0 (fun hf => ?_)
 have hm : s.size ≤ 9223372036854775807 := okV_str.1 (fit_v.1 hf)
 clear hf
 refine yS fun _ K1 => ?_
 refine yR ?_
 refine yA rfl rfl ?_
 refine yN ?_
 dsimp only [St.put]
 refine K1 _ ?_
 refine yS fun _ K2 => ?_
 refine yS fun _ K3 => ?_
 refine yR ?_
 refine yA rfl rfl ?_
 refine yN ?_
 dsimp only [St.put]
 refine K3 _ ?_
 refine bq ?_
 refine cg 4 ?_
 refine zQ ?_
 refine cn (G) zX ?_
 dsimp only
 refine cz (X := Nat) (fun k => k ≤ s.size ∧ (s.data.toList.take k).all okc = true) (fun k => s.size - k) (fun k => [(3, .v (.int .i64 (k : Int)))]) (fun k G' => G') 0 rfl ?_ ?_ (fun _ _ h => h) ?_ ?_ ?_
 ·exact ⟨by simp, by simp⟩
 ·exact zF
 ·rintro k hI
  exact zL
 ·exact fun _ _ _ _ h => .inl h
 rintro k hI
 dsimp only at hI ⊢
 refine yS fun _ K4 => ?_
 refine yS fun _ K5 => ?_
 refine yR ?_
 refine yM rfl rfl ?_
 refine yM rfl rfl ?_
 refine ae rfl (b8 rfl rfl) ?_
 refine ae rfl (cj rfl rfl rfl) ?_
 refine yN ?_
 dsimp only [St.put]
 refine K5 _ ?_
 refine bl rfl (fun hc => ?_) (fun hc => ?_)
 ·replace hc := of_decide_eq_true hc
  obtain ⟨b, hb⟩ : ∃ b, s.data.toList[k]? = some b := cm (by simp; omega)
  refine bn ?_
  refine K4 _ ?_
  refine yS fun _ K6 => ?_
  refine bq ?_
  refine yS fun _ K7 => ?_
  refine yR ?_
  refine yM rfl rfl ?_
  refine yM rfl rfl ?_
  refine ae rfl (v8 rfl rfl rfl rfl (by assumption)) ?_
  refine ae rfl (cj rfl rfl rfl) ?_
  refine et (fun hs => ?_) (fun hs => ?_)
  ·try replace hs := of_decide_eq_true hs
   refine yM rfl rfl ?_
   refine yK rfl ?_
   refine yK rfl ?_
   refine yK rfl ?_
   refine yK rfl ?_
   refine ae rfl (bt rfl rfl (by constructor)) ?_
   refine yN ?_
   dsimp only [St.put]
   refine K7 _ ?_
   refine bl rfl (fun _ => ?_) (fun h => by cases h)
   refine yS fun _ K8 => ?_
   refine yR ?_
   refine yA rfl rfl ?_
   refine yN ?_
   dsimp only [St.put]
   refine K8 _ ?_
   refine bk ?_
   refine bo rfl (by constructor) zN zS ?_
   exact vb (by
    have : s.data.toList.all okc = false := gu hb (by simp [okc]; omega)
    simp [e8, this])
  try replace hs := of_decide_eq_false hs
  refine yM rfl rfl ?_
  refine yM rfl rfl ?_
  refine yM rfl rfl ?_
  refine ae rfl (v8 rfl rfl rfl rfl (by assumption)) ?_
  refine ae rfl (g7 rfl rfl rfl) ?_
  refine ae rfl (bu rfl rfl (by constructor)) ?_
  refine yN ?_
  dsimp only [St.put]
  refine K7 _ ?_
  refine bl rfl (fun hc => ?_) (fun hc => ?_)
  ·try replace hc := of_decide_eq_true hc
   refine yS fun _ K9 => ?_
   refine yR ?_
   refine yA rfl rfl ?_
   refine yN ?_
   dsimp only [St.put]
   refine K9 _ ?_
   refine bk ?_
   refine bo rfl (by constructor) zN zS ?_
   exact vb (by
    have : s.data.toList.all okc = false := gu hb (by simp [okc]; omega)
    simp [e8, this])
  try replace hc := of_decide_eq_false hc
  refine bn ?_
  refine K6 _ ?_
  refine yR ?_
  refine yM rfl rfl ?_
  refine ae rfl (bx rfl rfl rfl (by omega)) ?_
  refine yA rfl rfl ?_
  refine yN ?_
  dsimp only [St.put]
  exact ⟨k + 1, by omega, ⟨by omega, by rw [ja hb, hI.2]; simp [okc]; omega⟩, ⟨⟨rfl, rfl⟩, zF, zB, zN, zX⟩⟩
 try replace hc := of_decide_eq_false hc
 refine co ?_
 refine K2 _ ?_
 refine yS fun _ K10 => ?_
 refine yR ?_
 refine yM rfl rfl ?_
 refine ae rfl (b8 rfl rfl) ?_
 try dsimp only [St.put]
 refine av rfl (br rfl rfl rfl (jd _ _ _) ?_)
 refine yA rfl rfl ?_
 refine yN ?_
 dsimp only [St.put]
 refine K10 _ ?_
 refine bk ?_
 refine bo rfl (by constructor) zN zS ?_
 exact vb (by
  have h1 := hI.2
  rw [List.take_of_length_le (by simp; omega)] at h1
  simp [e8, h1])

theorem ufr (a b : List ByteArray) : Pure Tryd.prog 36 [lst a, lst b] (.v (.bool (decide (a = b)))) := by
 refine cx Tryd.func36 rfl (fun m => .v) fun G nx => ?_
 simp only [Tryd.ntmps36, List.length_cons, List.length_nil, Nat.reduceAdd, Nat.reduceSub]
 refine b9 fun hlt => ?_
 dsimp only at hlt
 refine fj 0 (fun hf => ?_)
 have hf' : a.length ≤ 9223372036854775807 := (fit_lst.1 hf).1
 clear hf
 refine yS fun _ K1 => ?_
 refine yR ?_
 refine yA rfl rfl ?_
 refine yN ?_
 dsimp only [St.put]
 refine K1 _ ?_
 refine yS fun _ K2 => ?_
 refine yS fun _ K3 => ?_
 refine yR ?_
 refine yM rfl rfl ?_
 refine ae rfl (bj rfl rfl (List.length_map _)) ?_
 refine yM rfl rfl ?_
 refine ae rfl (bj rfl rfl (List.length_map _)) ?_
 refine ae rfl (em rfl rfl rfl) ?_
 refine yN ?_
 dsimp only [St.put]
 refine K3 _ ?_
 refine bl rfl (fun hc => ?_) (fun hc => ?_)
 ·try replace hc := of_decide_eq_true hc
  refine yS fun _ K4 => ?_
  refine yR ?_
  refine yA rfl rfl ?_
  refine yN ?_
  dsimp only [St.put]
  refine K4 _ ?_
  refine bk ?_
  refine bo rfl (by constructor) zN zS ?_
  exact vb (by
   have : a ≠ b := fun e => by subst e; simp at hc
   simp [this])
 have hab := ff hc
 refine bn ?_
 refine K2 _ ?_
 refine yS fun _ K5 => ?_
 refine yS fun _ K6 => ?_
 refine yR ?_
 refine yA rfl rfl ?_
 refine yN ?_
 dsimp only [St.put]
 refine K6 _ ?_
 refine bq ?_
 refine cg 6 ?_
 refine zQ ?_
 refine cn (G) zX ?_
 dsimp only
 refine cz (X := Nat) (fun k => k ≤ a.length ∧ a.take k = b.take k) (fun k => a.length - k) (fun k => [(5, .v (.int .i64 (k : Int)))]) (fun k G' => G') 0 rfl ?_ ?_ (fun _ _ h => h) ?_ ?_ ?_
 ·exact ⟨by simp, by simp⟩
 ·exact zF
 ·rintro k hI
  exact zL
 ·exact fun _ _ _ _ h => .inl h
 rintro k hI
 dsimp only at hI ⊢
 refine yS fun _ K7 => ?_
 refine yS fun _ K8 => ?_
 refine yR ?_
 refine yM rfl rfl ?_
 refine yM rfl rfl ?_
 refine ae rfl (bj rfl rfl (List.length_map _)) ?_
 refine ae rfl (cj rfl rfl rfl) ?_
 refine yN ?_
 dsimp only [St.put]
 refine K8 _ ?_
 refine bl rfl (fun hc => ?_) (fun hc => ?_)
 ·replace hc := of_decide_eq_true hc
  obtain ⟨x, hx⟩ : ∃ x, a[k]? = some x := cm (by omega)
  obtain ⟨y, hy⟩ : ∃ y, b[k]? = some y := cm (by omega)
  refine bn ?_
  refine K7 _ ?_
  refine yS fun _ K9 => ?_
  refine bq ?_
  refine yS fun _ K10 => ?_
  refine fw [(0, none), (1, none), (2, none), (3, none), (4, none), (5, none), (6, none), (7, none), (8, none)] (fun i => [].contains i) (fun i => [].contains i) (fun i => [0, 1, 2, 4, 5, 6, 8].contains i) [] (by kernel_rfl) (by kernel_rfl) ?_
  refine xM rfl rfl rfl rfl rfl ?_
  refine xM rfl rfl rfl rfl rfl ?_
  try dsimp only [St.put]
  refine ak rfl rfl rfl rfl (bf rfl rfl rfl rfl (bm (by assumption)) (Enc.len _)) ?_
  try dsimp only [St.put]
  refine af rfl rfl rfl rfl (aw rfl rfl) ?_
  refine xM rfl rfl rfl rfl rfl ?_
  refine xM rfl rfl rfl rfl rfl ?_
  try dsimp only [St.put]
  refine ak rfl rfl rfl rfl (bf rfl rfl rfl rfl (bm (by assumption)) (Enc.len _)) ?_
  try dsimp only [St.put]
  refine af rfl rfl rfl rfl (aw rfl rfl) ?_
  refine ak rfl rfl rfl rfl (me rfl rfl rfl) ?_
  refine dc ?_
  dsimp only [St.put]
  refine K10 _ ?_
  refine bl rfl (fun hc => ?_) (fun hc => ?_)
  ·try replace hc := of_decide_eq_true hc
   refine yS fun _ K11 => ?_
   refine yR ?_
   refine yA rfl rfl ?_
   refine yN ?_
   dsimp only [St.put]
   refine K11 _ ?_
   refine bk ?_
   refine bo rfl (by constructor) zN zS ?_
   exact vb (by
    have := mc hx hy (gn hc)
    simp [this])
  have hxy := ff hc
  refine bn ?_
  refine K9 _ ?_
  refine yR ?_
  refine yM rfl rfl ?_
  refine ae rfl (bx rfl rfl rfl (by omega)) ?_
  refine yA rfl rfl ?_
  refine yN ?_
  dsimp only [St.put]
  exact ⟨k + 1, by omega, ⟨by omega, ns hI.2 hx (hxy ▸ hy)⟩, ⟨⟨rfl, rfl⟩, zF, zB, zN, zX⟩⟩
 try replace hc := of_decide_eq_false hc
 refine co ?_
 refine K5 _ ?_
 refine yS fun _ K12 => ?_
 refine yR ?_
 refine yA rfl rfl ?_
 refine yN ?_
 dsimp only [St.put]
 refine K12 _ ?_
 refine bk ?_
 refine bo rfl (by constructor) zN zS ?_
 exact vb (by
  have h1 := hI.2
  rw [dd (by omega), dd (by omega)] at h1
  simp [h1])
end Go.Proofs.YthboenlglkmnjaaDoor
namespace Go.AB
open Go Go.RowKit
open Go.AB.Enc (cells)
open Go.PB (Chap bd PlaceD bh CopyD bw)
/-- Data that are read as they are. -/
class FlatV (α : Type) [Enc α] where
 vals : α → List Value
 eq : ∀ x, cells x = (vals x).map C.v
theorem FlatV.agg {α : Type} [Enc α] [FlatV α] {E : Env} {w : World} {x : α} {v : Value} (h : R E w (.agg (cells x)) v) : v = .agg (FlatV.vals x).toArray := by
 rw [FlatV.eq] at h
 obtain ⟨vs, rfl, h1, _⟩ := h.agg_inv
 congr 2
 apply List.ext_getElem?
 intro j
 have hl := h1.1
 simp only [List.length_map] at hl
 by_cases hj : j < (FlatV.vals x).length
 ·have h2 := h1.2 j (.v (FlatV.vals x)[j]) vs[j] (by rw [List.getElem?_map, List.getElem?_eq_getElem hj]; rfl) (List.getElem?_eq_getElem (by omega))
  rw [List.getElem?_eq_getElem (by omega), List.getElem?_eq_getElem hj, h2.v_inv]
 ·rw [List.getElem?_eq_none (by omega), List.getElem?_eq_none (by omega)]
class EqT (P : Program) (t : TypeId) (α : Type) [Enc α] [FlatV α] [DecidableEq α] : Prop where
 guard : ∀ (op : BinOp) (w : World) (X Y : Operand) (xs ys : Array Value), (eqGuard op t X Y (.agg xs) (.agg ys)).run P w = .ok () w
 same : ∀ (w : World) (x y : α), (Op.equalIn 10000 t (.agg (FlatV.vals x).toArray) (.agg (FlatV.vals y).toArray)).run P w = .ok (decide (x = y)) w
section
variable {P : Program} {o : Oper} {st : St}
theorem sd {α : Type} [Enc α] [FlatV α] [DecidableEq α] {t t' : TypeId} [EqT P t α] {X Y : Operand} {x y : α} (ho : o.op = .binOp .eql t X Y t') (hx : evC st X = .agg (cells x)) (hy : evC st Y = .agg (cells y)) : NStep P o st (.v (.bool (decide (x = y)))) := fun E w a hs => by
 have e1 := (hx ▸ hs.ev X).agg_inv
 have e1 := FlatV.agg (hx ▸ hs.ev X)
 have e2 := FlatV.agg (hy ▸ hs.ev Y)
 refine ⟨_, .v rfl, fun w' => ?_⟩
 have hg := EqT.guard (P := P) (t := t) (α := α) .eql w' X Y (FlatV.vals x).toArray (FlatV.vals y).toArray
 have hq := EqT.same (P := P) (t := t) w' x y
 have hb : binOp .eql t (.agg (FlatV.vals x).toArray) (.agg (FlatV.vals y).toArray) = (do pure (.bool (← Op.equal t (.agg (FlatV.vals x).toArray) (.agg (FlatV.vals y).toArray))) : Sem Value) := rfl
 simp only [execOp, ho, e1, e2, Sem.run_bind, hg, Result.andThen_ok, hb, Op.equal, Op.maxDepth, hq]
 rfl
theorem v9 {α : Type} [Enc α] [FlatV α] [DecidableEq α] {t t' : TypeId} [EqT P t α] {X Y : Operand} {x y : α} (ho : o.op = .binOp .neq t X Y t') (hx : evC st X = .agg (cells x)) (hy : evC st Y = .agg (cells y)) : NStep P o st (.v (.bool (!decide (x = y)))) := fun E w a hs => by
 have e1 := FlatV.agg (hx ▸ hs.ev X)
 have e2 := FlatV.agg (hy ▸ hs.ev Y)
 refine ⟨_, .v rfl, fun w' => ?_⟩
 have hg := EqT.guard (P := P) (t := t) (α := α) .neq w' X Y (FlatV.vals x).toArray (FlatV.vals y).toArray
 have hq := EqT.same (P := P) (t := t) w' x y
 have hb : binOp .neq t (.agg (FlatV.vals x).toArray) (.agg (FlatV.vals y).toArray) = (do pure (.bool (!(← Op.equal t (.agg (FlatV.vals x).toArray) (.agg (FlatV.vals y).toArray)))) : Sem Value) := rfl
 simp only [execOp, ho, e1, e2, Sem.run_bind, hg, Result.andThen_ok, hb, Op.equal, Op.maxDepth, hq]
 rfl
end
instance : FlatV PlaceD := ⟨fun x => [.int .i64 x.ch, .int .i64 x.ln, .int .i64 x.wd], fun _ => rfl⟩
instance : FlatV bh := ⟨fun x => [.int .i64 x.pl.ch, .int .i64 x.pl.ln, .int .i64 x.pl.wd, .int .u8 x.kind, .string x.word], fun _ => rfl⟩
end Go.AB

namespace Go.Proofs.YthboenlglkmnjaaDoor
open Go Go.RowKit Go.AB
open Go.AB.Enc (cells)
open Go.PB (Chap bd PlaceD bh CopyD bw)
theorem tz : Tryd.prog.underlying 29 = some (.struct (Tryd.prog.fieldsOf 29)) := by kernel_rfl
theorem ud : Tryd.prog.stoodInHeld 29 = false := by kernel_rfl
instance : EqT Tryd.prog 29 PlaceD where
 guard op w x y xs ys := run_eqGuard_agg w op _ x y xs ys (by kernel_rfl)
 same w x y := by
  obtain ⟨a, b, c⟩ := x
  obtain ⟨a', b', c'⟩ := y
  simp only [FlatV.vals]
  rw [run_equalIn_agg _ _ _ _ _ tz ud]
  by_cases h1 : a = a' <;> by_cases h2 : b = b' <;> by_cases h3 : c = c' <;> simp [go_sem, h1, h2, h3]
theorem zt : Tryd.prog.underlying 60 = some (.struct (Tryd.prog.fieldsOf 60)) := by kernel_rfl
theorem uac : Tryd.prog.stoodInHeld 60 = false := by kernel_rfl
@[go_sem ↓] theorem same_place (w : World) (a b c a' b' c' : Int) :
  (Op.equalIn 9999 29 (.agg #[.int .i64 a, .int .i64 b, .int .i64 c]) (.agg #[.int .i64 a', .int .i64 b', .int .i64 c'])).run Tryd.prog w = .ok (decide (PlaceD.mk a b c = PlaceD.mk a' b' c')) w := by
 rw [run_equalIn_agg _ _ _ _ _ tz ud]
 by_cases h1 : a = a' <;> by_cases h2 : b = b' <;> by_cases h3 : c = c' <;> simp [go_sem, h1, h2, h3]
instance : EqT Tryd.prog 60 bh where
 guard op w x y xs ys := run_eqGuard_agg w op _ x y xs ys (by kernel_rfl)
 same w x y := by
  obtain ⟨⟨a, b, c⟩, k, s⟩ := x
  obtain ⟨⟨a', b', c'⟩, k', s'⟩ := y
  simp only [FlatV.vals]
  rw [run_equalIn_agg _ _ _ _ _ zt uac]
  by_cases h5 : s = s'
  ·subst h5
   by_cases h1 : a = a' <;> by_cases h2 : b = b' <;> by_cases h3 : c = c' <;> by_cases h4 : k = k' <;> simp [go_sem, h1, h2, h3, h4]
  ·have h6 : ¬ s.toList = s'.toList := fun e => h5 (toList_inj e)
   by_cases h1 : a = a' <;> by_cases h2 : b = b' <;> by_cases h3 : c = c' <;> by_cases h4 : k = k' <;> simp [go_sem, h1, h2, h3, h4, h5, h6]
end Go.Proofs.YthboenlglkmnjaaDoor
namespace Go.Proofs.YthboenlglkmnjaaDoor
set_option maxRecDepth 10000
open Go.RowKit Go.AB
open Go.PB (Chap bd PlaceD bh CopyD bw)

theorem uft (a b : CopyD) : Pure Tryd.prog 18 [val a, val b] (.v (.bool (decide (a = b)))) := by
 refine cx Tryd.func18 rfl (fun m => .v) fun G nx => ?_
 simp only [Tryd.ntmps18, List.length_cons, List.length_nil, Nat.reduceAdd, Nat.reduceSub]
 refine b9 fun hlt => ?_
 dsimp only at hlt
 refine fj 0 (fun hf => ?_)
 have hf' : a.rs.length ≤ 9223372036854775807 := by
  have := fit_agg.1 hf _ (List.mem_cons_of_mem _ (List.mem_cons_self ..))
  exact (fit_lst.1 this).1
 clear hf
 refine aj fun K1 hK1 => ?_
 refine aq ?_
 try dsimp only [St.put]
 refine av rfl (cw rfl rfl (by simp) ?_)
 try dsimp only [St.put]
 refine av rfl (cw rfl rfl (by simp) ?_)
 refine ae rfl (ax rfl (by constructor)) ?_
 refine am ?_
 dsimp only [St.put]
 refine hK1 _ ?_
 refine aj fun K2 hK2 => ?_
 refine aj fun K3 hK3 => ?_
 refine aq ?_
 first | refine ae rfl (bg rfl rfl rfl) ?_ | refine ae rfl (bi rfl rfl) ?_
 try dsimp only [St.put]
 first | refine aa rfl (aw rfl rfl) ?_ | refine aa rfl (ah rfl rfl (Enc.len _)) ?_ | refine aa rfl (ah rfl rfl rfl) ?_ | refine aa rfl (a7 rfl rfl zG trivial (by first | rfl | assumption)) ?_ | refine aa rfl (az rfl rfl zG trivial (by rfl)) ?_ | refine aa rfl (a8 rfl rfl zG trivial (by simp)) ?_ | refine aa rfl (ai rfl rfl zG trivial (ay (by assumption) rfl)) ?_ | refine aa rfl (ai rfl rfl zG trivial (by assumption)) ?_ | refine aa rfl (a9 rfl rfl zG trivial rfl (by assumption) rfl (by decide)) ?_ | refine aa rfl (ba rfl rfl zG (by rfl)) ?_
 first | refine ae rfl (bg rfl rfl rfl) ?_ | refine ae rfl (bi rfl rfl) ?_
 try dsimp only [St.put]
 first | refine aa rfl (aw rfl rfl) ?_ | refine aa rfl (ah rfl rfl (Enc.len _)) ?_ | refine aa rfl (ah rfl rfl rfl) ?_ | refine aa rfl (a7 rfl rfl zG trivial (by first | rfl | assumption)) ?_ | refine aa rfl (az rfl rfl zG trivial (by rfl)) ?_ | refine aa rfl (a8 rfl rfl zG trivial (by simp)) ?_ | refine aa rfl (ai rfl rfl zG trivial (ay (by assumption) rfl)) ?_ | refine aa rfl (ai rfl rfl zG trivial (by assumption)) ?_ | refine aa rfl (a9 rfl rfl zG trivial rfl (by assumption) rfl (by decide)) ?_ | refine aa rfl (ba rfl rfl zG (by rfl)) ?_
 refine ae rfl (em rfl rfl rfl) ?_
 refine et (fun hs => ?_) (fun hs => ?_)
 ·try replace hs := of_decide_eq_true hs
  refine ae rfl (ar rfl (by constructor)) ?_
  refine bv rfl ?_
  refine bv rfl ?_
  refine bv rfl ?_
  refine bv rfl ?_
  refine bv rfl ?_
  refine bv rfl ?_
  refine bv rfl ?_
  first | refine ae rfl (bt rfl rfl (by constructor)) ?_ | refine ae rfl (bu rfl rfl (by constructor)) ?_ | refine ae rfl (b7 rfl rfl rfl rfl) ?_ | refine ae rfl (bz rfl rfl rfl rfl) ?_
  refine am ?_
  dsimp only [St.put]
  refine hK3 _ ?_
  refine bl rfl (fun _ => ?_) (fun h => by cases h)
  refine aj fun K4 hK4 => ?_
  refine aq ?_
  refine ae rfl (ax rfl (by constructor)) ?_
  refine am ?_
  dsimp only [St.put]
  refine hK4 _ ?_
  refine bk ?_
  refine bo rfl (by constructor) zN zS ?_
  exact vb (by
   have : a ≠ b := fun e => by subst e; simp_all
   simp [this])
 ·try replace hs := of_decide_eq_false hs
  refine ae rfl (ar rfl (by constructor)) ?_
  first | refine ae rfl (bg rfl rfl rfl) ?_ | refine ae rfl (bi rfl rfl) ?_
  try dsimp only [St.put]
  first | refine aa rfl (aw rfl rfl) ?_ | refine aa rfl (ah rfl rfl (Enc.len _)) ?_ | refine aa rfl (ah rfl rfl rfl) ?_ | refine aa rfl (a7 rfl rfl zG trivial (by first | rfl | assumption)) ?_ | refine aa rfl (az rfl rfl zG trivial (by rfl)) ?_ | refine aa rfl (a8 rfl rfl zG trivial (by simp)) ?_ | refine aa rfl (ai rfl rfl zG trivial (ay (by assumption) rfl)) ?_ | refine aa rfl (ai rfl rfl zG trivial (by assumption)) ?_ | refine aa rfl (a9 rfl rfl zG trivial rfl (by assumption) rfl (by decide)) ?_ | refine aa rfl (ba rfl rfl zG (by rfl)) ?_
  first | refine ae rfl (bj rfl rfl (List.length_map _)) ?_ | refine ae rfl (bj rfl rfl rfl) ?_ | refine ae rfl (b8 rfl rfl) ?_ | refine ae rfl (cd rfl rfl) ?_ | refine ae rfl (cb rfl rfl) ?_ | refine ae rfl (ca rfl rfl (by omega)) ?_
  first | refine ae rfl (bg rfl rfl rfl) ?_ | refine ae rfl (bi rfl rfl) ?_
  try dsimp only [St.put]
  first | refine aa rfl (aw rfl rfl) ?_ | refine aa rfl (ah rfl rfl (Enc.len _)) ?_ | refine aa rfl (ah rfl rfl rfl) ?_ | refine aa rfl (a7 rfl rfl zG trivial (by first | rfl | assumption)) ?_ | refine aa rfl (az rfl rfl zG trivial (by rfl)) ?_ | refine aa rfl (a8 rfl rfl zG trivial (by simp)) ?_ | refine aa rfl (ai rfl rfl zG trivial (ay (by assumption) rfl)) ?_ | refine aa rfl (ai rfl rfl zG trivial (by assumption)) ?_ | refine aa rfl (a9 rfl rfl zG trivial rfl (by assumption) rfl (by decide)) ?_ | refine aa rfl (ba rfl rfl zG (by rfl)) ?_
  first | refine ae rfl (bj rfl rfl (List.length_map _)) ?_ | refine ae rfl (bj rfl rfl rfl) ?_ | refine ae rfl (b8 rfl rfl) ?_ | refine ae rfl (cd rfl rfl) ?_ | refine ae rfl (cb rfl rfl) ?_ | refine ae rfl (ca rfl rfl (by omega)) ?_
  refine ae rfl (em rfl rfl rfl) ?_
  first | refine ae rfl (bt rfl rfl (by constructor)) ?_ | refine ae rfl (bu rfl rfl (by constructor)) ?_ | refine ae rfl (b7 rfl rfl rfl rfl) ?_ | refine ae rfl (bz rfl rfl rfl rfl) ?_
  refine am ?_
  dsimp only [St.put]
  refine hK3 _ ?_
  refine bl rfl (fun hc => ?_) (fun hc => ?_)
  ·try replace hc := of_decide_eq_true hc
   refine aj fun K5 hK5 => ?_
   refine aq ?_
   refine ae rfl (ax rfl (by constructor)) ?_
   refine am ?_
   dsimp only [St.put]
   refine hK5 _ ?_
   refine bk ?_
   refine bo rfl (by constructor) zN zS ?_
   exact vb (by
    have : a ≠ b := fun e => by subst e; simp_all
    simp [this])
  ·replace hc := ff hc
   replace hs := ff hs
   refine bn ?_
   refine hK2 _ ?_
   refine aj fun K6 hK6 => ?_
   refine aj fun K7 hK7 => ?_
   refine aq ?_
   refine ae rfl (ax rfl (by constructor)) ?_
   refine am ?_
   dsimp only [St.put]
   refine hK7 _ ?_
   refine bq ?_
   refine cg 6 ?_
   refine zQ ?_
   refine cn (G) zX ?_
   dsimp only
   refine cz (X := Nat) (fun k => k ≤ a.rs.length ∧ a.rs.take k = b.rs.take k) (fun k => a.rs.length - k) (fun k => [(5, .v (.int .i64 (k : Int)))]) (fun k G' => G') 0 rfl ?_ ?_ (fun _ _ h => h) ?_ ?_ ?_
   ·exact ⟨by simp, by simp⟩
   ·exact zF
   ·rintro k hI
    exact zL
   ·exact fun _ _ _ _ h => .inl h
   ·rintro k hI
    dsimp only at hI ⊢
    refine aj fun K8 hK8 => ?_
    refine aj fun K9 hK9 => ?_
    refine aq ?_
    refine ae rfl (ar rfl (by constructor)) ?_
    first | refine ae rfl (bg rfl rfl rfl) ?_ | refine ae rfl (bi rfl rfl) ?_
    try dsimp only [St.put]
    first | refine aa rfl (aw rfl rfl) ?_ | refine aa rfl (ah rfl rfl (Enc.len _)) ?_ | refine aa rfl (ah rfl rfl rfl) ?_ | refine aa rfl (a7 rfl rfl zG trivial (by first | rfl | assumption)) ?_ | refine aa rfl (az rfl rfl zG trivial (by rfl)) ?_ | refine aa rfl (a8 rfl rfl zG trivial (by simp)) ?_ | refine aa rfl (ai rfl rfl zG trivial (ay (by assumption) rfl)) ?_ | refine aa rfl (ai rfl rfl zG trivial (by assumption)) ?_ | refine aa rfl (a9 rfl rfl zG trivial rfl (by assumption) rfl (by decide)) ?_ | refine aa rfl (ba rfl rfl zG (by rfl)) ?_
    first | refine ae rfl (bj rfl rfl (List.length_map _)) ?_ | refine ae rfl (bj rfl rfl rfl) ?_ | refine ae rfl (b8 rfl rfl) ?_ | refine ae rfl (cd rfl rfl) ?_ | refine ae rfl (cb rfl rfl) ?_ | refine ae rfl (ca rfl rfl (by omega)) ?_
    refine ae rfl (cj rfl rfl rfl) ?_
    refine am ?_
    dsimp only [St.put]
    refine hK9 _ ?_
    refine bl rfl (fun hc => ?_) (fun hc => ?_)
    ·replace hc := of_decide_eq_true hc
     obtain ⟨x, hx⟩ : ∃ x, a.rs[k]? = some x := cm (by omega)
     obtain ⟨y, hy⟩ : ∃ y, b.rs[k]? = some y := cm (by omega)
     refine bn ?_
     refine hK8 _ ?_
     refine aj fun K10 hK10 => ?_
     refine bq ?_
     refine aj fun K11 hK11 => ?_
     refine fw [(0, none), (1, none), (2, none), (3, none), (4, none), (5, none), (6, none), (7, none), (8, none), (9, none), (10, none)] (fun i => [].contains i) (fun i => [].contains i) (fun i => [0, 2, 3, 5, 7, 8, 10].contains i) [] (by kernel_rfl) (by kernel_rfl) ?_
     first | refine ak rfl rfl rfl rfl (bg rfl rfl rfl) ?_ | refine ak rfl rfl rfl rfl (bi rfl rfl) ?_
     try dsimp only [St.put]
     first | refine af rfl rfl rfl rfl (aw rfl rfl) ?_ | refine af rfl rfl rfl rfl (ah rfl rfl (Enc.len _)) ?_ | refine af rfl rfl rfl rfl (ah rfl rfl rfl) ?_ | refine af rfl rfl rfl rfl (a7 rfl rfl zG (by simp) (by first | rfl | assumption)) ?_ | refine af rfl rfl rfl rfl (az rfl rfl zG (by simp) (by rfl)) ?_ | refine af rfl rfl rfl rfl (a8 rfl rfl zG (by simp) (by simp)) ?_ | refine af rfl rfl rfl rfl (ai rfl rfl zG (by simp) (ay (by assumption) rfl)) ?_ | refine af rfl rfl rfl rfl (ai rfl rfl zG (by simp) (by assumption)) ?_ | refine af rfl rfl rfl rfl (a9 rfl rfl zG (by simp) rfl (by assumption) rfl (by decide)) ?_ | refine af rfl rfl rfl rfl (ba rfl rfl zG (by rfl)) ?_
     refine ak rfl rfl rfl rfl (ar rfl (by constructor)) ?_
     try dsimp only [St.put]
     first | refine ak rfl rfl rfl rfl (bf rfl rfl rfl rfl (bm (by assumption)) (Enc.len _)) ?_ | refine ak rfl rfl rfl rfl (bf rfl rfl rfl rfl (by assumption) rfl) ?_ | refine ak rfl rfl rfl rfl (cr rfl rfl rfl (by first | exact ct _ | exact rfl) (by omega)) ?_ | refine ak rfl rfl rfl rfl (bf rfl rfl rfl (by omega) (bm (by assumption)) (Enc.len _)) ?_
     try dsimp only [St.put]
     first | refine af rfl rfl rfl rfl (aw rfl rfl) ?_ | refine af rfl rfl rfl rfl (ah rfl rfl (Enc.len _)) ?_ | refine af rfl rfl rfl rfl (ah rfl rfl rfl) ?_ | refine af rfl rfl rfl rfl (a7 rfl rfl zG (by simp) (by first | rfl | assumption)) ?_ | refine af rfl rfl rfl rfl (az rfl rfl zG (by simp) (by rfl)) ?_ | refine af rfl rfl rfl rfl (a8 rfl rfl zG (by simp) (by simp)) ?_ | refine af rfl rfl rfl rfl (ai rfl rfl zG (by simp) (ay (by assumption) rfl)) ?_ | refine af rfl rfl rfl rfl (ai rfl rfl zG (by simp) (by assumption)) ?_ | refine af rfl rfl rfl rfl (a9 rfl rfl zG (by simp) rfl (by assumption) rfl (by decide)) ?_ | refine af rfl rfl rfl rfl (ba rfl rfl zG (by rfl)) ?_
     first | refine ak rfl rfl rfl rfl (bg rfl rfl rfl) ?_ | refine ak rfl rfl rfl rfl (bi rfl rfl) ?_
     try dsimp only [St.put]
     first | refine af rfl rfl rfl rfl (aw rfl rfl) ?_ | refine af rfl rfl rfl rfl (ah rfl rfl (Enc.len _)) ?_ | refine af rfl rfl rfl rfl (ah rfl rfl rfl) ?_ | refine af rfl rfl rfl rfl (a7 rfl rfl zG (by simp) (by first | rfl | assumption)) ?_ | refine af rfl rfl rfl rfl (az rfl rfl zG (by simp) (by rfl)) ?_ | refine af rfl rfl rfl rfl (a8 rfl rfl zG (by simp) (by simp)) ?_ | refine af rfl rfl rfl rfl (ai rfl rfl zG (by simp) (ay (by assumption) rfl)) ?_ | refine af rfl rfl rfl rfl (ai rfl rfl zG (by simp) (by assumption)) ?_ | refine af rfl rfl rfl rfl (a9 rfl rfl zG (by simp) rfl (by assumption) rfl (by decide)) ?_ | refine af rfl rfl rfl rfl (ba rfl rfl zG (by rfl)) ?_
     refine ak rfl rfl rfl rfl (ar rfl (by constructor)) ?_
     try dsimp only [St.put]
     first | refine ak rfl rfl rfl rfl (bf rfl rfl rfl rfl (bm (by assumption)) (Enc.len _)) ?_ | refine ak rfl rfl rfl rfl (bf rfl rfl rfl rfl (by assumption) rfl) ?_ | refine ak rfl rfl rfl rfl (cr rfl rfl rfl (by first | exact ct _ | exact rfl) (by omega)) ?_ | refine ak rfl rfl rfl rfl (bf rfl rfl rfl (by omega) (bm (by assumption)) (Enc.len _)) ?_
     try dsimp only [St.put]
     first | refine af rfl rfl rfl rfl (aw rfl rfl) ?_ | refine af rfl rfl rfl rfl (ah rfl rfl (Enc.len _)) ?_ | refine af rfl rfl rfl rfl (ah rfl rfl rfl) ?_ | refine af rfl rfl rfl rfl (a7 rfl rfl zG (by simp) (by first | rfl | assumption)) ?_ | refine af rfl rfl rfl rfl (az rfl rfl zG (by simp) (by rfl)) ?_ | refine af rfl rfl rfl rfl (a8 rfl rfl zG (by simp) (by simp)) ?_ | refine af rfl rfl rfl rfl (ai rfl rfl zG (by simp) (ay (by assumption) rfl)) ?_ | refine af rfl rfl rfl rfl (ai rfl rfl zG (by simp) (by assumption)) ?_ | refine af rfl rfl rfl rfl (a9 rfl rfl zG (by simp) rfl (by assumption) rfl (by decide)) ?_ | refine af rfl rfl rfl rfl (ba rfl rfl zG (by rfl)) ?_
     refine ak rfl rfl rfl rfl (v9 rfl rfl rfl) ?_
     refine dc ?_
     dsimp only [St.put]
     refine hK11 _ ?_
     refine bl rfl (fun hc => ?_) (fun hc => ?_)
     ·try replace hc := of_decide_eq_true hc
      refine aj fun K12 hK12 => ?_
      refine aq ?_
      refine ae rfl (ax rfl (by constructor)) ?_
      refine am ?_
      dsimp only [St.put]
      refine hK12 _ ?_
      refine bk ?_
      refine bo rfl (by constructor) zN zS ?_
      exact vb (by
       have := mc hx hy (gn hc)
       have h2 : a ≠ b := fun e => this (congrArg CopyD.rs e)
       simp [h2])
     ·have hxy := ff hc
      refine bn ?_
      refine hK10 _ ?_
      refine aq ?_
      refine ae rfl (ar rfl (by constructor)) ?_
      first | refine ae rfl (bx rfl rfl rfl (by omega)) ?_ | refine ae rfl (cp rfl rfl rfl) ?_
      refine ae rfl (ax rfl (by constructor)) ?_
      refine am ?_
      dsimp only [St.put]
      exact ⟨k + 1, by omega, ⟨by omega, ns hI.2 hx (hxy ▸ hy)⟩, ⟨⟨rfl, rfl⟩, zF, zB, zN, zX⟩⟩
    ·try replace hc := of_decide_eq_false hc
     refine co ?_
     refine hK6 _ ?_
     refine aj fun K13 hK13 => ?_
     refine aq ?_
     refine ae rfl (ax rfl (by constructor)) ?_
     refine am ?_
     dsimp only [St.put]
     refine hK13 _ ?_
     refine bk ?_
     refine bo rfl (by constructor) zN zS ?_
     exact vb (by
      have h1 := hI.2
      rw [dd (by omega), dd (by omega)] at h1
      cases a; cases b; simp_all)


theorem uf1 (t : bd) : Pure Tryd.prog 4 [dn t] (.v (.bool (kf t))) := by
 refine cx Tryd.func4 rfl (fun m => .v) fun G nx => ?_
 simp only [Tryd.ntmps4, List.length_cons, List.length_nil, Nat.reduceAdd, Nat.reduceSub]
 refine b9 fun hlt => ?_
 dsimp only at hlt
 refine fj 0 (fun hf => ?_)
 replace hf := nr hf
 refine aj fun K1 hK1 => ?_
 refine aq ?_
 try dsimp only [St.put]
 refine av rfl (cw rfl rfl (by simp) ?_)
 refine ae rfl (ax rfl (by constructor)) ?_
 refine am ?_
 dsimp only [St.put]
 refine hK1 _ ?_
 refine aj fun K2 hK2 => ?_
 refine aj fun K3 hK3 => ?_
 refine aq ?_
 first | refine ae rfl (bg rfl rfl rfl) ?_ | refine ae rfl (bi rfl rfl) ?_
 try dsimp only [St.put]
 first | refine aa rfl (aw rfl rfl) ?_ | refine aa rfl (ah rfl rfl (Enc.len _)) ?_ | refine aa rfl (ah rfl rfl rfl) ?_ | refine aa rfl (a7 rfl rfl zG trivial (by first | rfl | assumption)) ?_ | refine aa rfl (az rfl rfl zG trivial (by rfl)) ?_ | refine aa rfl (a8 rfl rfl zG trivial (by simp)) ?_ | refine aa rfl (ai rfl rfl zG trivial (ay (by assumption) rfl)) ?_ | refine aa rfl (ai rfl rfl zG trivial (by assumption)) ?_ | refine aa rfl (a9 rfl rfl zG trivial rfl (by assumption) rfl (by decide)) ?_ | refine aa rfl (ba rfl rfl zG (by rfl)) ?_
 first | refine ae rfl (bj rfl rfl (List.length_map _)) ?_ | refine ae rfl (bj rfl rfl rfl) ?_ | refine ae rfl (b8 rfl rfl) ?_ | refine ae rfl (cd rfl rfl) ?_ | refine ae rfl (cb rfl rfl) ?_ | refine ae rfl (ca rfl rfl (by omega)) ?_
 refine ae rfl (g7 rfl rfl rfl) ?_
 refine am ?_
 dsimp only [St.put]
 refine hK3 _ ?_
 refine bl rfl (fun hc => ?_) (fun hc => ?_)
 ·skip
  refine aj fun K4 hK4 => ?_
  refine aq ?_
  refine ae rfl (ax rfl (by constructor)) ?_
  refine am ?_
  dsimp only [St.put]
  refine hK4 _ ?_
  refine bk ?_
  refine bo rfl (by constructor) zN zS ?_
  exact vb (by have := of_decide_eq_true (hc : decide _ = true); simp [kf]; omega)
 ·replace hc := of_decide_eq_false hc
  refine bn ?_
  refine hK2 _ ?_
  refine aj fun K5 hK5 => ?_
  refine aj fun K6 hK6 => ?_
  refine aq ?_
  refine ae rfl (ax rfl (by constructor)) ?_
  refine am ?_
  dsimp only [St.put]
  refine hK6 _ ?_
  refine bq ?_
  refine cg 6 ?_
  refine zQ ?_
  refine cn (G) zX ?_
  dsimp only
  refine cz (X := Nat) (fun k => k ≤ t.length ∧ (t.take k).any ke = false) (fun k => t.length - k) (fun k => [(3, .v (.int .i64 (k : Int))), (4, .any), (5, .any)]) (fun k G' => G') 0 rfl ?_ ?_ (fun _ _ h => h) ?_ ?_ ?_
  ·exact ⟨by simp, by simp⟩
  ·exact zF
  ·rintro k hI
   exact zL
  ·exact fun _ _ _ _ h => .inl h
  ·rintro k hI
   dsimp only at hI ⊢
   refine aj fun K7 hK7 => ?_
   refine aj fun K8 hK8 => ?_
   refine aq ?_
   refine ae rfl (ar rfl (by constructor)) ?_
   first | refine ae rfl (bg rfl rfl rfl) ?_ | refine ae rfl (bi rfl rfl) ?_
   try dsimp only [St.put]
   first | refine aa rfl (aw rfl rfl) ?_ | refine aa rfl (ah rfl rfl (Enc.len _)) ?_ | refine aa rfl (ah rfl rfl rfl) ?_ | refine aa rfl (a7 rfl rfl zG trivial (by first | rfl | assumption)) ?_ | refine aa rfl (az rfl rfl zG trivial (by rfl)) ?_ | refine aa rfl (a8 rfl rfl zG trivial (by simp)) ?_ | refine aa rfl (ai rfl rfl zG trivial (ay (by assumption) rfl)) ?_ | refine aa rfl (ai rfl rfl zG trivial (by assumption)) ?_ | refine aa rfl (a9 rfl rfl zG trivial rfl (by assumption) rfl (by decide)) ?_ | refine aa rfl (ba rfl rfl zG (by rfl)) ?_
   first | refine ae rfl (bj rfl rfl (List.length_map _)) ?_ | refine ae rfl (bj rfl rfl rfl) ?_ | refine ae rfl (b8 rfl rfl) ?_ | refine ae rfl (cd rfl rfl) ?_ | refine ae rfl (cb rfl rfl) ?_ | refine ae rfl (ca rfl rfl (by omega)) ?_
   refine ae rfl (cj rfl rfl rfl) ?_
   refine am ?_
   dsimp only [St.put]
   refine hK8 _ ?_
   refine bl rfl (fun hc => ?_) (fun hc => ?_)
   ·replace hc := of_decide_eq_true hc
    obtain ⟨c, hx⟩ : ∃ x, t[k]? = some x := cm (by omega)
    have hf1 := hf.lines c (dv hx)
    have hf0 := hf.len
    refine bn ?_
    refine hK7 _ ?_
    refine aj fun K9 hK9 => ?_
    refine bq ?_
    refine aj fun K10 hK10 => ?_
    refine aj fun K11 hK11 => ?_
    refine aq ?_
    first | refine ae rfl (bg rfl rfl rfl) ?_ | refine ae rfl (bi rfl rfl) ?_
    try dsimp only [St.put]
    first | refine aa rfl (aw rfl rfl) ?_ | refine aa rfl (ah rfl rfl (Enc.len _)) ?_ | refine aa rfl (ah rfl rfl rfl) ?_ | refine aa rfl (a7 rfl rfl zG trivial (by first | rfl | assumption)) ?_ | refine aa rfl (az rfl rfl zG trivial (by rfl)) ?_ | refine aa rfl (a8 rfl rfl zG trivial (by simp)) ?_ | refine aa rfl (ai rfl rfl zG trivial (ay (by assumption) rfl)) ?_ | refine aa rfl (ai rfl rfl zG trivial (by assumption)) ?_ | refine aa rfl (a9 rfl rfl zG trivial rfl (by assumption) rfl (by decide)) ?_ | refine aa rfl (ba rfl rfl zG (by rfl)) ?_
    refine ae rfl (ar rfl (by constructor)) ?_
    try dsimp only [St.put]
    first | refine ae rfl (bf rfl rfl rfl rfl (bm (by assumption)) (Enc.len _)) ?_ | refine ae rfl (bf rfl rfl rfl rfl (by assumption) rfl) ?_ | refine ae rfl (cr rfl rfl rfl (by first | exact ct _ | exact rfl) (by omega)) ?_ | refine ae rfl (bf rfl rfl rfl (by omega) (bm (by assumption)) (Enc.len _)) ?_
    first | refine ae rfl (bg rfl rfl rfl) ?_ | refine ae rfl (bi rfl rfl) ?_
    try dsimp only [St.put]
    first | refine aa rfl (aw rfl rfl) ?_ | refine aa rfl (ah rfl rfl (Enc.len _)) ?_ | refine aa rfl (ah rfl rfl rfl) ?_ | refine aa rfl (a7 rfl rfl zG trivial (by first | rfl | assumption)) ?_ | refine aa rfl (az rfl rfl zG trivial (by rfl)) ?_ | refine aa rfl (a8 rfl rfl zG trivial (by simp)) ?_ | refine aa rfl (ai rfl rfl zG trivial (ay (by assumption) rfl)) ?_ | refine aa rfl (ai rfl rfl zG trivial (by assumption)) ?_ | refine aa rfl (a9 rfl rfl zG trivial rfl (by assumption) rfl (by decide)) ?_ | refine aa rfl (ba rfl rfl zG (by rfl)) ?_
    first | refine ae rfl (bj rfl rfl (List.length_map _)) ?_ | refine ae rfl (bj rfl rfl rfl) ?_ | refine ae rfl (b8 rfl rfl) ?_ | refine ae rfl (cd rfl rfl) ?_ | refine ae rfl (cb rfl rfl) ?_ | refine ae rfl (ca rfl rfl (by omega)) ?_
    refine ae rfl (g7 rfl rfl rfl) ?_
    refine am ?_
    dsimp only [St.put]
    refine hK11 _ ?_
    refine bl rfl (fun hc => ?_) (fun hc => ?_)
    ·skip
     refine aj fun K12 hK12 => ?_
     refine aq ?_
     refine ae rfl (ax rfl (by constructor)) ?_
     refine am ?_
     dsimp only [St.put]
     refine hK12 _ ?_
     refine bk ?_
     refine bo rfl (by constructor) zN zS ?_
     exact vb (by have h0 := of_decide_eq_true (hc : decide _ = true); have := nh (p := ke) hx (by simp [ke]; omega); simp [kf, this])
    ·have h15 := of_decide_eq_false hc
     refine bn ?_
     refine hK10 _ ?_
     refine aj fun K13 hK13 => ?_
     refine aq ?_
     refine ae rfl (ax rfl (by constructor)) ?_
     refine am ?_
     dsimp only [St.put]
     refine hK13 _ ?_
     refine bq ?_
     refine cg 6 ?_
     refine zQ ?_
     refine cn (G) zX ?_
     dsimp only
     refine cz (X := Nat) (fun n => n ≤ c.lines.length ∧ (c.lines.take n).any lk = false) (fun n => c.lines.length - n) (fun n => [(4, .v (.int .i64 (n : Int))), (5, .any)]) (fun n G' => G') 0 rfl ?_ ?_ (fun _ _ h => h) ?_ ?_ ?_
     ·exact ⟨by simp, by simp⟩
     ·exact zF
     ·rintro n hI
      exact zL
     ·exact fun _ _ _ _ h => .inl h
     ·rintro n hJ
      dsimp only at hJ ⊢
      refine aj fun K14 hK14 => ?_
      refine aj fun K15 hK15 => ?_
      refine aq ?_
      refine ae rfl (ar rfl (by constructor)) ?_
      first | refine ae rfl (bg rfl rfl rfl) ?_ | refine ae rfl (bi rfl rfl) ?_
      try dsimp only [St.put]
      first | refine aa rfl (aw rfl rfl) ?_ | refine aa rfl (ah rfl rfl (Enc.len _)) ?_ | refine aa rfl (ah rfl rfl rfl) ?_ | refine aa rfl (a7 rfl rfl zG trivial (by first | rfl | assumption)) ?_ | refine aa rfl (az rfl rfl zG trivial (by rfl)) ?_ | refine aa rfl (a8 rfl rfl zG trivial (by simp)) ?_ | refine aa rfl (ai rfl rfl zG trivial (ay (by assumption) rfl)) ?_ | refine aa rfl (ai rfl rfl zG trivial (by assumption)) ?_ | refine aa rfl (a9 rfl rfl zG trivial rfl (by assumption) rfl (by decide)) ?_ | refine aa rfl (ba rfl rfl zG (by rfl)) ?_
      refine ae rfl (ar rfl (by constructor)) ?_
      try dsimp only [St.put]
      first | refine ae rfl (bf rfl rfl rfl rfl (bm (by assumption)) (Enc.len _)) ?_ | refine ae rfl (bf rfl rfl rfl rfl (by assumption) rfl) ?_ | refine ae rfl (cr rfl rfl rfl (by first | exact ct _ | exact rfl) (by omega)) ?_ | refine ae rfl (bf rfl rfl rfl (by omega) (bm (by assumption)) (Enc.len _)) ?_
      first | refine ae rfl (bg rfl rfl rfl) ?_ | refine ae rfl (bi rfl rfl) ?_
      try dsimp only [St.put]
      first | refine aa rfl (aw rfl rfl) ?_ | refine aa rfl (ah rfl rfl (Enc.len _)) ?_ | refine aa rfl (ah rfl rfl rfl) ?_ | refine aa rfl (a7 rfl rfl zG trivial (by first | rfl | assumption)) ?_ | refine aa rfl (az rfl rfl zG trivial (by rfl)) ?_ | refine aa rfl (a8 rfl rfl zG trivial (by simp)) ?_ | refine aa rfl (ai rfl rfl zG trivial (ay (by assumption) rfl)) ?_ | refine aa rfl (ai rfl rfl zG trivial (by assumption)) ?_ | refine aa rfl (a9 rfl rfl zG trivial rfl (by assumption) rfl (by decide)) ?_ | refine aa rfl (ba rfl rfl zG (by rfl)) ?_
      first | refine ae rfl (bj rfl rfl (List.length_map _)) ?_ | refine ae rfl (bj rfl rfl rfl) ?_ | refine ae rfl (b8 rfl rfl) ?_ | refine ae rfl (cd rfl rfl) ?_ | refine ae rfl (cb rfl rfl) ?_ | refine ae rfl (ca rfl rfl (by omega)) ?_
      refine ae rfl (cj rfl rfl rfl) ?_
      refine am ?_
      dsimp only [St.put]
      refine hK15 _ ?_
      refine bl rfl (fun hc => ?_) (fun hc => ?_)
      ·replace hc := of_decide_eq_true hc
       obtain ⟨l, hl⟩ : ∃ x, c.lines[n]? = some x := cm (by omega)
       have hf3 := hf.words c (dv hx) l (dv hl)
       refine bn ?_
       refine hK14 _ ?_
       refine aj fun K16 hK16 => ?_
       refine bq ?_
       refine aj fun K17 hK17 => ?_
       refine aj fun K18 hK18 => ?_
       refine aq ?_
       first | refine ae rfl (bg rfl rfl rfl) ?_ | refine ae rfl (bi rfl rfl) ?_
       try dsimp only [St.put]
       first | refine aa rfl (aw rfl rfl) ?_ | refine aa rfl (ah rfl rfl (Enc.len _)) ?_ | refine aa rfl (ah rfl rfl rfl) ?_ | refine aa rfl (a7 rfl rfl zG trivial (by first | rfl | assumption)) ?_ | refine aa rfl (az rfl rfl zG trivial (by rfl)) ?_ | refine aa rfl (a8 rfl rfl zG trivial (by simp)) ?_ | refine aa rfl (ai rfl rfl zG trivial (ay (by assumption) rfl)) ?_ | refine aa rfl (ai rfl rfl zG trivial (by assumption)) ?_ | refine aa rfl (a9 rfl rfl zG trivial rfl (by assumption) rfl (by decide)) ?_ | refine aa rfl (ba rfl rfl zG (by rfl)) ?_
       refine ae rfl (ar rfl (by constructor)) ?_
       try dsimp only [St.put]
       first | refine ae rfl (bf rfl rfl rfl rfl (bm (by assumption)) (Enc.len _)) ?_ | refine ae rfl (bf rfl rfl rfl rfl (by assumption) rfl) ?_ | refine ae rfl (cr rfl rfl rfl (by first | exact ct _ | exact rfl) (by omega)) ?_ | refine ae rfl (bf rfl rfl rfl (by omega) (bm (by assumption)) (Enc.len _)) ?_
       first | refine ae rfl (bg rfl rfl rfl) ?_ | refine ae rfl (bi rfl rfl) ?_
       try dsimp only [St.put]
       first | refine aa rfl (aw rfl rfl) ?_ | refine aa rfl (ah rfl rfl (Enc.len _)) ?_ | refine aa rfl (ah rfl rfl rfl) ?_ | refine aa rfl (a7 rfl rfl zG trivial (by first | rfl | assumption)) ?_ | refine aa rfl (az rfl rfl zG trivial (by rfl)) ?_ | refine aa rfl (a8 rfl rfl zG trivial (by simp)) ?_ | refine aa rfl (ai rfl rfl zG trivial (ay (by assumption) rfl)) ?_ | refine aa rfl (ai rfl rfl zG trivial (by assumption)) ?_ | refine aa rfl (a9 rfl rfl zG trivial rfl (by assumption) rfl (by decide)) ?_ | refine aa rfl (ba rfl rfl zG (by rfl)) ?_
       refine ae rfl (ar rfl (by constructor)) ?_
       try dsimp only [St.put]
       first | refine ae rfl (bf rfl rfl rfl rfl (bm (by assumption)) (Enc.len _)) ?_ | refine ae rfl (bf rfl rfl rfl rfl (by assumption) rfl) ?_ | refine ae rfl (cr rfl rfl rfl (by first | exact ct _ | exact rfl) (by omega)) ?_ | refine ae rfl (bf rfl rfl rfl (by omega) (bm (by assumption)) (Enc.len _)) ?_
       try dsimp only [St.put]
       first | refine aa rfl (aw rfl rfl) ?_ | refine aa rfl (ah rfl rfl (Enc.len _)) ?_ | refine aa rfl (ah rfl rfl rfl) ?_ | refine aa rfl (a7 rfl rfl zG trivial (by first | rfl | assumption)) ?_ | refine aa rfl (az rfl rfl zG trivial (by rfl)) ?_ | refine aa rfl (a8 rfl rfl zG trivial (by simp)) ?_ | refine aa rfl (ai rfl rfl zG trivial (ay (by assumption) rfl)) ?_ | refine aa rfl (ai rfl rfl zG trivial (by assumption)) ?_ | refine aa rfl (a9 rfl rfl zG trivial rfl (by assumption) rfl (by decide)) ?_ | refine aa rfl (ba rfl rfl zG (by rfl)) ?_
       first | refine ae rfl (bj rfl rfl (List.length_map _)) ?_ | refine ae rfl (bj rfl rfl rfl) ?_ | refine ae rfl (b8 rfl rfl) ?_ | refine ae rfl (cd rfl rfl) ?_ | refine ae rfl (cb rfl rfl) ?_ | refine ae rfl (ca rfl rfl (by omega)) ?_
       refine ae rfl (g7 rfl rfl rfl) ?_
       refine am ?_
       dsimp only [St.put]
       refine hK18 _ ?_
       refine bl rfl (fun hc => ?_) (fun hc => ?_)
       ·skip
        refine aj fun K19 hK19 => ?_
        refine aq ?_
        refine ae rfl (ax rfl (by constructor)) ?_
        refine am ?_
        dsimp only [St.put]
        refine hK19 _ ?_
        refine bk ?_
        refine bo rfl (by constructor) zN zS ?_
        exact vb (by have h0 := of_decide_eq_true (hc : decide _ = true); have h1 := nh (p := lk) hl (by simp [lk]; omega); have := nh (p := ke) hx (by simp [ke, h1]); simp [kf, this])
       ·have h16 := of_decide_eq_false hc
        refine bn ?_
        refine hK17 _ ?_
        refine aj fun K20 hK20 => ?_
        refine aq ?_
        refine ae rfl (ax rfl (by constructor)) ?_
        refine am ?_
        dsimp only [St.put]
        refine hK20 _ ?_
        refine bq ?_
        refine cg 6 ?_
        refine zQ ?_
        refine cn (G) zX ?_
        dsimp only
        refine cz (X := Nat) (fun m => m ≤ l.length ∧ (l.take m).any (fun s => decide (40 < s.size)) = false) (fun m => l.length - m) (fun m => [(5, .v (.int .i64 (m : Int)))]) (fun m G' => G') 0 rfl ?_ ?_ (fun _ _ h => h) ?_ ?_ ?_
        ·exact ⟨by simp, by simp⟩
        ·exact zF
        ·rintro m hI
         exact zL
        ·exact fun _ _ _ _ h => .inl h
        ·rintro m hL
         dsimp only at hL ⊢
         refine aj fun K21 hK21 => ?_
         refine aj fun K22 hK22 => ?_
         refine aq ?_
         refine ae rfl (ar rfl (by constructor)) ?_
         first | refine ae rfl (bg rfl rfl rfl) ?_ | refine ae rfl (bi rfl rfl) ?_
         try dsimp only [St.put]
         first | refine aa rfl (aw rfl rfl) ?_ | refine aa rfl (ah rfl rfl (Enc.len _)) ?_ | refine aa rfl (ah rfl rfl rfl) ?_ | refine aa rfl (a7 rfl rfl zG trivial (by first | rfl | assumption)) ?_ | refine aa rfl (az rfl rfl zG trivial (by rfl)) ?_ | refine aa rfl (a8 rfl rfl zG trivial (by simp)) ?_ | refine aa rfl (ai rfl rfl zG trivial (ay (by assumption) rfl)) ?_ | refine aa rfl (ai rfl rfl zG trivial (by assumption)) ?_ | refine aa rfl (a9 rfl rfl zG trivial rfl (by assumption) rfl (by decide)) ?_ | refine aa rfl (ba rfl rfl zG (by rfl)) ?_
         refine ae rfl (ar rfl (by constructor)) ?_
         try dsimp only [St.put]
         first | refine ae rfl (bf rfl rfl rfl rfl (bm (by assumption)) (Enc.len _)) ?_ | refine ae rfl (bf rfl rfl rfl rfl (by assumption) rfl) ?_ | refine ae rfl (cr rfl rfl rfl (by first | exact ct _ | exact rfl) (by omega)) ?_ | refine ae rfl (bf rfl rfl rfl (by omega) (bm (by assumption)) (Enc.len _)) ?_
         first | refine ae rfl (bg rfl rfl rfl) ?_ | refine ae rfl (bi rfl rfl) ?_
         try dsimp only [St.put]
         first | refine aa rfl (aw rfl rfl) ?_ | refine aa rfl (ah rfl rfl (Enc.len _)) ?_ | refine aa rfl (ah rfl rfl rfl) ?_ | refine aa rfl (a7 rfl rfl zG trivial (by first | rfl | assumption)) ?_ | refine aa rfl (az rfl rfl zG trivial (by rfl)) ?_ | refine aa rfl (a8 rfl rfl zG trivial (by simp)) ?_ | refine aa rfl (ai rfl rfl zG trivial (ay (by assumption) rfl)) ?_ | refine aa rfl (ai rfl rfl zG trivial (by assumption)) ?_ | refine aa rfl (a9 rfl rfl zG trivial rfl (by assumption) rfl (by decide)) ?_ | refine aa rfl (ba rfl rfl zG (by rfl)) ?_
         refine ae rfl (ar rfl (by constructor)) ?_
         try dsimp only [St.put]
         first | refine ae rfl (bf rfl rfl rfl rfl (bm (by assumption)) (Enc.len _)) ?_ | refine ae rfl (bf rfl rfl rfl rfl (by assumption) rfl) ?_ | refine ae rfl (cr rfl rfl rfl (by first | exact ct _ | exact rfl) (by omega)) ?_ | refine ae rfl (bf rfl rfl rfl (by omega) (bm (by assumption)) (Enc.len _)) ?_
         try dsimp only [St.put]
         first | refine aa rfl (aw rfl rfl) ?_ | refine aa rfl (ah rfl rfl (Enc.len _)) ?_ | refine aa rfl (ah rfl rfl rfl) ?_ | refine aa rfl (a7 rfl rfl zG trivial (by first | rfl | assumption)) ?_ | refine aa rfl (az rfl rfl zG trivial (by rfl)) ?_ | refine aa rfl (a8 rfl rfl zG trivial (by simp)) ?_ | refine aa rfl (ai rfl rfl zG trivial (ay (by assumption) rfl)) ?_ | refine aa rfl (ai rfl rfl zG trivial (by assumption)) ?_ | refine aa rfl (a9 rfl rfl zG trivial rfl (by assumption) rfl (by decide)) ?_ | refine aa rfl (ba rfl rfl zG (by rfl)) ?_
         first | refine ae rfl (bj rfl rfl (List.length_map _)) ?_ | refine ae rfl (bj rfl rfl rfl) ?_ | refine ae rfl (b8 rfl rfl) ?_ | refine ae rfl (cd rfl rfl) ?_ | refine ae rfl (cb rfl rfl) ?_ | refine ae rfl (ca rfl rfl (by omega)) ?_
         refine ae rfl (cj rfl rfl rfl) ?_
         refine am ?_
         dsimp only [St.put]
         refine hK22 _ ?_
         refine bl rfl (fun hc => ?_) (fun hc => ?_)
         ·replace hc := of_decide_eq_true hc
          obtain ⟨s, hs⟩ : ∃ x, l[m]? = some x := cm (by omega)
          refine bn ?_
          refine hK21 _ ?_
          refine aj fun K23 hK23 => ?_
          refine bq ?_
          refine aj fun K24 hK24 => ?_
          refine aq ?_
          first | refine ae rfl (bg rfl rfl rfl) ?_ | refine ae rfl (bi rfl rfl) ?_
          try dsimp only [St.put]
          first | refine aa rfl (aw rfl rfl) ?_ | refine aa rfl (ah rfl rfl (Enc.len _)) ?_ | refine aa rfl (ah rfl rfl rfl) ?_ | refine aa rfl (a7 rfl rfl zG trivial (by first | rfl | assumption)) ?_ | refine aa rfl (az rfl rfl zG trivial (by rfl)) ?_ | refine aa rfl (a8 rfl rfl zG trivial (by simp)) ?_ | refine aa rfl (ai rfl rfl zG trivial (ay (by assumption) rfl)) ?_ | refine aa rfl (ai rfl rfl zG trivial (by assumption)) ?_ | refine aa rfl (a9 rfl rfl zG trivial rfl (by assumption) rfl (by decide)) ?_ | refine aa rfl (ba rfl rfl zG (by rfl)) ?_
          refine ae rfl (ar rfl (by constructor)) ?_
          try dsimp only [St.put]
          first | refine ae rfl (bf rfl rfl rfl rfl (bm (by assumption)) (Enc.len _)) ?_ | refine ae rfl (bf rfl rfl rfl rfl (by assumption) rfl) ?_ | refine ae rfl (cr rfl rfl rfl (by first | exact ct _ | exact rfl) (by omega)) ?_ | refine ae rfl (bf rfl rfl rfl (by omega) (bm (by assumption)) (Enc.len _)) ?_
          first | refine ae rfl (bg rfl rfl rfl) ?_ | refine ae rfl (bi rfl rfl) ?_
          try dsimp only [St.put]
          first | refine aa rfl (aw rfl rfl) ?_ | refine aa rfl (ah rfl rfl (Enc.len _)) ?_ | refine aa rfl (ah rfl rfl rfl) ?_ | refine aa rfl (a7 rfl rfl zG trivial (by first | rfl | assumption)) ?_ | refine aa rfl (az rfl rfl zG trivial (by rfl)) ?_ | refine aa rfl (a8 rfl rfl zG trivial (by simp)) ?_ | refine aa rfl (ai rfl rfl zG trivial (ay (by assumption) rfl)) ?_ | refine aa rfl (ai rfl rfl zG trivial (by assumption)) ?_ | refine aa rfl (a9 rfl rfl zG trivial rfl (by assumption) rfl (by decide)) ?_ | refine aa rfl (ba rfl rfl zG (by rfl)) ?_
          refine ae rfl (ar rfl (by constructor)) ?_
          try dsimp only [St.put]
          first | refine ae rfl (bf rfl rfl rfl rfl (bm (by assumption)) (Enc.len _)) ?_ | refine ae rfl (bf rfl rfl rfl rfl (by assumption) rfl) ?_ | refine ae rfl (cr rfl rfl rfl (by first | exact ct _ | exact rfl) (by omega)) ?_ | refine ae rfl (bf rfl rfl rfl (by omega) (bm (by assumption)) (Enc.len _)) ?_
          try dsimp only [St.put]
          first | refine aa rfl (aw rfl rfl) ?_ | refine aa rfl (ah rfl rfl (Enc.len _)) ?_ | refine aa rfl (ah rfl rfl rfl) ?_ | refine aa rfl (a7 rfl rfl zG trivial (by first | rfl | assumption)) ?_ | refine aa rfl (az rfl rfl zG trivial (by rfl)) ?_ | refine aa rfl (a8 rfl rfl zG trivial (by simp)) ?_ | refine aa rfl (ai rfl rfl zG trivial (ay (by assumption) rfl)) ?_ | refine aa rfl (ai rfl rfl zG trivial (by assumption)) ?_ | refine aa rfl (a9 rfl rfl zG trivial rfl (by assumption) rfl (by decide)) ?_ | refine aa rfl (ba rfl rfl zG (by rfl)) ?_
          refine ae rfl (ar rfl (by constructor)) ?_
          try dsimp only [St.put]
          first | refine ae rfl (bf rfl rfl rfl rfl (bm (by assumption)) (Enc.len _)) ?_ | refine ae rfl (bf rfl rfl rfl rfl (by assumption) rfl) ?_ | refine ae rfl (cr rfl rfl rfl (by first | exact ct _ | exact rfl) (by omega)) ?_ | refine ae rfl (bf rfl rfl rfl (by omega) (bm (by assumption)) (Enc.len _)) ?_
          try dsimp only [St.put]
          first | refine aa rfl (aw rfl rfl) ?_ | refine aa rfl (ah rfl rfl (Enc.len _)) ?_ | refine aa rfl (ah rfl rfl rfl) ?_ | refine aa rfl (a7 rfl rfl zG trivial (by first | rfl | assumption)) ?_ | refine aa rfl (az rfl rfl zG trivial (by rfl)) ?_ | refine aa rfl (a8 rfl rfl zG trivial (by simp)) ?_ | refine aa rfl (ai rfl rfl zG trivial (ay (by assumption) rfl)) ?_ | refine aa rfl (ai rfl rfl zG trivial (by assumption)) ?_ | refine aa rfl (a9 rfl rfl zG trivial rfl (by assumption) rfl (by decide)) ?_ | refine aa rfl (ba rfl rfl zG (by rfl)) ?_
          first | refine ae rfl (bj rfl rfl (List.length_map _)) ?_ | refine ae rfl (bj rfl rfl rfl) ?_ | refine ae rfl (b8 rfl rfl) ?_ | refine ae rfl (cd rfl rfl) ?_ | refine ae rfl (cb rfl rfl) ?_ | refine ae rfl (ca rfl rfl (by omega)) ?_
          refine ae rfl (g7 rfl rfl rfl) ?_
          refine am ?_
          dsimp only [St.put]
          refine hK24 _ ?_
          refine bl rfl (fun hc => ?_) (fun hc => ?_)
          ·skip
           refine aj fun K25 hK25 => ?_
           refine aq ?_
           refine ae rfl (ax rfl (by constructor)) ?_
           refine am ?_
           dsimp only [St.put]
           refine hK25 _ ?_
           refine bk ?_
           refine bo rfl (by constructor) zN zS ?_
           exact vb (by have h0 := of_decide_eq_true (hc : decide _ = true); have h2 : l.any (fun s => decide (40 < s.size)) = true := nh hs (by simp; omega); have h1 := nh (p := lk) hl (by simp [lk, h2]); have := nh (p := ke) hx (by simp [ke, h1]); simp [kf, this])
          ·skip
           refine bn ?_
           refine hK23 _ ?_
           refine aq ?_
           refine ae rfl (ar rfl (by constructor)) ?_
           first | refine ae rfl (bx rfl rfl rfl (by omega)) ?_ | refine ae rfl (cp rfl rfl rfl) ?_
           refine ae rfl (ax rfl (by constructor)) ?_
           refine am ?_
           dsimp only [St.put]
           exact ⟨m + 1, by omega, ⟨by omega, by rw [ng hs, hL.2]; have := of_decide_eq_false hc; simp; omega⟩, ⟨⟨rfl, rfl⟩, zF, zB, zN, zX⟩⟩
         ·try replace hc := of_decide_eq_false hc
          refine co ?_
          refine hK16 _ ?_
          refine aq ?_
          refine ae rfl (ar rfl (by constructor)) ?_
          first | refine ae rfl (bx rfl rfl rfl (by omega)) ?_ | refine ae rfl (cp rfl rfl rfl) ?_
          refine ae rfl (ax rfl (by constructor)) ?_
          refine am ?_
          dsimp only [St.put]
          exact ⟨n + 1, by omega, ⟨by omega, by rw [ng hl, hJ.2]; have h1 := hL.2; rw [dd (by omega)] at h1; simp [lk, h1]; omega⟩, ⟨⟨rfl, rfl⟩, zF, zB, zN, zX⟩⟩
      ·try replace hc := of_decide_eq_false hc
       refine co ?_
       refine hK9 _ ?_
       refine aq ?_
       refine ae rfl (ar rfl (by constructor)) ?_
       first | refine ae rfl (bx rfl rfl rfl (by omega)) ?_ | refine ae rfl (cp rfl rfl rfl) ?_
       refine ae rfl (ax rfl (by constructor)) ?_
       refine am ?_
       dsimp only [St.put]
       exact ⟨k + 1, by omega, ⟨by omega, by rw [ng hx, hI.2]; have h1 := hJ.2; rw [dd (by omega)] at h1; simp [ke, h1]; omega⟩, ⟨⟨rfl, rfl⟩, zF, zB, zN, zX⟩⟩
   ·try replace hc := of_decide_eq_false hc
    refine co ?_
    refine hK5 _ ?_
    refine aj fun K26 hK26 => ?_
    refine aq ?_
    refine ae rfl (ax rfl (by constructor)) ?_
    refine am ?_
    dsimp only [St.put]
    refine hK26 _ ?_
    refine bk ?_
    refine bo rfl (by constructor) zN zS ?_
    exact vb (by have h1 := hI.2; rw [dd (by omega)] at h1; simp [kf, h1]; omega)
structure Small (t : bd) : Prop where
 len : t.length ≤ 10
 lines : ∀ c ∈ t, c.lines.length ≤ 15
 words : ∀ c ∈ t, ∀ l ∈ c.lines, l.length ≤ 15
 size : ∀ c ∈ t, ∀ l ∈ c.lines, ∀ s ∈ l, s.size ≤ 40
theorem uab {t : bd} (h : kf t = false) : Small t := by
 simp only [kf, ke, lk, Bool.or_eq_false_iff, decide_eq_false_iff_not, List.any_eq_false, Bool.not_eq_true, Bool.or_eq_true, decide_eq_true_eq, not_or] at h
 refine ⟨by omega, fun c hc => ?_, fun c hc l hl => ?_, fun c hc l hl s hs => ?_⟩
 ·have := (h.2 c hc).1; omega
 ·have := ((h.2 c hc).2 l hl).1; omega
 ·have := ((h.2 c hc).2 l hl).2 s hs; omega
end Go.Proofs.YthboenlglkmnjaaDoor
namespace Go.Proofs.YthboenlglkmnjaaDoor
set_option maxRecDepth 10000
open Go.RowKit Go.AB
open Go.PB (Chap bd PlaceD bh CopyD bw)

theorem ufq (a b : bd) : Pure Tryd.prog 16 [dn a, dn b] (.v (.bool (decide (a = b)))) := by
 refine cx Tryd.func16 rfl (fun m => .v) fun G nx => ?_
 simp only [Tryd.ntmps16, List.length_cons, List.length_nil, Nat.reduceAdd, Nat.reduceSub]
 refine b9 fun hlt => ?_
 dsimp only at hlt
 refine fj 0 (fun hf => ?_)
 replace hf := nr hf
 have hf0 := hf.len
 refine yS fun _ K1 => ?_
 refine yR ?_
 try dsimp only [St.put]
 refine yB rfl rfl rfl ?_
 try dsimp only [St.put]
 refine yB rfl rfl rfl ?_
 refine yA rfl rfl ?_
 refine yN ?_
 dsimp only [St.put]
 refine K1 _ ?_
 refine yS fun _ K2 => ?_
 refine yS fun _ K3 => ?_
 refine yR ?_
 refine yF rfl rfl rfl rfl ?_
 refine yL rfl rfl rfl ?_
 refine ae rfl (bj rfl rfl (List.length_map _)) ?_
 refine yF rfl rfl rfl rfl ?_
 refine yL rfl rfl rfl ?_
 refine ae rfl (bj rfl rfl (List.length_map _)) ?_
 refine ae rfl (em rfl rfl rfl) ?_
 refine yN ?_
 dsimp only [St.put]
 refine K3 _ ?_
 refine bl rfl (fun hc => ?_) (fun hc => ?_)
 ·try replace hc := of_decide_eq_true hc
  refine yS fun _ K4 => ?_
  refine yR ?_
  refine yA rfl rfl ?_
  refine yN ?_
  dsimp only [St.put]
  refine K4 _ ?_
  refine bk ?_
  refine bo rfl (by constructor) zN zS ?_
  exact vb (by
   have : a ≠ b := fun e => by subst e; simp at hc
   simp [this])
 have hl := ff hc
 refine bn ?_
 refine K2 _ ?_
 refine yS fun _ K5 => ?_
 refine yS fun _ K6 => ?_
 refine yR ?_
 refine yA rfl rfl ?_
 refine yN ?_
 dsimp only [St.put]
 refine K6 _ ?_
 refine bq ?_
 refine cg 9 ?_
 refine zQ ?_
 refine cn (G) zX ?_
 dsimp only
 refine cz (X := Nat) (fun k => k ≤ a.length ∧ a.take k = b.take k) (fun k => a.length - k) (fun k => [(5, .v (.int .i64 (k : Int))), (6, .any), (7, .any), (8, .any)]) (fun k G' => G') 0 rfl ?_ ?_ (fun _ _ h => h) ?_ ?_ ?_
 ·exact ⟨by simp, by simp⟩
 ·exact zF
 ·rintro k hI
  exact zL
 ·exact fun _ _ _ _ h => .inl h
 rintro k hI
 dsimp only at hI ⊢
 refine yS fun _ K7 => ?_
 refine yS fun _ K8 => ?_
 refine yR ?_
 refine yM rfl rfl ?_
 refine yF rfl rfl rfl rfl ?_
 refine yL rfl rfl rfl ?_
 refine ae rfl (bj rfl rfl (List.length_map _)) ?_
 refine ae rfl (cj rfl rfl rfl) ?_
 refine yN ?_
 dsimp only [St.put]
 refine K8 _ ?_
 refine bl rfl (fun hc => ?_) (fun hc => ?_)
 ·replace hc := of_decide_eq_true hc
  obtain ⟨x, hx⟩ : ∃ x, a[k]? = some x := cm (by omega)
  obtain ⟨y, hy⟩ : ∃ y, b[k]? = some y := cm (by omega)
  have hf1 := hf.lines x (dv hx)
  refine bn ?_
  refine K7 _ ?_
  refine yS fun _ K9 => ?_
  refine bq ?_
  refine yS fun _ K10 => ?_
  refine fw [(0, none), (1, none), (2, none), (3, none), (4, none), (5, none), (6, none), (7, none), (8, none), (9, none), (10, some 11), (12, none), (13, none)] (fun i => [13].contains i) (fun i => [10, 11, 12, 13].contains i) (fun i => [0, 2, 3, 5, 7, 8].contains i) [] (by kernel_rfl) (by kernel_rfl) ?_
  refine ak rfl rfl rfl rfl (bg rfl rfl rfl) ?_
  try dsimp only [St.put]
  refine af rfl rfl rfl rfl (aw rfl rfl) ?_
  refine xM rfl rfl rfl rfl rfl ?_
  try dsimp only [St.put]
  refine ak rfl rfl rfl rfl (bf rfl rfl rfl rfl (bm (by assumption)) (Enc.len _)) ?_
  try dsimp only [St.put]
  refine af rfl rfl rfl rfl (ah rfl rfl (Enc.len _)) ?_
  refine ak rfl rfl rfl rfl (bg rfl rfl rfl) ?_
  try dsimp only [St.put]
  refine af rfl rfl rfl rfl (aw rfl rfl) ?_
  refine xM rfl rfl rfl rfl rfl ?_
  try dsimp only [St.put]
  refine ak rfl rfl rfl rfl (bf rfl rfl rfl rfl (bm (by assumption)) (Enc.len _)) ?_
  try dsimp only [St.put]
  refine af rfl rfl rfl rfl (ah rfl rfl (Enc.len _)) ?_
  refine ie ?_
  refine ufo rfl rfl rfl rfl rfl rfl rfl rfl (by decide) (by simp) ?_
  try dsimp only [St.put]
  refine ge rfl rfl rfl (c8 rfl rfl rfl zG rfl rfl (by rfl) ⟨zD, ?_⟩)
  try dsimp only [St.put]
  refine ez rfl rfl rfl rfl (c8 rfl rfl rfl zG rfl rfl (by rfl) ?_)
  refine ib ?_
  dsimp only [St.put]
  refine K10 _ ?_
  refine ep (i := 6) rfl zG zC ?_
  refine ep (i := 7) rfl zG zC ?_
  dsimp only
  refine yS fun _ K11 => ?_
  refine yS fun _ K12 => ?_
  refine yR ?_
  refine yF rfl rfl rfl rfl ?_
  refine yL rfl rfl rfl ?_
  refine yF rfl rfl rfl rfl ?_
  refine yL rfl rfl rfl ?_
  refine ae rfl (em rfl rfl rfl) ?_
  refine et (fun hs => ?_) (fun hs => ?_)
  ·try replace hs := of_decide_eq_true hs
   refine yM rfl rfl ?_
   refine yK rfl ?_
   refine yK rfl ?_
   refine yK rfl ?_
   refine yK rfl ?_
   refine yK rfl ?_
   refine yK rfl ?_
   refine yK rfl ?_
   refine ae rfl (bt rfl rfl (by constructor)) ?_
   refine yN ?_
   dsimp only [St.put]
   refine K12 _ ?_
   refine bl rfl (fun _ => ?_) (fun h => by cases h)
   refine yS fun _ K13 => ?_
   refine yR ?_
   refine yA rfl rfl ?_
   refine yN ?_
   dsimp only [St.put]
   refine K13 _ ?_
   refine bk ?_
   refine bo rfl (by constructor) zN zS ?_
   exact vb (by
    have := mc hx hy (fun e => by subst e; simp_all)
    simp [this])
  try replace hs := of_decide_eq_false hs
  refine yM rfl rfl ?_
  refine yF rfl rfl rfl rfl ?_
  refine yL rfl rfl rfl ?_
  refine ae rfl (bj rfl rfl (List.length_map _)) ?_
  refine yF rfl rfl rfl rfl ?_
  refine yL rfl rfl rfl ?_
  refine ae rfl (bj rfl rfl (List.length_map _)) ?_
  refine ae rfl (em rfl rfl rfl) ?_
  refine ae rfl (bu rfl rfl (by constructor)) ?_
  refine yN ?_
  dsimp only [St.put]
  refine K12 _ ?_
  refine bl rfl (fun hc => ?_) (fun hc => ?_)
  ·try replace hc := of_decide_eq_true hc
   refine yS fun _ K14 => ?_
   refine yR ?_
   refine yA rfl rfl ?_
   refine yN ?_
   dsimp only [St.put]
   refine K14 _ ?_
   refine bk ?_
   refine bo rfl (by constructor) zN zS ?_
   exact vb (by
    have := mc hx hy (fun e => by subst e; simp_all)
    simp [this])
  have hid := ff hs
  have hll := ff hc
  refine bn ?_
  refine K11 _ ?_
  refine yS fun _ K15 => ?_
  refine yR ?_
  refine yA rfl rfl ?_
  refine yN ?_
  dsimp only [St.put]
  refine K15 _ ?_
  refine bq ?_
  refine cg 9 ?_
  refine zQ ?_
  refine cn (G) zX ?_
  dsimp only
  refine cz (X := Nat) (fun n => n ≤ x.lines.length ∧ x.lines.take n = y.lines.take n) (fun n => x.lines.length - n) (fun n => [(8, .v (.int .i64 (n : Int)))]) (fun n G' => G') 0 rfl ?_ ?_ (fun _ _ h => h) ?_ ?_ ?_
  ·exact ⟨by simp, by simp⟩
  ·exact zF
  ·rintro n hI
   exact zL
  ·exact fun _ _ _ _ h => .inl h
  rintro n hJ
  dsimp only at hJ ⊢
  refine yS fun _ K16 => ?_
  refine yS fun _ K17 => ?_
  refine yR ?_
  refine yM rfl rfl ?_
  refine yF rfl rfl rfl rfl ?_
  refine yL rfl rfl rfl ?_
  refine ae rfl (bj rfl rfl (List.length_map _)) ?_
  refine ae rfl (cj rfl rfl rfl) ?_
  refine yN ?_
  dsimp only [St.put]
  refine K17 _ ?_
  refine bl rfl (fun hc => ?_) (fun hc => ?_)
  ·replace hc := of_decide_eq_true hc
   obtain ⟨lx, hlx⟩ : ∃ l, x.lines[n]? = some l := cm (by omega)
   obtain ⟨ly, hly⟩ : ∃ l, y.lines[n]? = some l := cm (by omega)
   refine bn ?_
   refine K16 _ ?_
   refine yS fun _ K18 => ?_
   refine bq ?_
   refine yS fun _ K19 => ?_
   refine fw [(0, none), (1, none), (2, none), (3, none), (4, none), (5, none), (6, none), (7, none), (8, none), (9, none), (10, none), (11, none)] (fun i => [10].contains i) (fun i => [10].contains i) (fun i => [0, 2, 3, 5, 7, 8, 11].contains i) [] (by kernel_rfl) (by kernel_rfl) ?_
   refine ak rfl rfl rfl rfl (bg rfl rfl rfl) ?_
   try dsimp only [St.put]
   refine af rfl rfl rfl rfl (aw rfl rfl) ?_
   refine xM rfl rfl rfl rfl rfl ?_
   try dsimp only [St.put]
   refine ak rfl rfl rfl rfl (bf rfl rfl rfl rfl (bm (by assumption)) (Enc.len _)) ?_
   try dsimp only [St.put]
   refine af rfl rfl rfl rfl (aw rfl rfl) ?_
   refine ak rfl rfl rfl rfl (bg rfl rfl rfl) ?_
   try dsimp only [St.put]
   refine af rfl rfl rfl rfl (aw rfl rfl) ?_
   refine xM rfl rfl rfl rfl rfl ?_
   try dsimp only [St.put]
   refine ak rfl rfl rfl rfl (bf rfl rfl rfl rfl (bm (by assumption)) (Enc.len _)) ?_
   try dsimp only [St.put]
   refine af rfl rfl rfl rfl (aw rfl rfl) ?_
   refine ie ?_
   try dsimp only [St.put]
   refine ez rfl rfl rfl rfl (br rfl rfl rfl (ufr _ _) ?_)
   refine c0 rfl rfl rfl rfl (dt rfl rfl) ?_
   refine ib ?_
   dsimp only [St.put]
   refine K19 _ ?_
   refine bl rfl (fun hc => ?_) (fun hc => ?_)
   ·try replace hc := of_decide_eq_true hc
    refine yS fun _ K20 => ?_
    refine yR ?_
    refine yA rfl rfl ?_
    refine yN ?_
    dsimp only [St.put]
    refine K20 _ ?_
    refine bk ?_
    refine bo rfl (by constructor) zN zS ?_
    exact vb (by
     have h1 := mc hlx hly (by simpa using hc)
     have := mc hx hy (fun e => by subst e; exact h1 rfl)
     simp [this])
   try replace hc := of_decide_eq_false hc
   refine bn ?_
   refine K18 _ ?_
   refine yR ?_
   refine yM rfl rfl ?_
   refine ae rfl (bx rfl rfl rfl (by omega)) ?_
   refine yA rfl rfl ?_
   refine yN ?_
   dsimp only [St.put]
   exact ⟨n + 1, by omega, ⟨by omega, ns hJ.2 hlx ((by simpa using hc : lx = ly) ▸ hly)⟩, ⟨⟨rfl, rfl⟩, zF, zB, zN, zX⟩⟩
  try replace hc := of_decide_eq_false hc
  refine co ?_
  refine K9 _ ?_
  refine yR ?_
  refine yM rfl rfl ?_
  refine ae rfl (bx rfl rfl rfl (by omega)) ?_
  refine yA rfl rfl ?_
  refine yN ?_
  dsimp only [St.put]
  exact ⟨k + 1, by omega, ⟨by omega, ns hI.2 hx ((show x = y by
   have h1 := hJ.2
   rw [dd (by omega), dd (by omega)] at h1
   cases x; cases y; simp_all) ▸ hy)⟩, ⟨⟨rfl, rfl⟩, zF, zB, zN, zX⟩⟩
 try replace hc := of_decide_eq_false hc
 refine co ?_
 refine K5 _ ?_
 refine yS fun _ K21 => ?_
 refine yR ?_
 refine yA rfl rfl ?_
 refine yN ?_
 dsimp only [St.put]
 refine K21 _ ?_
 refine bk ?_
 refine bo rfl (by constructor) zN zS ?_
 exact vb (by
  have h1 := hI.2
  rw [dd (by omega), dd (by omega)] at h1
  simp [h1])
end Go.Proofs.YthboenlglkmnjaaDoor
namespace Go.Proofs.YthboenlglkmnjaaDoor
set_option maxRecDepth 10000
open Go.RowKit Go.AB
open Go.PB (Chap bd PlaceD bh CopyD bw)

theorem zd (t : bd) : Pure Tryd.prog 32 [dn t] (.v (.bool (ck t))) := by
 refine cx Tryd.func32 rfl (fun m => .v) fun G nx => ?_
 simp only [Tryd.ntmps32, List.length_cons, List.length_nil, Nat.reduceAdd, Nat.reduceSub]
 refine b9 fun hlt => ?_
 dsimp only at hlt
 refine fj 0 (fun hf => ?_)
 replace hf := nr hf
 have hf0 := hf.len
 refine yS fun _ K1 => ?_
 refine yR ?_
 try dsimp only [St.put]
 refine yB rfl rfl rfl ?_
 refine yA rfl rfl ?_
 refine yN ?_
 dsimp only [St.put]
 refine K1 _ ?_
 refine yS fun _ K2 => ?_
 refine yS fun _ K3 => ?_
 refine yR ?_
 refine yF rfl rfl rfl rfl ?_
 refine yL rfl rfl rfl ?_
 refine ae rfl (bj rfl rfl (List.length_map _)) ?_
 try dsimp only [St.put]
 refine av rfl (br rfl rfl rfl (jd _ _ _) ?_)
 refine ae rfl (dt rfl rfl) ?_
 refine yN ?_
 dsimp only [St.put]
 refine K3 _ ?_
 refine bl rfl (fun hc => ?_) (fun hc => ?_)
 ·try replace hc := of_decide_eq_true hc
  refine yS fun _ K4 => ?_
  refine yR ?_
  refine yA rfl rfl ?_
  refine yN ?_
  dsimp only [St.put]
  refine K4 _ ?_
  refine bk ?_
  refine bo rfl (by constructor) zN zS ?_
  exact vb (by simp at hc; simp [ck, hc])
 have hc0 : inB t.length 1 6 = true := by simpa using hc
 clear hc
 refine bn ?_
 refine K2 _ ?_
 refine yS fun _ K5 => ?_
 refine yS fun _ K6 => ?_
 refine yR ?_
 refine yA rfl rfl ?_
 refine yN ?_
 dsimp only [St.put]
 refine K6 _ ?_
 refine bq ?_
 refine cg 8 ?_
 refine zQ ?_
 refine cn (G) zX ?_
 dsimp only
 refine cz (X := Nat) (fun i => i ≤ t.length ∧ (t.take i).all gl = true ∧ ((t.take i).map (·.id)).Nodup) (fun i => t.length - i) (fun i => [(3, .v (.int .i64 (i : Int))), (4, .any), (5, .any), (6, .any), (7, .any)]) (fun i G' => G') 0 rfl ?_ ?_ (fun _ _ h => h) ?_ ?_ ?_
 ·exact ⟨by simp, by simp, by simp⟩
 ·exact zF
 ·rintro i hI
  exact zL
 ·exact fun _ _ _ _ h => .inl h
 rintro i hI
 dsimp only at hI ⊢
 refine yS fun _ K7 => ?_
 refine yS fun _ K8 => ?_
 refine yR ?_
 refine yM rfl rfl ?_
 refine yF rfl rfl rfl rfl ?_
 refine yL rfl rfl rfl ?_
 refine ae rfl (bj rfl rfl (List.length_map _)) ?_
 refine ae rfl (cj rfl rfl rfl) ?_
 refine yN ?_
 dsimp only [St.put]
 refine K8 _ ?_
 refine bl rfl (fun hc => ?_) (fun hc => ?_)
 ·replace hc := of_decide_eq_true hc
  obtain ⟨c, hx⟩ : ∃ x, t[i]? = some x := cm (by omega)
  have hf1 := hf.lines c (dv hx)
  refine bn ?_
  refine K7 _ ?_
  refine yS fun _ K9 => ?_
  refine bq ?_
  refine yS fun _ K10 => ?_
  refine yR ?_
  refine yF rfl rfl rfl rfl ?_
  refine yL rfl rfl rfl ?_
  refine yM rfl rfl ?_
  refine ae rfl (bf rfl rfl rfl rfl (bm (by assumption)) (Enc.len _)) ?_
  refine yE rfl rfl rfl ?_
  try dsimp only [St.put]
  refine av rfl (di rfl ?_)
  try dsimp only [St.put]
  refine av rfl (c8 rfl rfl rfl zG rfl rfl (by rfl) ?_)
  refine yN ?_
  dsimp only [St.put]
  refine K10 _ ?_
  refine ep (i := 4) rfl zG zC ?_
  dsimp only
  refine yS fun _ K11 => ?_
  refine yS fun _ K12 => ?_
  refine yR ?_
  refine yF rfl rfl rfl rfl ?_
  refine yL rfl rfl rfl ?_
  try dsimp only [St.put]
  refine av rfl (br rfl rfl rfl (jd _ _ _) ?_)
  refine ae rfl (dt rfl rfl) ?_
  refine yM rfl rfl ?_
  refine et (fun hs => ?_) (fun hs => ?_)
  ·try replace hs := of_decide_eq_true hs
   refine yK rfl ?_
   refine yK rfl ?_
   refine yK rfl ?_
   refine yK rfl ?_
   refine yK rfl ?_
   refine ae rfl (bt rfl rfl (by constructor)) ?_
   refine yN ?_
   dsimp only [St.put]
   refine K12 _ ?_
   refine bl rfl (fun _ => ?_) (fun h => by cases h)
   skip
   refine yS fun _ K13 => ?_
   refine yR ?_
   refine yA rfl rfl ?_
   refine yN ?_
   dsimp only [St.put]
   refine K13 _ ?_
   refine bk ?_
   refine bo rfl (by constructor) zN zS ?_
   exact vb (by
    have : t.all gl = false := gu hx (by simp_all [gl])
    simp [ck, this])
  try replace hs := of_decide_eq_false hs
  refine yF rfl rfl rfl rfl ?_
  refine yL rfl rfl rfl ?_
  refine ae rfl (bj rfl rfl (List.length_map _)) ?_
  try dsimp only [St.put]
  refine av rfl (br rfl rfl rfl (jd _ _ _) ?_)
  refine ae rfl (dt rfl rfl) ?_
  refine ae rfl (bu rfl rfl (by constructor)) ?_
  refine yN ?_
  dsimp only [St.put]
  refine K12 _ ?_
  refine bl rfl (fun hc => ?_) (fun hc => ?_)
  ·skip
   refine yS fun _ K14 => ?_
   refine yR ?_
   refine yA rfl rfl ?_
   refine yN ?_
   dsimp only [St.put]
   refine K14 _ ?_
   refine bk ?_
   refine bo rfl (by constructor) zN zS ?_
   exact vb (by
    have : t.all gl = false := gu hx (by simp_all [gl])
    simp [ck, this])
  have hid : inB c.id 0 9999 = true := by simpa using hs
  have hln : inB c.lines.length 1 10 = true := by simpa using hc
  refine bn ?_
  refine K11 _ ?_
  refine yS fun _ K15 => ?_
  refine yS fun _ K16 => ?_
  refine yR ?_
  refine yA rfl rfl ?_
  refine yN ?_
  dsimp only [St.put]
  refine K16 _ ?_
  refine bq ?_
  refine cg 8 ?_
  refine zQ ?_
  refine cn (G) zX ?_
  dsimp only
  refine cz (X := Nat) (fun k => k ≤ i ∧ ((t.take i).take k).any (fun d => decide (d.id = c.id)) = false) (fun k => i - k) (fun k => [(5, .v (.int .i64 (k : Int))), (6, .any), (7, .any)]) (fun k G' => G') 0 rfl ?_ ?_ (fun _ _ h => h) ?_ ?_ ?_
  ·exact ⟨by simp, by simp⟩
  ·exact zF
  ·rintro k hI
   exact zL
  ·exact fun _ _ _ _ h => .inl h
  rintro k hJ
  dsimp only at hJ ⊢
  refine yS fun _ K17 => ?_
  refine yS fun _ K18 => ?_
  refine yR ?_
  refine yM rfl rfl ?_
  refine yM rfl rfl ?_
  refine ae rfl (cj rfl rfl rfl) ?_
  refine yN ?_
  dsimp only [St.put]
  refine K18 _ ?_
  refine bl rfl (fun hc => ?_) (fun hc => ?_)
  ·replace hc := of_decide_eq_true hc
   obtain ⟨d, hd0⟩ : ∃ x, t[k]? = some x := cm (by omega)
   have hd : (t.take i)[k]? = some d := by rw [List.getElem?_take, if_pos (by omega)]; exact hd0
   refine bn ?_
   refine K17 _ ?_
   refine yS fun _ K19 => ?_
   refine bq ?_
   refine yS fun _ K20 => ?_
   refine fw [(0, none), (1, none), (2, none), (3, none), (4, none), (5, none), (6, none), (7, none), (8, none)] (fun i => [].contains i) (fun i => [].contains i) (fun i => [0, 2, 3, 4, 6, 8].contains i) [] (by kernel_rfl) (by kernel_rfl) ?_
   refine ak rfl rfl rfl rfl (bg rfl rfl rfl) ?_
   try dsimp only [St.put]
   refine af rfl rfl rfl rfl (aw rfl rfl) ?_
   refine xM rfl rfl rfl rfl rfl ?_
   try dsimp only [St.put]
   refine ak rfl rfl rfl rfl (bf rfl rfl rfl rfl (bm (by assumption)) (Enc.len _)) ?_
   refine ak rfl rfl rfl rfl (bg rfl rfl rfl) ?_
   try dsimp only [St.put]
   refine af rfl rfl rfl rfl (aw rfl rfl) ?_
   refine ak rfl rfl rfl rfl (bg rfl rfl rfl) ?_
   try dsimp only [St.put]
   refine af rfl rfl rfl rfl (aw rfl rfl) ?_
   refine ak rfl rfl rfl rfl (dy rfl rfl rfl) ?_
   refine dc ?_
   dsimp only [St.put]
   refine K20 _ ?_
   refine bl rfl (fun hc => ?_) (fun hc => ?_)
   ·skip
    refine yS fun _ K21 => ?_
    refine yR ?_
    refine yA rfl rfl ?_
    refine yN ?_
    dsimp only [St.put]
    refine K21 _ ?_
    refine bk ?_
    refine bo rfl (by constructor) zN zS ?_
    exact vb (by
     have := ubo (f := (·.id)) hd0 hx (by omega) (by simpa using hc)
     simp [ck, this])
   skip
   refine bn ?_
   refine K19 _ ?_
   refine yR ?_
   refine yM rfl rfl ?_
   refine ae rfl (bx rfl rfl rfl (by omega)) ?_
   refine yA rfl rfl ?_
   refine yN ?_
   dsimp only [St.put]
   exact ⟨k + 1, by omega, ⟨by omega, by rw [ng hd, hJ.2]; simpa using hc⟩, ⟨⟨rfl, rfl⟩, zF, zB, zN, zX⟩⟩
  try replace hc := of_decide_eq_false hc
  refine co ?_
  refine K15 _ ?_
  refine yS fun _ K22 => ?_
  refine yR ?_
  refine yA rfl rfl ?_
  refine yN ?_
  dsimp only [St.put]
  refine K22 _ ?_
  refine bq ?_
  refine cg 8 ?_
  refine zQ ?_
  refine cn (G) zX ?_
  dsimp only
  refine cz (X := Nat) (fun n => n ≤ c.lines.length ∧ (c.lines.take n).all iz = true) (fun n => c.lines.length - n) (fun n => [(6, .v (.int .i64 (n : Int))), (7, .any)]) (fun n G' => G') 0 rfl ?_ ?_ (fun _ _ h => h) ?_ ?_ ?_
  ·exact ⟨by simp, by simp⟩
  ·exact zF
  ·rintro n hI
   exact zL
  ·exact fun _ _ _ _ h => .inl h
  rintro n hL
  dsimp only at hL ⊢
  refine yS fun _ K23 => ?_
  refine yS fun _ K24 => ?_
  refine yR ?_
  refine yM rfl rfl ?_
  refine yF rfl rfl rfl rfl ?_
  refine yL rfl rfl rfl ?_
  refine ae rfl (bj rfl rfl (List.length_map _)) ?_
  refine ae rfl (cj rfl rfl rfl) ?_
  refine yN ?_
  dsimp only [St.put]
  refine K24 _ ?_
  refine bl rfl (fun hc => ?_) (fun hc => ?_)
  ·replace hc := of_decide_eq_true hc
   obtain ⟨l, hl⟩ : ∃ x, c.lines[n]? = some x := cm (by omega)
   have hf2 := hf.words c (dv hx) l (dv hl)
   refine bn ?_
   refine K23 _ ?_
   refine yS fun _ K25 => ?_
   refine bq ?_
   refine yS fun _ K26 => ?_
   refine yS fun _ K27 => ?_
   refine yR ?_
   refine yF rfl rfl rfl rfl ?_
   refine yL rfl rfl rfl ?_
   refine yM rfl rfl ?_
   refine ae rfl (bf rfl rfl rfl rfl (bm (by assumption)) (Enc.len _)) ?_
   refine yL rfl rfl rfl ?_
   refine ae rfl (bj rfl rfl (List.length_map _)) ?_
   try dsimp only [St.put]
   refine av rfl (br rfl rfl rfl (jd _ _ _) ?_)
   refine ae rfl (dt rfl rfl) ?_
   refine yN ?_
   dsimp only [St.put]
   refine K27 _ ?_
   refine bl rfl (fun hc => ?_) (fun hc => ?_)
   ·skip
    refine yS fun _ K28 => ?_
    refine yR ?_
    refine yA rfl rfl ?_
    refine yN ?_
    dsimp only [St.put]
    refine K28 _ ?_
    refine bk ?_
    refine bo rfl (by constructor) zN zS ?_
    exact vb (by
     have h1 : c.lines.all iz = false := gu hl (by simp_all [iz])
     have : t.all gl = false := gu hx (by simp [gl, h1])
     simp [ck, this])
   have hll : inB l.length 1 10 = true := by simpa using hc
   refine bn ?_
   refine K26 _ ?_
   refine yS fun _ K29 => ?_
   refine yR ?_
   refine yA rfl rfl ?_
   refine yN ?_
   dsimp only [St.put]
   refine K29 _ ?_
   refine bq ?_
   refine cg 8 ?_
   refine zQ ?_
   refine cn (G) zX ?_
   dsimp only
   refine cz (X := Nat) (fun m => m ≤ l.length ∧ (l.take m).all e8 = true) (fun m => l.length - m) (fun m => [(7, .v (.int .i64 (m : Int)))]) (fun m G' => G') 0 rfl ?_ ?_ (fun _ _ h => h) ?_ ?_ ?_
   ·exact ⟨by simp, by simp⟩
   ·exact zF
   ·rintro m hI
    exact zL
   ·exact fun _ _ _ _ h => .inl h
   rintro m hM
   dsimp only at hM ⊢
   refine yS fun _ K30 => ?_
   refine yS fun _ K31 => ?_
   refine yR ?_
   refine yM rfl rfl ?_
   refine yF rfl rfl rfl rfl ?_
   refine yL rfl rfl rfl ?_
   refine yM rfl rfl ?_
   refine ae rfl (bf rfl rfl rfl rfl (bm (by assumption)) (Enc.len _)) ?_
   refine yL rfl rfl rfl ?_
   refine ae rfl (bj rfl rfl (List.length_map _)) ?_
   refine ae rfl (cj rfl rfl rfl) ?_
   refine yN ?_
   dsimp only [St.put]
   refine K31 _ ?_
   refine bl rfl (fun hc => ?_) (fun hc => ?_)
   ·replace hc := of_decide_eq_true hc
    obtain ⟨s, hs'⟩ : ∃ x, l[m]? = some x := cm (by omega)
    refine bn ?_
    refine K30 _ ?_
    refine yS fun _ K32 => ?_
    refine bq ?_
    refine yS fun _ K33 => ?_
    refine yR ?_
    refine yF rfl rfl rfl rfl ?_
    refine yL rfl rfl rfl ?_
    refine yM rfl rfl ?_
    refine ae rfl (bf rfl rfl rfl rfl (bm (by assumption)) (Enc.len _)) ?_
    refine yL rfl rfl rfl ?_
    refine yM rfl rfl ?_
    refine ae rfl (bf rfl rfl rfl rfl (bm (by assumption)) (Enc.len _)) ?_
    refine yL rfl rfl rfl ?_
    try dsimp only [St.put]
    refine av rfl (br rfl rfl rfl (tg _) ?_)
    refine ae rfl (dt rfl rfl) ?_
    refine yN ?_
    dsimp only [St.put]
    refine K33 _ ?_
    refine bl rfl (fun hc => ?_) (fun hc => ?_)
    ·skip
     refine yS fun _ K34 => ?_
     refine yR ?_
     refine yA rfl rfl ?_
     refine yN ?_
     dsimp only [St.put]
     refine K34 _ ?_
     refine bk ?_
     refine bo rfl (by constructor) zN zS ?_
     exact vb (by
      have h2 : l.all e8 = false := gu hs' (by simpa using hc)
      have h1 : c.lines.all iz = false := gu hl (by simp [iz, h2])
      have : t.all gl = false := gu hx (by simp [gl, h1])
      simp [ck, this])
    skip
    refine bn ?_
    refine K32 _ ?_
    refine yR ?_
    refine yM rfl rfl ?_
    refine ae rfl (bx rfl rfl rfl (by omega)) ?_
    refine yA rfl rfl ?_
    refine yN ?_
    dsimp only [St.put]
    exact ⟨m + 1, by omega, ⟨by omega, by rw [ja hs', hM.2]; simpa using hc⟩, ⟨⟨rfl, rfl⟩, zF, zB, zN, zX⟩⟩
   try replace hc := of_decide_eq_false hc
   refine co ?_
   refine K25 _ ?_
   refine yR ?_
   refine yM rfl rfl ?_
   refine ae rfl (bx rfl rfl rfl (by omega)) ?_
   refine yA rfl rfl ?_
   refine yN ?_
   dsimp only [St.put]
   exact ⟨n + 1, by omega, ⟨by omega, by
     rw [ja hl, hL.2]
     have h1 := hM.2
     rw [dd (by omega)] at h1
     simp [iz, h1, hll]⟩, ⟨⟨rfl, rfl⟩, zF, zB, zN, zX⟩⟩
  try replace hc := of_decide_eq_false hc
  refine co ?_
  refine K9 _ ?_
  refine yR ?_
  refine yM rfl rfl ?_
  refine ae rfl (bx rfl rfl rfl (by omega)) ?_
  refine yA rfl rfl ?_
  refine yN ?_
  dsimp only [St.put]
  exact ⟨i + 1, by omega, ⟨by omega, by
    rw [ja hx, hI.2.1]
    have h1 := hL.2
    rw [dd (by omega)] at h1
    simp [gl, h1, hid, hln], by
    rw [pu hx]
    exact sb hI.2.2 (by have h1 := hJ.2; rw [List.take_take, show min k i = i by omega] at h1; exact ubp h1)⟩, ⟨⟨rfl, rfl⟩, zF, zB, zN, zX⟩⟩
 try replace hc := of_decide_eq_false hc
 refine co ?_
 refine K5 _ ?_
 refine yS fun _ K35 => ?_
 refine yR ?_
 refine yA rfl rfl ?_
 refine yN ?_
 dsimp only [St.put]
 refine K35 _ ?_
 refine bk ?_
 refine bo rfl (by constructor) zN zS ?_
 exact vb (by
  have h1 := hI.2
  rw [dd (by omega)] at h1
  simp [ck, hc0, h1.1, h1.2])

end Go.Proofs.YthboenlglkmnjaaDoor
namespace Go.Proofs.YthboenlglkmnjaaDoor
set_option maxRecDepth 10000
open Go.RowKit Go.AB
open Go.AB.Enc (cells)
open Go.PB (Chap bd PlaceD bh CopyD bw)

theorem ufp (t : bd) (hg : kf t = false) : Pure Tryd.prog 6 [dn t] (dn t) := by
 refine cx Tryd.func6 rfl (fun m => .agg (cv (ce _ _) de)) fun G nx => ?_
 simp only [Tryd.ntmps6, List.length_cons, List.length_nil, Nat.reduceAdd, Nat.reduceSub]
 refine b9 fun hlt => ?_
 dsimp only at hlt
 refine fj 0 (fun hf => ?_)
 replace hf := nr hf
 have hf0 := hf.len
 have hs := uab hg
 have hs0 := hs.len
 refine yS fun _ K1 => ?_
 refine yR ?_
 try dsimp only [St.put]
 refine yB rfl rfl rfl ?_
 try dsimp only [St.put]
 refine av rfl (di rfl ?_)
 refine yN ?_
 dsimp only [St.put]
 refine K1 _ ?_
 refine yS fun _ K2 => ?_
 refine yR ?_
 try dsimp only [St.put]
 refine av rfl (di rfl ?_)
 refine yN ?_
 dsimp only [St.put]
 refine K2 _ ?_
 refine kz (nx + 1) 0 _ _ 55 2 zG rfl (by decide) ?_
 dsimp only [List.set_cons_zero, List.set_cons_succ]
 refine yS fun _ K3 => ?_
 refine yS fun _ K4 => ?_
 refine yR ?_
 refine yA rfl rfl ?_
 refine yN ?_
 dsimp only [St.put]
 refine K4 _ ?_
 refine bq ?_
 refine cg 7 ?_
 refine zQ ?_
 refine cn ((bc (bc (bc G nx (.box 0 [.list [] .nil])) (nx + 1) (.box 0 [.list ((t.take 0).map cells) (.tip (nx + 1 + 1))])) (nx + 1 + 1) (.tip (t.take 0).length 55 2))) zX ?_
 dsimp only
 refine cz (X := Nat) (fun k => k ≤ t.length) (fun k => t.length - k) (fun k => [(4, .v (.int .i64 (k : Int))), (5, .any), (6, .any)]) (fun k G' => (bc (bc (bc G nx (.box 0 [.list [] .nil])) (nx + 1) (.box k [.list ((t.take k).map cells) (.tip (nx + 1 + 1))])) (nx + 1 + 1) (.tip (t.take k).length 55 2))) 0 rfl ?_ ?_ ?_ ?_ ?_ ?_
 ·exact Nat.zero_le _
 ·exact zF
 ·exact zX
 ·rintro k hI
  exact zL
 ·rintro k hI
  exact zH
 rintro k hI
 dsimp only at hI ⊢
 refine yS fun _ K5 => ?_
 refine yS fun _ K6 => ?_
 refine yR ?_
 refine yM rfl rfl ?_
 refine yF rfl rfl rfl rfl ?_
 refine yL rfl rfl rfl ?_
 refine ae rfl (bj rfl rfl (List.length_map _)) ?_
 refine ae rfl (cj rfl rfl rfl) ?_
 refine yN ?_
 dsimp only [St.put]
 refine K6 _ ?_
 refine bl rfl (fun hc => ?_) (fun hc => ?_)
 ·replace hc := of_decide_eq_true hc
  obtain ⟨c, hx⟩ : ∃ x, t[k]? = some x := cm (by omega)
  have hf1 := hs.lines c (dv hx)
  refine bn ?_
  refine K5 _ ?_
  refine yS fun _ K7 => ?_
  refine bq ?_
  refine yS fun _ K8 => ?_
  refine yR ?_
  refine yF rfl rfl rfl rfl ?_
  refine yL rfl rfl rfl ?_
  refine yM rfl rfl ?_
  refine ae rfl (bf rfl rfl rfl rfl (bm (by assumption)) (Enc.len _)) ?_
  refine yF rfl rfl rfl rfl ?_
  refine yL rfl rfl rfl ?_
  refine ae rfl (jo rfl rfl) ?_
  try dsimp only [St.put]
  refine av rfl (di rfl ?_)
  try dsimp only [St.put]
  refine av rfl (c8 rfl rfl rfl zG rfl rfl (by rfl) ?_)
  refine yN ?_
  dsimp only [St.put]
  refine K8 _ ?_
  refine kz (nx + 1 + 1 + 1) 1 _ _ 56 1 zG rfl (by decide) ?_
  dsimp only [List.set_cons_zero, List.set_cons_succ]
  refine yS fun _ K9 => ?_
  refine yS fun _ K10 => ?_
  refine yR ?_
  refine yA rfl rfl ?_
  refine yN ?_
  dsimp only [St.put]
  refine K10 _ ?_
  refine bq ?_
  refine cg 7 ?_
  refine zQ ?_
  refine cn ((bc (bc (bc (bc (bc G nx (.box 0 [.list [] .nil])) (nx + 1) (.box k [.list ((t.take k).map cells) (.tip (nx + 1 + 1))])) (nx + 1 + 1) (.tip (t.take k).length 55 2)) (nx + 1 + 1 + 1) (.box (0 + 1) [.v (.int .i64 c.id), .list ((c.lines.take 0).map cells) (.tip (nx + 1 + 1 + 1 + 1))])) (nx + 1 + 1 + 1 + 1) (.tip (c.lines.take 0).length 56 1))) zX ?_
  dsimp only
  refine cz (X := Nat) (fun m => m ≤ c.lines.length) (fun m => c.lines.length - m) (fun m => [(6, .v (.int .i64 (m : Int)))]) (fun m G' => (bc (bc (bc (bc (bc G nx (.box 0 [.list [] .nil])) (nx + 1) (.box k [.list ((t.take k).map cells) (.tip (nx + 1 + 1))])) (nx + 1 + 1) (.tip (t.take k).length 55 2)) (nx + 1 + 1 + 1) (.box (m + 1) [.v (.int .i64 c.id), .list ((c.lines.take m).map cells) (.tip (nx + 1 + 1 + 1 + 1))])) (nx + 1 + 1 + 1 + 1) (.tip (c.lines.take m).length 56 1))) 0 rfl ?_ ?_ ?_ ?_ ?_ ?_
  ·exact Nat.zero_le _
  ·exact zF
  ·exact zX
  ·rintro m hI
   exact zL
  ·rintro m hI
   exact zH
  rintro m hJ
  dsimp only at hJ ⊢
  refine yS fun _ K11 => ?_
  refine yS fun _ K12 => ?_
  refine yR ?_
  refine yM rfl rfl ?_
  refine yF rfl rfl rfl rfl ?_
  refine yL rfl rfl rfl ?_
  refine yM rfl rfl ?_
  refine ae rfl (bf rfl rfl rfl rfl (bm (by assumption)) (Enc.len _)) ?_
  refine yF rfl rfl rfl rfl ?_
  refine yL rfl rfl rfl ?_
  refine ae rfl (bj rfl rfl (List.length_map _)) ?_
  refine ae rfl (cj rfl rfl rfl) ?_
  refine yN ?_
  dsimp only [St.put]
  refine K12 _ ?_
  refine bl rfl (fun hc => ?_) (fun hc => ?_)
  ·replace hc := of_decide_eq_true hc
   obtain ⟨l, hl⟩ : ∃ x, c.lines[m]? = some x := cm (by omega)
   have hf2 := hs.words c (dv hx) l (dv hl)
   refine bn ?_
   refine K11 _ ?_
   refine yS fun _ K13 => ?_
   refine bq ?_
   refine fw [(0, none), (1, none), (3, none), (4, none), (5, none), (6, none), (7, none), (8, none), (9, none), (10, none), (11, none), (2, none), (12, none), (13, none), (14, none), (15, none), (16, none)] (fun i => [14, 16].contains i) (fun i => [2, 12, 13, 14, 16].contains i) (fun i => [0, 3, 5, 6, 7, 9, 10, 15].contains i) [nx + 1 + 1 + 1] (by kernel_rfl) (by kernel_rfl) ?_
   refine ak rfl rfl rfl rfl (bi rfl rfl) ?_
   try dsimp only [St.put]
   refine af rfl rfl rfl rfl (a7 rfl rfl zG (by simp) (by first | rfl | assumption)) ?_
   refine ak rfl rfl rfl rfl (bg rfl rfl rfl) ?_
   try dsimp only [St.put]
   refine af rfl rfl rfl rfl (aw rfl rfl) ?_
   refine xM rfl rfl rfl rfl rfl ?_
   try dsimp only [St.put]
   refine ak rfl rfl rfl rfl (bf rfl rfl rfl rfl (bm (by assumption)) (Enc.len _)) ?_
   refine ak rfl rfl rfl rfl (bg rfl rfl rfl) ?_
   try dsimp only [St.put]
   refine af rfl rfl rfl rfl (aw rfl rfl) ?_
   refine xM rfl rfl rfl rfl rfl ?_
   try dsimp only [St.put]
   refine ak rfl rfl rfl rfl (bf rfl rfl rfl rfl (bm (by assumption)) (Enc.len _)) ?_
   try dsimp only [St.put]
   refine af rfl rfl rfl rfl (aw rfl rfl) ?_
   refine ie ?_
   try dsimp only [St.put]
   refine ge rfl rfl rfl (x4 rfl ⟨zD, ?_⟩)
   try dsimp only [St.put]
   refine ge rfl rfl rfl (x5 rfl rfl (by first | exact .inl rfl | exact .inr rfl) rfl (by decide) zA zA ⟨zD, ?_⟩)
   try dsimp only [St.put]
   refine ge rfl rfl rfl (dx rfl rfl rfl (by decide) (by decide) zR (by decide) ⟨zD, ?_⟩)
   try dsimp only [St.put]
   refine ez rfl rfl rfl rfl (gr ([l]) rfl rfl zG zE rfl rfl zA ?_ zA)
   refine c0 rfl rfl rfl rfl (bi rfl rfl) ?_
   try dsimp only [St.put]
   refine ez rfl rfl rfl rfl (dh rfl rfl rfl zG (by constructor) rfl zO ?_)
   refine ib ?_
   dsimp only [St.put]
   refine K13 _ ?_
   refine yR ?_
   refine yM rfl rfl ?_
   refine ae rfl (bx rfl rfl rfl (by omega)) ?_
   refine yA rfl rfl ?_
   refine yN ?_
   dsimp only [St.put]
   simp only [jn hl]
   exact ⟨m + 1, by omega, by omega, ⟨⟨rfl, rfl⟩, zF, zB, zN, zX⟩⟩
  replace hc := of_decide_eq_false hc
  rw [dd (show c.lines.length ≤ m by omega)]
  refine qv (nx + 1 + 1 + 1) _ [.v (.int .i64 c.id), lst c.lines] zG zW ?_
  refine co ?_
  refine K9 _ ?_
  refine yR ?_
  refine ae rfl (bi rfl rfl) ?_
  try dsimp only [St.put]
  refine aa rfl (a7 rfl rfl zG trivial (by first | rfl | assumption)) ?_
  try dsimp only [St.put]
  refine aa rfl (az rfl rfl zG trivial (by rfl)) ?_
  try dsimp only [St.put]
  refine av rfl (dx rfl rfl rfl (by decide) (by decide) zR (by decide) ?_)
  try dsimp only [St.put]
  refine av rfl (gr ([c]) rfl rfl zG zE rfl rfl zA ?_ zA)
  refine ae rfl (bi rfl rfl) ?_
  try dsimp only [St.put]
  refine av rfl (c8 rfl rfl rfl zG rfl rfl (by rfl) ?_)
  refine yN ?_
  dsimp only [St.put]
  refine K7 _ ?_
  refine yR ?_
  refine yM rfl rfl ?_
  refine ae rfl (bx rfl rfl rfl (by omega)) ?_
  refine yA rfl rfl ?_
  refine yN ?_
  dsimp only [St.put]
  simp only [jn hx]
  exact ⟨k + 1, by omega, by omega, ⟨⟨rfl, rfl⟩, zF, zB, zN, zX⟩⟩
 try replace hc := of_decide_eq_false hc
 refine co ?_
 refine K3 _ ?_
 refine yS fun _ K14 => ?_
 refine yR ?_
 try dsimp only [St.put]
 refine aa rfl (az rfl rfl zG trivial (by rfl)) ?_
 try dsimp only [St.put]
 refine av rfl (c8 rfl rfl rfl zG rfl rfl (by rfl) ?_)
 refine yN ?_
 dsimp only [St.put]
 refine K14 _ ?_
 refine bk ?_
 refine j3 rfl (kj rfl zG (by rfl) zC rfl) zN zS ?_
 rw [dd (show t.length ≤ k by omega)]
 exact zW
end Go.Proofs.YthboenlglkmnjaaDoor
namespace Go.AB
open Go Go.RowKit
open Go.PB (Chap bd PlaceD)
end Go.AB
namespace Go.Proofs.YthboenlglkmnjaaDoor
set_option maxRecDepth 10000
open Go.RowKit Go.AB
open Go.AB.Enc (cells)
open Go.PB (Chap bd PlaceD bh CopyD bw)
end Go.Proofs.YthboenlglkmnjaaDoor
namespace Go.AB
open Go Go.RowKit
open Go.AB.Enc (cells)
open Go.PB (Chap bd PlaceD bh CopyD bw)
abbrev L2 := Int × Int
/-- a stretch has a line of the base; of the edition -/
def hasB (s : i2) (p : L2) : Bool := decide (s.ch = p.1) && (decide (s.fr ≤ p.2) && decide (p.2 < s.tt))
def toE (s : i2) (p : L2) : L2 := (s.au, s.fi + (p.2 - s.fr))
/-- as which line a line of the base is numbered: by the first stretch that has it; and back -/
def asOf (ss : List i2) (p : L2) : Option L2 := (ss.find? fun s => hasB s p).map fun s => toE s p
/-! ### Stretches that clash -/
/-! ### The lines of a text -/
def mj (t : bd) : List L2 := (t.mapIdx fun k c => c.lines.mapIdx fun n _ => ((k : Int), (n : Int))).flatten
/-- a line of the base, with the numbers that it has by some stretches -/
def rr (ss : List i2) (p : L2) (w : Int) : RowD := ⟨p.1, p.2, ((asOf ss p).getD (0, 0)).1, ((asOf ss p).getD (0, 0)).2, w⟩
def j9 (t : bd) (ss : List i2) : List RowD := (t.mapIdx fun k c => c.lines.mapIdx fun n l => rr ss (k, n) l.length).flatten
theorem mh {α β γ : Type} (l : List α) (f : Nat → α → β) (g : β → γ) : (l.mapIdx f).map g = l.mapIdx fun i a => g (f i a) := by
 apply List.ext_getElem?
 intro i
 rw [List.getElem?_map, List.getElem?_mapIdx, List.getElem?_mapIdx, Option.map_map]
 rfl
theorem uj (t : bd) (ss : List i2) : (j9 t ss).map (fun r => ((r.ch, r.ln) : L2)) = mj t := by
 unfold j9 mj
 rw [List.map_flatten, mh]
 congr 2
 funext k c
 rw [mh]
 rfl
/-- the rows of a chapter's lines -/
def rowL (ss : List i2) (k : Nat) (ls : List (List ByteArray)) : List RowD := ls.mapIdx fun n l => rr ss (k, n) l.length
theorem uaj (ss : List i2) {t : bd} {k : Nat} {c : Chap} (h : t[k]? = some c) : j9 (t.take (k + 1)) ss = j9 (t.take k) ss ++ rowL ss k c.lines := by
 unfold j9
 rw [px h, List.flatten_append]; simp [rowL]
theorem uan (ss : List i2) (k : Nat) (ls : List (List ByteArray)) : (rowL ss k ls).length = ls.length := by simp [rowL]
theorem uak {t : bd} (ht : ck t = true) (ss : List i2) (k : Nat) : (j9 (t.take k) ss).length ≤ 10 * k := by
 induction k with
 | zero => simp [j9]
 | succ k ih =>
  cases hk : t[k]? with
  | none =>
   have h1 : t.take (k + 1) = t.take k := by rw [List.take_add_one, hk]; simp
   rw [h1]; omega
  | some c =>
   rw [uaj ss hk, List.length_append, uan]
   have := ((i3 ht).2.2 c (List.mem_of_getElem? hk)).2.1
   omega
theorem ual {t : bd} (ht : ck t = true) (ss : List i2) : (j9 t ss).length ≤ 60 := by
 have h1 := uak ht ss t.length
 rw [List.take_length] at h1
 have := (i3 ht).2.1
 omega
end Go.AB
namespace Go.AB
open Go Go.RowKit
open Go.PB (Chap bd PlaceD)
end Go.AB
namespace Go.Proofs.YthboenlglkmnjaaDoor
set_option maxRecDepth 10000
open Go.RowKit Go.AB
open Go.AB.Enc (cells)
open Go.PB (Chap bd PlaceD bh CopyD bw)

end Go.Proofs.YthboenlglkmnjaaDoor
namespace Go.AB
open Go Go.RowKit
open Go.PB (Chap bd PlaceD)
end Go.AB
namespace Go.Proofs.YthboenlglkmnjaaDoor
set_option maxRecDepth 10000
open Go.RowKit Go.AB
open Go.AB.Enc (cells)
open Go.PB (Chap bd PlaceD bh CopyD bw)
end Go.Proofs.YthboenlglkmnjaaDoor
namespace Go.AB
open Go Go.RowKit
open Go.PB (Chap bd PlaceD)
end Go.AB
namespace Go.Proofs.YthboenlglkmnjaaDoor
set_option maxRecDepth 10000
open Go.RowKit Go.AB
open Go.AB.Enc (cells)
open Go.PB (Chap bd PlaceD bh CopyD bw)
theorem ufs (a b : List PlaceD) : Pure Tryd.prog 17 [lst a, lst b] (.v (.bool (decide (a = b)))) := by
 refine cx Tryd.func17 rfl (fun m => .v) fun G nx => ?_
 simp only [Tryd.ntmps17, List.length_cons, List.length_nil, Nat.reduceAdd, Nat.reduceSub]
 refine b9 fun hlt => ?_
 dsimp only at hlt
 refine fj 0 (fun hf => ?_)
 have hf' : a.length ≤ 9223372036854775807 := (fit_lst.1 hf).1
 clear hf
 refine yS fun _ K1 => ?_
 refine yR ?_
 refine yA rfl rfl ?_
 refine yN ?_
 dsimp only [St.put]
 refine K1 _ ?_
 refine yS fun _ K2 => ?_
 refine yS fun _ K3 => ?_
 refine yR ?_
 refine yM rfl rfl ?_
 refine ae rfl (bj rfl rfl (List.length_map _)) ?_
 refine yM rfl rfl ?_
 refine ae rfl (bj rfl rfl (List.length_map _)) ?_
 refine ae rfl (em rfl rfl rfl) ?_
 refine yN ?_
 dsimp only [St.put]
 refine K3 _ ?_
 refine bl rfl (fun hc => ?_) (fun hc => ?_)
 ·try replace hc := of_decide_eq_true hc
  refine yS fun _ K4 => ?_
  refine yR ?_
  refine yA rfl rfl ?_
  refine yN ?_
  dsimp only [St.put]
  refine K4 _ ?_
  refine bk ?_
  refine bo rfl (by constructor) zN zS ?_
  exact vb (by
   have : a ≠ b := fun e => by subst e; simp at hc
   simp [this])
 have hab := ff hc
 refine bn ?_
 refine K2 _ ?_
 refine yS fun _ K5 => ?_
 refine yS fun _ K6 => ?_
 refine yR ?_
 refine yA rfl rfl ?_
 refine yN ?_
 dsimp only [St.put]
 refine K6 _ ?_
 refine bq ?_
 refine cg 6 ?_
 refine zQ ?_
 refine cn (G) zX ?_
 dsimp only
 refine cz (X := Nat) (fun k => k ≤ a.length ∧ a.take k = b.take k) (fun k => a.length - k) (fun k => [(5, .v (.int .i64 (k : Int)))]) (fun k G' => G') 0 rfl ?_ ?_ (fun _ _ h => h) ?_ ?_ ?_
 ·exact ⟨by simp, by simp⟩
 ·exact zF
 ·rintro k hI
  exact zL
 ·exact fun _ _ _ _ h => .inl h
 rintro k hI
 dsimp only at hI ⊢
 refine yS fun _ K7 => ?_
 refine yS fun _ K8 => ?_
 refine yR ?_
 refine yM rfl rfl ?_
 refine yM rfl rfl ?_
 refine ae rfl (bj rfl rfl (List.length_map _)) ?_
 refine ae rfl (cj rfl rfl rfl) ?_
 refine yN ?_
 dsimp only [St.put]
 refine K8 _ ?_
 refine bl rfl (fun hc => ?_) (fun hc => ?_)
 ·replace hc := of_decide_eq_true hc
  obtain ⟨x, hx⟩ : ∃ x, a[k]? = some x := cm (by omega)
  obtain ⟨y, hy⟩ : ∃ y, b[k]? = some y := cm (by omega)
  refine bn ?_
  refine K7 _ ?_
  refine yS fun _ K9 => ?_
  refine bq ?_
  refine yS fun _ K10 => ?_
  refine fw [(0, none), (1, none), (2, none), (3, none), (4, none), (5, none), (6, none), (7, none), (8, none)] (fun i => [].contains i) (fun i => [].contains i) (fun i => [0, 1, 2, 4, 5, 6, 8].contains i) [] (by kernel_rfl) (by kernel_rfl) ?_
  refine xM rfl rfl rfl rfl rfl ?_
  refine xM rfl rfl rfl rfl rfl ?_
  try dsimp only [St.put]
  refine ak rfl rfl rfl rfl (bf rfl rfl rfl rfl (bm (by assumption)) (Enc.len _)) ?_
  try dsimp only [St.put]
  refine af rfl rfl rfl rfl (ah rfl rfl (Enc.len _)) ?_
  refine xM rfl rfl rfl rfl rfl ?_
  refine xM rfl rfl rfl rfl rfl ?_
  try dsimp only [St.put]
  refine ak rfl rfl rfl rfl (bf rfl rfl rfl rfl (bm (by assumption)) (Enc.len _)) ?_
  try dsimp only [St.put]
  refine af rfl rfl rfl rfl (ah rfl rfl (Enc.len _)) ?_
  refine ak rfl rfl rfl rfl (v9 (x := x) (y := y) rfl rfl rfl) ?_
  refine dc ?_
  dsimp only [St.put]
  refine K10 _ ?_
  refine bl rfl (fun hc => ?_) (fun hc => ?_)
  ·try replace hc := of_decide_eq_true hc
   refine yS fun _ K11 => ?_
   refine yR ?_
   refine yA rfl rfl ?_
   refine yN ?_
   dsimp only [St.put]
   refine K11 _ ?_
   refine bk ?_
   refine bo rfl (by constructor) zN zS ?_
   exact vb (by
    have := mc hx hy (gn hc)
    simp [this])
  have hxy := ff hc
  refine bn ?_
  refine K9 _ ?_
  refine yR ?_
  refine yM rfl rfl ?_
  refine ae rfl (bx rfl rfl rfl (by omega)) ?_
  refine yA rfl rfl ?_
  refine yN ?_
  dsimp only [St.put]
  exact ⟨k + 1, by omega, ⟨by omega, ns hI.2 hx (hxy ▸ hy)⟩, ⟨⟨rfl, rfl⟩, zF, zB, zN, zX⟩⟩
 try replace hc := of_decide_eq_false hc
 refine co ?_
 refine K5 _ ?_
 refine yS fun _ K12 => ?_
 refine yR ?_
 refine yA rfl rfl ?_
 refine yN ?_
 dsimp only [St.put]
 refine K12 _ ?_
 refine bk ?_
 refine bo rfl (by constructor) zN zS ?_
 exact vb (by
  have h1 := hI.2
  rw [dd (by omega), dd (by omega)] at h1
  simp [h1])
/-! ### What a stretch is checked by -/
end Go.Proofs.YthboenlglkmnjaaDoor
namespace Go.Proofs.YthboenlglkmnjaaDoor
set_option maxRecDepth 10000
open Go Go.RowKit Go.AB
theorem oa : laidOutB Tryd.prog = true := by kernel_rfl
theorem ub9 : ∃ m, Tryd.prog.types.size = m + 3 := ⟨Tryd.prog.types.size - 3, by have : 3 ≤ Tryd.prog.types.size := of_decide_eq_true (by kernel_rfl); omega⟩
theorem re : Tryd.prog.underlying 3 = some (.int .i64) := by kernel_rfl
instance : KeyT Tryd.prog 3 Int where
 keyed := Go.Maps.int_keyed re
 has {E w x v} h := ⟨.int .i64 x, by
  have h1 := pz (qc h)
  simp [keyOf, mapKey, re, KeyV.kv, h1]⟩
end Go.Proofs.YthboenlglkmnjaaDoor
namespace Go.AB
open Go Go.RowKit
open Go.PB (Chap bd PlaceD)
def mo (n : Int) : Bool := decide (n < 97) || decide (122 < n)
theorem ue8 (s : ByteArray) : (u8s s).any (fun x => mo x.v) = !s.data.toList.all okc := by
 unfold u8s
 rw [List.any_map]
 induction s.data.toList with
 | nil => rfl
 | cons b l ih =>
  simp only [List.any_cons, List.all_cons, ih, Function.comp, okc, mo, Bool.not_and]
  congr 1
  have e1 : decide (((b.toNat : Nat) : Int) < 97) = !decide (97 ≤ b.toNat) := by by_cases h : 97 ≤ b.toNat <;> simp [h] <;> omega
  have e2 : decide ((122 : Int) < ((b.toNat : Nat) : Int)) = !decide (b.toNat ≤ 122) := by by_cases h : b.toNat ≤ 122 <;> simp [h] <;> omega
  rw [e1, e2]
theorem tv (s : ByteArray) : e8 s = (inB s.size 1 12 && !(u8s s).any fun x => mo x.v) := by rw [ue8]; simp [e8]
theorem wm (l : List ByteArray) : iz l = (inB l.length 1 10 && !l.any fun s => !e8 s) := by
 unfold iz
 congr 1
 rw [Bool.eq_iff_iff]; simp
/-- the numbers of some chapters -/
def jr (xs : List Int) : Int → Option C := fun x => bif decide (x ∈ xs) then some (.v (.bool true)) else none
theorem udg (xs : List Int) (x : Int) : (jr xs x).getD (jl (.bool false)) = .v (.bool (decide (x ∈ xs))) := by
 unfold jr
 cases decide (x ∈ xs) <;> rfl
theorem udf : jr [] = fun _ => none := by funext x; simp [jr]
theorem ude {t : bd} {k : Nat} {c : Chap} (h : t[k]? = some c) : fx (jr ((t.take k).map (·.id))) c.id (.v (.bool true)) = jr ((t.take (k + 1)).map (·.id)) := by
 funext x
 rw [pu (f := (·.id)) h]
 unfold fx jr
 by_cases hx : x = c.id
 ·simp [hx]
 simp [hx]
theorem oh (xs : List Int) (n : Nat) : ∀ x c, jr xs x = some c → C.low n c := by
 intro x c h
 unfold jr at h
 cases hd : decide (x ∈ xs) <;> rw [hd] at h
 ·cases h
 cases h; exact .v
theorem z5 {t : bd} (h : inB t.length 1 6 = false) : fy t = 10 := by simp [fy, ck, h]
theorem ri {t : bd} (h : t.all gl = false) : fy t = 10 := by simp [fy, ck, h]
theorem zz {t : bd} (h : ¬ (t.map (·.id)).Nodup) : fy t = 10 := by simp [fy, ck, h]
end Go.AB
namespace Go.Proofs.YthboenlglkmnjaaDoor
set_option maxRecDepth 10000
open Go.RowKit Go.AB
open Go.AB.Enc (cells)
open Go.PB (Chap bd PlaceD bh CopyD bw)
theorem ufv (xs : List ByteArray) (p : ByteArray → Bool) (k : Nat) (caps : List C) [Fun Tryd.prog k] (hp : ∀ x ∈ xs, Pure Tryd.prog k (.v (.string x) :: caps) (.v (.bool (p x)))) : Pure Tryd.prog 53 [lst xs, .fn (.func k) caps] (.v (.int .i64 (idxOf p xs))) := by
 refine cx Tryd.func53 rfl (fun m => .v) fun G nx => ?_
 simp only [Tryd.ntmps53, List.length_cons, List.length_nil, Nat.reduceAdd, Nat.reduceSub]
 refine b9 fun hlt => ?_
 dsimp only at hlt
 refine fj 0 (fun hf => ?_)
 replace hf := (fit_lst.1 hf).1
 refine yS fun _ K1 => ?_
 refine yR ?_
 refine yA rfl rfl ?_
 refine yN ?_
 dsimp only [St.put]
 refine K1 _ ?_
 refine yS fun _ K2 => ?_
 refine yS fun _ K3 => ?_
 refine yR ?_
 refine yM rfl rfl ?_
 refine ae rfl (bj rfl rfl (List.length_map _)) ?_
 refine yM rfl rfl ?_
 refine yN ?_
 dsimp only [St.put]
 refine K3 _ ?_
 refine bq ?_
 refine cg 9 ?_
 refine zQ ?_
 refine cn (G) zX ?_
 dsimp only
 refine cz (X := Nat) (fun k => k ≤ xs.length ∧ ∀ y ∈ xs.take k, p y = false) (fun k => xs.length - k) (fun k => [(4, .any), (5, .any), (8, .v (.int .i64 (k : Int)))]) (fun k G' => G') 0 rfl ?_ ?_ (fun _ _ h => h) ?_ ?_ ?_
 ·exact ⟨by simp, by simp⟩
 ·exact zF
 ·rintro k hI
  exact zL
 ·exact fun _ _ _ _ h => .inl h
 rintro k hI
 dsimp only at hI ⊢
 refine yS fun _ K4 => ?_
 refine yR ?_
 refine ae rfl (cj rfl rfl rfl) ?_
 refine yN ?_
 dsimp only [St.put]
 refine K4 _ ?_
 refine yS fun _ K5 => ?_
 refine bl rfl (fun hc => ?_) (fun hc => ?_)
 ·replace hc := of_decide_eq_true hc
  obtain ⟨x, hx⟩ : ∃ x, xs[k]? = some x := cm (by omega)
  refine bn ?_
  refine K5 _ ?_
  refine yS fun _ K6 => ?_
  refine bq ?_
  refine yS fun _ K7 => ?_
  refine yR ?_
  refine yM rfl rfl ?_
  refine yA rfl rfl ?_
  refine yN ?_
  dsimp only [St.put]
  refine K7 _ ?_
  refine yS fun _ K8 => ?_
  refine yR ?_
  refine yM rfl rfl ?_
  refine yM rfl rfl ?_
  refine yM rfl rfl ?_
  refine ae rfl (bf rfl rfl rfl rfl (bm (by assumption)) (Enc.len _)) ?_
  refine yL rfl rfl rfl ?_
  try dsimp only [St.put]
  refine av rfl (br rfl rfl rfl (hp x (dv hx)) ?_)
  refine yN ?_
  dsimp only [St.put]
  refine K8 _ ?_
  refine bl rfl (fun hc => ?_) (fun hc => ?_)
  ·skip
   refine yS fun _ K9 => ?_
   refine yR ?_
   refine yM rfl rfl ?_
   refine yA rfl rfl ?_
   refine yN ?_
   dsimp only [St.put]
   refine K9 _ ?_
   refine bk ?_
   refine bo rfl (by constructor) zN zS ?_
   exact vi (m6 hx hc hI.2).symm
  skip
  refine bn ?_
  refine K6 _ ?_
  refine yR ?_
  refine ae rfl (bx rfl rfl rfl (by omega)) ?_
  refine yM rfl rfl ?_
  refine yN ?_
  dsimp only [St.put]
  exact ⟨k + 1, by omega, ⟨by omega, fun y hy => by
    rw [List.take_add_one, hx] at hy
    simp only [Option.toList_some, List.mem_append, List.mem_singleton] at hy
    rcases hy with hy | rfl
    ·exact hI.2 y hy
    simpa using hc⟩, ⟨⟨rfl, rfl⟩, zF, zB, zN, zX⟩⟩
 try replace hc := of_decide_eq_false hc
 refine co ?_
 refine K2 _ ?_
 refine yS fun _ K10 => ?_
 refine yR ?_
 refine yA rfl rfl ?_
 refine yN ?_
 dsimp only [St.put]
 refine K10 _ ?_
 refine bk ?_
 refine bo rfl (by constructor) zN zS ?_
 exact vi (by
  rw [m7]
  have := hI.2
  rwa [dd (by omega)] at this)
theorem uf0 (xs : List U8) (p : U8 → Bool) (k : Nat) (caps : List C) [Fun Tryd.prog k] (hp : ∀ x ∈ xs, Pure Tryd.prog k (.v (.int .u8 x.v) :: caps) (.v (.bool (p x)))) : Pure Tryd.prog 66 [lst xs, .fn (.func k) caps] (.v (.int .i64 (idxOf p xs))) := by
 refine cx Tryd.func66 rfl (fun m => .v) fun G nx => ?_
 simp only [Tryd.ntmps66, List.length_cons, List.length_nil, Nat.reduceAdd, Nat.reduceSub]
 refine b9 fun hlt => ?_
 dsimp only at hlt
 refine fj 0 (fun hf => ?_)
 replace hf := (fit_lst.1 hf).1
 refine yS fun _ K1 => ?_
 refine yR ?_
 refine yA rfl rfl ?_
 refine yN ?_
 dsimp only [St.put]
 refine K1 _ ?_
 refine yS fun _ K2 => ?_
 refine yS fun _ K3 => ?_
 refine yR ?_
 refine yM rfl rfl ?_
 refine ae rfl (bj rfl rfl (List.length_map _)) ?_
 refine yM rfl rfl ?_
 refine yN ?_
 dsimp only [St.put]
 refine K3 _ ?_
 refine bq ?_
 refine cg 9 ?_
 refine zQ ?_
 refine cn (G) zX ?_
 dsimp only
 refine cz (X := Nat) (fun k => k ≤ xs.length ∧ ∀ y ∈ xs.take k, p y = false) (fun k => xs.length - k) (fun k => [(4, .any), (5, .any), (8, .v (.int .i64 (k : Int)))]) (fun k G' => G') 0 rfl ?_ ?_ (fun _ _ h => h) ?_ ?_ ?_
 ·exact ⟨by simp, by simp⟩
 ·exact zF
 ·rintro k hI
  exact zL
 ·exact fun _ _ _ _ h => .inl h
 rintro k hI
 dsimp only at hI ⊢
 refine yS fun _ K4 => ?_
 refine yR ?_
 refine ae rfl (cj rfl rfl rfl) ?_
 refine yN ?_
 dsimp only [St.put]
 refine K4 _ ?_
 refine yS fun _ K5 => ?_
 refine bl rfl (fun hc => ?_) (fun hc => ?_)
 ·replace hc := of_decide_eq_true hc
  obtain ⟨x, hx⟩ : ∃ x, xs[k]? = some x := cm (by omega)
  refine bn ?_
  refine K5 _ ?_
  refine yS fun _ K6 => ?_
  refine bq ?_
  refine yS fun _ K7 => ?_
  refine yR ?_
  refine yM rfl rfl ?_
  refine yA rfl rfl ?_
  refine yN ?_
  dsimp only [St.put]
  refine K7 _ ?_
  refine yS fun _ K8 => ?_
  refine yR ?_
  refine yM rfl rfl ?_
  refine yM rfl rfl ?_
  refine yM rfl rfl ?_
  refine ae rfl (bf rfl rfl rfl rfl (bm (by assumption)) (Enc.len _)) ?_
  refine yL rfl rfl rfl ?_
  try dsimp only [St.put]
  refine av rfl (br rfl rfl rfl (hp x (dv hx)) ?_)
  refine yN ?_
  dsimp only [St.put]
  refine K8 _ ?_
  refine bl rfl (fun hc => ?_) (fun hc => ?_)
  ·skip
   refine yS fun _ K9 => ?_
   refine yR ?_
   refine yM rfl rfl ?_
   refine yA rfl rfl ?_
   refine yN ?_
   dsimp only [St.put]
   refine K9 _ ?_
   refine bk ?_
   refine bo rfl (by constructor) zN zS ?_
   exact vi (m6 hx hc hI.2).symm
  skip
  refine bn ?_
  refine K6 _ ?_
  refine yR ?_
  refine ae rfl (bx rfl rfl rfl (by omega)) ?_
  refine yM rfl rfl ?_
  refine yN ?_
  dsimp only [St.put]
  exact ⟨k + 1, by omega, ⟨by omega, fun y hy => by
    rw [List.take_add_one, hx] at hy
    simp only [Option.toList_some, List.mem_append, List.mem_singleton] at hy
    rcases hy with hy | rfl
    ·exact hI.2 y hy
    simpa using hc⟩, ⟨⟨rfl, rfl⟩, zF, zB, zN, zX⟩⟩
 try replace hc := of_decide_eq_false hc
 refine co ?_
 refine K2 _ ?_
 refine yS fun _ K10 => ?_
 refine yR ?_
 refine yA rfl rfl ?_
 refine yN ?_
 dsimp only [St.put]
 refine K10 _ ?_
 refine bk ?_
 refine bo rfl (by constructor) zN zS ?_
 exact vi (by
  rw [m7]
  have := hI.2
  rwa [dd (by omega)] at this)
theorem uf3 (xs : List ByteArray) (p : ByteArray → Bool) (k : Nat) (caps : List C) [Fun Tryd.prog k] (hp : ∀ x ∈ xs, Pure Tryd.prog k (.v (.string x) :: caps) (.v (.bool (p x)))) : Pure Tryd.prog 56 [lst xs, .fn (.func k) caps] (.v (.bool (xs.any p))) := by
 refine cx Tryd.func56 rfl (fun m => .v) fun G nx => ?_
 simp only [Tryd.ntmps56, List.length_cons, List.length_nil, Nat.reduceAdd, Nat.reduceSub]
 refine b9 fun hlt => ?_
 dsimp only at hlt
 refine yS fun _ K1 => ?_
 refine yR ?_
 refine yA rfl rfl ?_
 refine yN ?_
 dsimp only [St.put]
 refine K1 _ ?_
 refine yS fun _ K2 => ?_
 refine yR ?_
 refine yM rfl rfl ?_
 refine yM rfl rfl ?_
 try dsimp only [St.put]
 refine av rfl (br rfl rfl rfl (ufv xs p k caps hp) ?_)
 refine ae rfl (mf rfl rfl rfl) ?_
 refine yA rfl rfl ?_
 refine yN ?_
 dsimp only [St.put]
 refine K2 _ ?_
 refine bk ?_
 refine bo rfl (by constructor) zN zS ?_
 exact vb m8
theorem uf8 (xs : List U8) (p : U8 → Bool) (k : Nat) (caps : List C) [Fun Tryd.prog k] (hp : ∀ x ∈ xs, Pure Tryd.prog k (.v (.int .u8 x.v) :: caps) (.v (.bool (p x)))) : Pure Tryd.prog 63 [lst xs, .fn (.func k) caps] (.v (.bool (xs.any p))) := by
 refine cx Tryd.func63 rfl (fun m => .v) fun G nx => ?_
 simp only [Tryd.ntmps63, List.length_cons, List.length_nil, Nat.reduceAdd, Nat.reduceSub]
 refine b9 fun hlt => ?_
 dsimp only at hlt
 refine yS fun _ K1 => ?_
 refine yR ?_
 refine yA rfl rfl ?_
 refine yN ?_
 dsimp only [St.put]
 refine K1 _ ?_
 refine yS fun _ K2 => ?_
 refine yR ?_
 refine yM rfl rfl ?_
 refine yM rfl rfl ?_
 try dsimp only [St.put]
 refine av rfl (br rfl rfl rfl (uf0 xs p k caps hp) ?_)
 refine ae rfl (mf rfl rfl rfl) ?_
 refine yA rfl rfl ?_
 refine yN ?_
 dsimp only [St.put]
 refine K2 _ ?_
 refine bk ?_
 refine bo rfl (by constructor) zN zS ?_
 exact vb m8
theorem ucn (n lo hi : Int) : Pure Tryd.prog 55 [.v (.int .i64 n), .elem [.v (.int .i64 lo)], .elem [.v (.int .i64 hi)]] (.v (.bool (mb n lo hi))) := by
 refine cx Tryd.func55 rfl (fun m => .v) fun G nx => ?_
 simp only [Tryd.ntmps55, List.length_cons, List.length_nil, Nat.reduceAdd, Nat.reduceSub]
 refine b9 fun hlt => ?_
 dsimp only at hlt
 refine yS fun _ K1 => ?_
 refine yR ?_
 refine yA rfl rfl ?_
 refine yN ?_
 dsimp only [St.put]
 refine K1 _ ?_
 refine yS fun _ K2 => ?_
 refine yR ?_
 refine yM rfl rfl ?_
 refine yL rfl rfl rfl ?_
 refine ae rfl (cj rfl rfl rfl) ?_
 refine yM rfl rfl ?_
 refine et (fun hs => ?_) (fun hs => ?_)
 ·try replace hs := of_decide_eq_true hs
  refine yK rfl ?_
  refine yK rfl ?_
  refine yK rfl ?_
  refine ae rfl (bt rfl rfl (by constructor)) ?_
  refine yA rfl rfl ?_
  refine yN ?_
  dsimp only [St.put]
  refine K2 _ ?_
  refine bk ?_
  refine bo rfl (by constructor) zN zS ?_
  exact vb (by simp [mb, hs]; try omega)
 try replace hs := of_decide_eq_false hs
 refine yM rfl rfl ?_
 refine yL rfl rfl rfl ?_
 refine ae rfl (g7 rfl rfl rfl) ?_
 refine ae rfl (bu rfl rfl (by constructor)) ?_
 refine yA rfl rfl ?_
 refine yN ?_
 dsimp only [St.put]
 refine K2 _ ?_
 refine bk ?_
 refine bo rfl (by constructor) zN zS ?_
 exact vb (by simp [mb, hs]; try omega)
theorem jk (lo hi : Int) (xs : List Int) : Pure Tryd.prog 40 [.v (.int .i64 lo), .v (.int .i64 hi), lst xs] (.v (.bool (qh lo hi xs))) := by
 refine cx Tryd.func40 rfl (fun m => .v) fun G nx => ?_
 simp only [Tryd.ntmps40, List.length_cons, List.length_nil, Nat.reduceAdd, Nat.reduceSub]
 refine b9 fun hlt => ?_
 dsimp only at hlt
 refine yS fun _ K1 => ?_
 refine yR ?_
 try dsimp only [St.put]
 refine yB rfl rfl rfl ?_
 try dsimp only [St.put]
 refine yB rfl rfl rfl ?_
 refine yA rfl rfl ?_
 refine yN ?_
 dsimp only [St.put]
 refine K1 _ ?_
 refine yS fun _ K2 => ?_
 refine yR ?_
 refine yM rfl rfl ?_
 refine ae rfl (pt rfl rfl) ?_
 try dsimp only [St.put]
 refine av rfl (br rfl rfl rfl (uf5 xs (fun n => mb n lo hi) _ _ fun x _ => ucn x lo hi) ?_)
 refine ae rfl (dt rfl rfl) ?_
 refine yA rfl rfl ?_
 refine yN ?_
 dsimp only [St.put]
 refine K2 _ ?_
 refine bk ?_
 refine bo rfl (by constructor) zN zS ?_
 rfl
theorem zq (n : Int) : Pure Tryd.prog 64 [.v (.int .u8 n)] (.v (.bool (mo n))) := by
 refine cx Tryd.func64 rfl (fun m => .v) fun G nx => ?_
 simp only [Tryd.ntmps64, List.length_cons, List.length_nil, Nat.reduceAdd, Nat.reduceSub]
 refine b9 fun hlt => ?_
 dsimp only at hlt
 refine yS fun _ K1 => ?_
 refine yR ?_
 refine yA rfl rfl ?_
 refine yN ?_
 dsimp only [St.put]
 refine K1 _ ?_
 refine yS fun _ K2 => ?_
 refine yR ?_
 refine yM rfl rfl ?_
 refine ae rfl (cj rfl rfl rfl) ?_
 refine yM rfl rfl ?_
 refine et (fun hs => ?_) (fun hs => ?_)
 ·try replace hs := of_decide_eq_true hs
  refine yK rfl ?_
  refine yK rfl ?_
  refine ae rfl (bt rfl rfl (by constructor)) ?_
  refine yA rfl rfl ?_
  refine yN ?_
  dsimp only [St.put]
  refine K2 _ ?_
  refine bk ?_
  refine bo rfl (by constructor) zN zS ?_
  exact vb (by simp [mo, hs]; try omega)
 try replace hs := of_decide_eq_false hs
 refine yM rfl rfl ?_
 refine ae rfl (g7 rfl rfl rfl) ?_
 refine ae rfl (bu rfl rfl (by constructor)) ?_
 refine yA rfl rfl ?_
 refine yN ?_
 dsimp only [St.put]
 refine K2 _ ?_
 refine bk ?_
 refine bo rfl (by constructor) zN zS ?_
 exact vb (by simp [mo, hs]; try omega)
theorem rb (s : ByteArray) : Pure Tryd.prog 58 [.v (.string s)] (.v (.bool (e8 s))) := by
 refine cx Tryd.func58 rfl (fun m => .v) fun G nx => ?_
 simp only [Tryd.ntmps58, List.length_cons, List.length_nil, Nat.reduceAdd, Nat.reduceSub]
 refine b9 fun hlt => ?_
 dsimp only at hlt
 refine yS fun _ K1 => ?_
 refine yR ?_
 refine yA rfl rfl ?_
 refine yN ?_
 dsimp only [St.put]
 refine K1 _ ?_
 refine yS fun _ K2 => ?_
 refine yR ?_
 refine yM rfl rfl ?_
 refine ae rfl (b8 rfl rfl) ?_
 try dsimp only [St.put]
 refine av rfl (dx rfl rfl rfl (by decide) (by decide) zR (by decide) ?_)
 try dsimp only [St.put]
 refine av rfl (br rfl rfl rfl (jk _ _ [(s.size : Int)]) ?_)
 refine yM rfl rfl ?_
 refine et (fun hs => ?_) (fun hs => ?_)
 ·rw [fq] at hs
  refine yM rfl rfl ?_
  try dsimp only [St.put]
  refine av rfl (ud2 (by kernel_rfl) rfl rfl ?_)
  try dsimp only [St.put]
  refine av rfl (br rfl rfl rfl (uf8 (u8s s) (fun x => mo x.v) _ _ fun x _ => zq x.v) ?_)
  refine ae rfl (dt rfl rfl) ?_
  refine ae rfl (bt rfl rfl (by constructor)) ?_
  refine yA rfl rfl ?_
  refine yN ?_
  dsimp only [St.put]
  refine K2 _ ?_
  refine bk ?_
  refine bo rfl (by constructor) zN zS ?_
  exact vb (by rw [tv, hs]; rfl)
 rw [fq] at hs
 refine yK rfl ?_
 refine yK rfl ?_
 refine yK rfl ?_
 refine yK rfl ?_
 refine ae rfl (bu rfl rfl (by constructor)) ?_
 refine yA rfl rfl ?_
 refine yN ?_
 dsimp only [St.put]
 refine K2 _ ?_
 refine bk ?_
 refine bo rfl (by constructor) zN zS ?_
 exact vb (by rw [tv, hs]; rfl)
theorem ucs (s : ByteArray) : Pure Tryd.prog 57 [.v (.string s)] (.v (.bool (!e8 s))) := by
 refine cx Tryd.func57 rfl (fun m => .v) fun G nx => ?_
 simp only [Tryd.ntmps57, List.length_cons, List.length_nil, Nat.reduceAdd, Nat.reduceSub]
 refine b9 fun hlt => ?_
 dsimp only at hlt
 refine yS fun _ K1 => ?_
 refine yR ?_
 refine yA rfl rfl ?_
 refine yN ?_
 dsimp only [St.put]
 refine K1 _ ?_
 refine yS fun _ K2 => ?_
 refine yR ?_
 refine yM rfl rfl ?_
 try dsimp only [St.put]
 refine av rfl (br rfl rfl rfl (rb _) ?_)
 refine ae rfl (dt rfl rfl) ?_
 refine yA rfl rfl ?_
 refine yN ?_
 dsimp only [St.put]
 refine K2 _ ?_
 refine bk ?_
 refine bo rfl (by constructor) zN zS ?_
 rfl
theorem ucr (t : bd) : Pure Tryd.prog 44 [dn t] (.v (.int .i64 (fy t))) := by
 refine cx Tryd.func44 rfl (fun m => .v) fun G nx => ?_
 simp only [Tryd.ntmps44, List.length_cons, List.length_nil, Nat.reduceAdd, Nat.reduceSub]
 refine b9 fun hlt => ?_
 dsimp only at hlt
 refine fj 0 (fun hf => ?_)
 replace hf := nr hf
 have hf0 := hf.len
 refine yS fun _ K1 => ?_
 refine yR ?_
 try dsimp only [St.put]
 refine yB rfl rfl rfl ?_
 refine yA rfl rfl ?_
 refine yN ?_
 dsimp only [St.put]
 refine K1 _ ?_
 refine uey ?_
 refine yS fun _ K2 => ?_
 refine yS fun _ K3 => ?_
 refine yR ?_
 refine yF rfl rfl rfl rfl ?_
 refine yL rfl rfl rfl ?_
 refine ae rfl (bj rfl rfl (List.length_map _)) ?_
 try dsimp only [St.put]
 refine av rfl (dx rfl rfl rfl (by decide) (by decide) zR (by decide) ?_)
 try dsimp only [St.put]
 refine av rfl (br rfl rfl rfl (jk _ _ [(t.length : Int)]) ?_)
 refine ae rfl (dt rfl rfl) ?_
 refine yN ?_
 dsimp only [St.put]
 refine K3 _ ?_
 refine bl rfl (fun hc => ?_) (fun hc => ?_)
 ·have hin : inB t.length 1 6 = false := by rw [fq] at hc; simpa using hc
  refine yS fun _ K4 => ?_
  refine yR ?_
  refine yA rfl rfl ?_
  refine yN ?_
  dsimp only [St.put]
  refine K4 _ ?_
  refine bk ?_
  refine bo rfl (by constructor) zN zS ?_
  exact vi (z5 hin).symm
 have hin : inB t.length 1 6 = true := by rw [fq] at hc; simpa using hc
 refine bn ?_
 refine K2 _ ?_
 refine yS fun _ K5 => ?_
 refine yR ?_
 refine yA rfl rfl ?_
 refine yN ?_
 dsimp only [St.put]
 refine K5 _ ?_
 refine yS fun _ K6 => ?_
 refine yR ?_
 try dsimp only [St.put]
 refine av rfl (ud1 (α := Int) rfl ?_)
 refine yA rfl rfl ?_
 refine yN ?_
 dsimp only [St.put]
 refine K6 _ ?_
 refine yS fun _ K7 => ?_
 refine ue1 ?_
 refine K7 _ ?_
 refine yS fun _ K8 => ?_
 refine yS fun _ K9 => ?_
 refine yR ?_
 refine yF rfl rfl rfl rfl ?_
 refine yL rfl rfl rfl ?_
 refine ae rfl (bj rfl rfl (List.length_map _)) ?_
 refine yM rfl rfl ?_
 refine yN ?_
 dsimp only [St.put]
 refine K9 _ ?_
 refine bq ?_
 refine cg 20 ?_
 refine zQ ?_
 refine cn (bc G nx (ei Tryd.prog 3 0 fun _ => none)) zX ?_
 dsimp only
 refine cz (X := Nat) (fun k => k ≤ t.length ∧ (t.take k).all gl = true ∧ ((t.take k).map (·.id)).Nodup) (fun k => t.length - k) (fun k => [(2, .v (.int .i64 0)), (3, .v (.int .i64 0)), (5, .any), (6, .any), (7, .any), (8, .any), (19, .v (.int .i64 (k : Int)))]) (fun k G' => bc G nx (ei Tryd.prog 3 k (jr ((t.take k).map (·.id))))) 0 rfl ?_ ?_ ?_ ?_ ?_ ?_
 ·exact ⟨by simp, by simp, by simp⟩
 ·exact zF
 ·rw [show jr ((t.take 0).map (·.id)) = fun _ => none from udf]
  exact zX
 ·rintro k hI
  exact (by (try dsimp only); repeat' (first | exact trivial | refine ⟨?_, ?_⟩ | exact .v | exact .any | refine .elem ?_ | exact ce _ _ | exact fh _ _ | exact e9 _ _ | exact fg _ (by (try dsimp only); omega) | exact .box (by (try dsimp only); omega) | exact fe | exact de | exact om (oh _ _) | refine fb ?_ ?_ | exact .arr (by (try dsimp only); omega) | exact .own (by (try dsimp only); omega) | exact .map (by (try dsimp only); omega) | exact ey _ | refine cv ?_ ?_ | exact ce _ _))
 ·rintro k hI
  exact (by (repeat' (refine ji ?_ (by (try dsimp only); omega) ?_)); all_goals (first | exact jp zS | (repeat' (first | exact trivial | refine ⟨?_, ?_⟩ | exact .v | exact .any | refine .elem ?_ | exact ce _ _ | exact fh _ _ | exact e9 _ _ | exact fg _ (by (try dsimp only); omega) | exact .box (by (try dsimp only); omega) | exact fe | exact de | exact om (oh _ _) | refine fb ?_ ?_ | exact .arr (by (try dsimp only); omega) | exact .own (by (try dsimp only); omega) | exact .map (by (try dsimp only); omega) | exact ey _ | refine cv ?_ ?_ | exact ce _ _))))
 rintro k hI
 dsimp only at hI ⊢
 refine yS fun _ K10 => ?_
 refine yR ?_
 refine ae rfl (cj rfl rfl rfl) ?_
 refine yN ?_
 dsimp only [St.put]
 refine K10 _ ?_
 refine yS fun _ K11 => ?_
 refine bl rfl (fun hc => ?_) (fun hc => ?_)
 ·replace hc := of_decide_eq_true hc
  obtain ⟨c, hx⟩ : ∃ x, t[k]? = some x := cm (by omega)
  have hf1 := hf.lines c (dv hx)
  refine bn ?_
  refine K11 _ ?_
  refine yS fun _ K12 => ?_
  refine bq ?_
  refine yS fun _ K13 => ?_
  refine yR ?_
  refine ae rfl (bf rfl rfl rfl rfl (bm (by assumption)) (Enc.len _)) ?_
  refine yE rfl rfl rfl ?_
  try dsimp only [St.put]
  refine av rfl (di rfl ?_)
  try dsimp only [St.put]
  refine av rfl (c8 rfl rfl rfl zG rfl rfl (by rfl) ?_)
  refine yN ?_
  dsimp only [St.put]
  refine K13 _ ?_
  refine ep (i := 6) rfl zG zC ?_
  dsimp only
  refine yS fun _ K14 => ?_
  refine cg 20 ?_
  refine zQ ?_
  refine ky (X := Bool) (fun b => (b = true → inB c.id 0 9999 = false ∨ c.id ∈ (t.take k).map (·.id) ∨ inB c.lines.length 1 10 = false) ∧ (b = false → inB c.id 0 9999 = true ∧ ¬ c.id ∈ (t.take k).map (·.id) ∧ inB c.lines.length 1 10 = true)) (fun b => [(41, .v (.bool b))]) (fun b G' => G') rfl ?_ (fun _ _ _ _ h => .inl h) ?_ ?_
  ·rintro b hI
   exact (by (try dsimp only); repeat' (first | exact trivial | refine ⟨?_, ?_⟩ | exact .v | exact .any | refine .elem ?_ | exact ce _ _ | exact fh _ _ | exact e9 _ _ | exact fg _ (by (try dsimp only); omega) | exact .box (by (try dsimp only); omega) | exact fe | exact de | exact om (oh _ _) | refine fb ?_ ?_ | exact .arr (by (try dsimp only); omega) | exact .own (by (try dsimp only); omega) | exact .map (by (try dsimp only); omega) | exact ey _ | refine cv ?_ ?_ | exact ce _ _))
  ·refine yR ?_
   refine yF rfl rfl rfl rfl ?_
   refine yL rfl rfl rfl ?_
   try dsimp only [St.put]
   refine av rfl (dx rfl rfl rfl (by decide) (by decide) zR (by decide) ?_)
   try dsimp only [St.put]
   refine av rfl (br rfl rfl rfl (jk _ _ [c.id]) ?_)
   refine ae rfl (dt rfl rfl) ?_
   refine yM rfl rfl ?_
   refine et (fun hs => ?_) (fun hs => ?_)
   ·have h5 : inB c.id 0 9999 = false := by rw [fq] at hs; simpa using hs
    refine yK rfl ?_
    refine yK rfl ?_
    refine yK rfl ?_
    refine yK rfl ?_
    refine ae rfl (bt rfl rfl (by constructor)) ?_
    refine yM rfl rfl ?_
    refine yK rfl ?_
    refine yK rfl ?_
    refine yK rfl ?_
    refine yK rfl ?_
    refine yK rfl ?_
    refine yK rfl ?_
    refine ae rfl (bt rfl rfl (by constructor)) ?_
    refine yN ?_
    dsimp only [St.put]
    refine ⟨_, ?_, ⟨⟨rfl, rfl⟩, zF, zB, zN, zX⟩⟩
    first
     | (exact ⟨fun _ => .inl h5, fun h => by cases h⟩)
     | (exact ⟨fun _ => .inr (.inl h11), fun h => by cases h⟩)
     | (rw [fq]; exact ⟨fun h => .inr (.inr (by simpa using h)), fun h => ⟨h5, h11, by simpa using h⟩⟩)
   have h5 : inB c.id 0 9999 = true := by rw [fq] at hs; simpa using hs
   refine yM rfl rfl ?_
   refine yF rfl rfl rfl rfl ?_
   refine yL rfl rfl rfl ?_
   try dsimp only [St.put]
   refine aa rfl (uah c.id rfl rfl zG trivial rfl (udg _ _)) ?_
   refine ae rfl (bu rfl rfl (by constructor)) ?_
   refine yM rfl rfl ?_
   refine et (fun hs => ?_) (fun hs => ?_)
   ·have h11 := of_decide_eq_true hs
    refine yK rfl ?_
    refine yK rfl ?_
    refine yK rfl ?_
    refine yK rfl ?_
    refine yK rfl ?_
    refine yK rfl ?_
    refine ae rfl (bt rfl rfl (by constructor)) ?_
    refine yN ?_
    dsimp only [St.put]
    refine ⟨_, ?_, ⟨⟨rfl, rfl⟩, zF, zB, zN, zX⟩⟩
    first
     | (exact ⟨fun _ => .inl h5, fun h => by cases h⟩)
     | (exact ⟨fun _ => .inr (.inl h11), fun h => by cases h⟩)
     | (rw [fq]; exact ⟨fun h => .inr (.inr (by simpa using h)), fun h => ⟨h5, h11, by simpa using h⟩⟩)
   have h11 := of_decide_eq_false hs
   refine yF rfl rfl rfl rfl ?_
   refine yL rfl rfl rfl ?_
   refine ae rfl (bj rfl rfl (List.length_map _)) ?_
   try dsimp only [St.put]
   refine av rfl (dx rfl rfl rfl (by decide) (by decide) zR (by decide) ?_)
   try dsimp only [St.put]
   refine av rfl (br rfl rfl rfl (jk _ _ [(c.lines.length : Int)]) ?_)
   refine ae rfl (dt rfl rfl) ?_
   refine ae rfl (bu rfl rfl (by constructor)) ?_
   refine yN ?_
   dsimp only [St.put]
   refine ⟨_, ?_, ⟨⟨rfl, rfl⟩, zF, zB, zN, zX⟩⟩
   first
    | (exact ⟨fun _ => .inl h5, fun h => by cases h⟩)
    | (exact ⟨fun _ => .inr (.inl h11), fun h => by cases h⟩)
    | (rw [fq]; exact ⟨fun h => .inr (.inr (by simpa using h)), fun h => ⟨h5, h11, by simpa using h⟩⟩)
  rintro b hst
  dsimp only at hst ⊢
  refine bl rfl (fun hc => ?_) (fun hc => ?_)
  ·replace hst := hst.1 hc
   refine yS fun _ K16 => ?_
   refine yR ?_
   refine yA rfl rfl ?_
   refine yN ?_
   dsimp only [St.put]
   refine K16 _ ?_
   refine bk ?_
   refine bo rfl (by constructor) zN zS ?_
   exact vi (by
    rcases hst with h | h | h
    ·exact (ri (gu hx (by simp [gl, h]))).symm
    ·refine (zz fun hn => ?_).symm
     have h2 : ((t.take (k + 1)).map (·.id)).Nodup := hn.sublist (List.Sublist.map _ (List.take_sublist _ _))
     rw [pu (f := (·.id)) hx, List.nodup_append] at h2
     exact h2.2.2 _ h _ (List.mem_singleton.2 rfl) rfl
    exact (ri (gu hx (by simp [gl, h]))).symm)
  replace hst := hst.2 hc
  refine bn ?_
  refine K14 _ ?_
  refine yS fun _ K17 => ?_
  refine yR ?_
  refine yM rfl rfl ?_
  refine yF rfl rfl rfl rfl ?_
  refine yL rfl rfl rfl ?_
  try dsimp only [St.put]
  refine av rfl (ud0 (c.id) rfl rfl rfl zG rfl (ude hx) ?_)
  refine yN ?_
  dsimp only [St.put]
  refine K17 _ ?_
  refine yS fun _ K18 => ?_
  refine yR ?_
  refine yF rfl rfl rfl rfl ?_
  refine yL rfl rfl rfl ?_
  refine ae rfl (bj rfl rfl (List.length_map _)) ?_
  refine yM rfl rfl ?_
  refine yN ?_
  dsimp only [St.put]
  refine K18 _ ?_
  refine bq ?_
  refine cg 49 ?_
  refine zQ ?_
  refine cn (bc G nx (ei Tryd.prog 3 (k + 1) (jr ((t.take (k + 1)).map (·.id))))) zX ?_
  dsimp only
  refine cz (X := Nat) (fun n => n ≤ c.lines.length ∧ (c.lines.take n).all iz = true) (fun n => c.lines.length - n) (fun n => [(8, .any), (48, .v (.int .i64 (n : Int)))]) (fun n G' => G') 0 rfl ?_ ?_ (fun _ _ h => h) ?_ ?_ ?_
  ·exact ⟨by simp, by simp⟩
  ·exact zF
  ·rintro n hI
   exact (by (try dsimp only); repeat' (first | exact trivial | refine ⟨?_, ?_⟩ | exact .v | exact .any | refine .elem ?_ | exact ce _ _ | exact fh _ _ | exact e9 _ _ | exact fg _ (by (try dsimp only); omega) | exact .box (by (try dsimp only); omega) | exact fe | exact de | exact om (oh _ _) | refine fb ?_ ?_ | exact .arr (by (try dsimp only); omega) | exact .own (by (try dsimp only); omega) | exact .map (by (try dsimp only); omega) | exact ey _ | refine cv ?_ ?_ | exact ce _ _))
  ·exact fun _ _ _ _ h => .inl h
  rintro n hJ
  dsimp only at hJ ⊢
  refine yS fun _ K19 => ?_
  refine yR ?_
  refine ae rfl (cj rfl rfl rfl) ?_
  refine yN ?_
  dsimp only [St.put]
  refine K19 _ ?_
  refine yS fun _ K20 => ?_
  refine bl rfl (fun hc => ?_) (fun hc => ?_)
  ·replace hc := of_decide_eq_true hc
   obtain ⟨l, hl⟩ : ∃ x, c.lines[n]? = some x := cm (by omega)
   have hf2 := hf.words c (dv hx) l (dv hl)
   refine bn ?_
   refine K20 _ ?_
   refine yS fun _ K21 => ?_
   refine bq ?_
   refine yS fun _ K22 => ?_
   refine yR ?_
   refine ae rfl (bf rfl rfl rfl rfl (bm (by assumption)) (Enc.len _)) ?_
   refine yL rfl rfl rfl ?_
   refine yA rfl rfl ?_
   refine yN ?_
   dsimp only [St.put]
   refine K22 _ ?_
   refine cg 49 ?_
   refine zQ ?_
   refine ky (X := Bool) (fun b => b = !iz l) (fun b => [(60, .v (.bool b))]) (fun b G' => G') rfl ?_ (fun _ _ _ _ h => .inl h) ?_ ?_
   ·rintro b hI
    exact (by (try dsimp only); repeat' (first | exact trivial | refine ⟨?_, ?_⟩ | exact .v | exact .any | refine .elem ?_ | exact ce _ _ | exact fh _ _ | exact e9 _ _ | exact fg _ (by (try dsimp only); omega) | exact .box (by (try dsimp only); omega) | exact fe | exact de | exact om (oh _ _) | refine fb ?_ ?_ | exact .arr (by (try dsimp only); omega) | exact .own (by (try dsimp only); omega) | exact .map (by (try dsimp only); omega) | exact ey _ | refine cv ?_ ?_ | exact ce _ _))
   ·refine yR ?_
    refine yM rfl rfl ?_
    refine ae rfl (bj rfl rfl (List.length_map _)) ?_
    try dsimp only [St.put]
    refine av rfl (dx rfl rfl rfl (by decide) (by decide) zR (by decide) ?_)
    try dsimp only [St.put]
    refine av rfl (br rfl rfl rfl (jk _ _ [(l.length : Int)]) ?_)
    refine ae rfl (dt rfl rfl) ?_
    refine yM rfl rfl ?_
    refine et (fun hs => ?_) (fun hs => ?_)
    ·have h5 : inB l.length 1 10 = false := by rw [fq] at hs; simpa using hs
     refine yK rfl ?_
     refine yK rfl ?_
     refine ae rfl (bt rfl rfl (by constructor)) ?_
     refine yN ?_
     dsimp only [St.put]
     refine ⟨_, ?_, ⟨⟨rfl, rfl⟩, zF, zB, zN, zX⟩⟩
     rw [wm, h5]
     simp
    have h5 : inB l.length 1 10 = true := by rw [fq] at hs; simpa using hs
    refine yM rfl rfl ?_
    try dsimp only [St.put]
    refine av rfl (br rfl rfl rfl (uf3 l (fun s => !e8 s) _ _ fun s _ => ucs s) ?_)
    refine ae rfl (bu rfl rfl (by constructor)) ?_
    refine yN ?_
    dsimp only [St.put]
    refine ⟨_, ?_, ⟨⟨rfl, rfl⟩, zF, zB, zN, zX⟩⟩
    rw [wm, h5]
    simp
   rintro b hst2
   dsimp only at hst2 ⊢
   refine bl rfl (fun hc => ?_) (fun hc => ?_)
   ·have hln : iz l = false := by rw [hc] at hst2; simpa using hst2.symm
    have her : fy t = 10 := ri (gu hx (by simp [gl, gu hl hln]))
    refine yS fun _ K24 => ?_
    refine yR ?_
    refine yA rfl rfl ?_
    refine yN ?_
    dsimp only [St.put]
    refine K24 _ ?_
    refine co ?_
    refine K8 _ ?_
    refine yS fun _ K25 => ?_
    refine yR ?_
    refine yM rfl rfl ?_
    refine yA rfl rfl ?_
    refine yN ?_
    dsimp only [St.put]
    refine K25 _ ?_
    refine bk ?_
    refine bo rfl (by constructor) zN zS ?_
    exact vi her.symm
   have hln : iz l = true := by rw [hc] at hst2; simpa using hst2.symm
   refine bn ?_
   refine K21 _ ?_
   refine yR ?_
   refine ae rfl (bx rfl rfl rfl (by omega)) ?_
   refine yM rfl rfl ?_
   refine yN ?_
   dsimp only [St.put]
   exact ⟨n + 1, by omega, ⟨by omega, by rw [ja hl, hJ.2, hln]; rfl⟩, ⟨⟨rfl, rfl⟩, zF, zB, zN, zX⟩⟩
  try replace hc := of_decide_eq_false hc
  refine co ?_
  refine K12 _ ?_
  refine yR ?_
  refine ae rfl (bx rfl rfl rfl (by omega)) ?_
  refine yM rfl rfl ?_
  refine yN ?_
  dsimp only [St.put]
  exact ⟨k + 1, by omega, ⟨by omega, by
    rw [ja hx, hI.2.1]
    have h1 := hJ.2
    rw [dd (by omega)] at h1
    simp [gl, hst.1, hst.2.2, h1], by
    rw [pu (f := (·.id)) hx]
    exact sb hI.2.2 hst.2.1⟩, ⟨⟨rfl, rfl⟩, zF, zB, zN, zX⟩⟩
 have hk : t.length ≤ k := by have := of_decide_eq_false hc; omega
 have her : fy t = 0 := by
  have h1 := hI.2
  rw [dd hk] at h1
  simp [fy, ck, hin, h1.1, h1.2]
 refine co ?_
 refine K8 _ ?_
 refine yS fun _ K26 => ?_
 refine yR ?_
 refine yM rfl rfl ?_
 refine yA rfl rfl ?_
 refine yN ?_
 dsimp only [St.put]
 refine K26 _ ?_
 refine bk ?_
 refine bo rfl (by constructor) zN zS ?_
 exact vi her.symm
end Go.Proofs.YthboenlglkmnjaaDoor
namespace Go.AB
open Go Go.RowKit
open Go.AB.Enc (cells)
open Go.PB (Chap bd PlaceD)
end Go.AB
namespace Go.Proofs.YthboenlglkmnjaaDoor
set_option maxRecDepth 10000
open Go.RowKit Go.AB
open Go.AB.Enc (cells)
open Go.PB (Chap bd PlaceD bh CopyD bw)
end Go.Proofs.YthboenlglkmnjaaDoor
namespace Go.AB
open Go Go.RowKit
open Go.AB.Enc (cells)
open Go.PB (Chap bd PlaceD bh CopyD bw)

section
variable {E : Env} {w : World}
theorem R.okV {c : C} {v : Value} (h : R E w c v) (h1 : c.one = true) : okV v = true := by
 cases h with
 | v h => exact h
 | list => rfl
 | elem => rfl
 | box => rfl
 | arr => rfl
 | own => rfl
 | fn => rfl
 | map => rfl
 | agg => cases h1
 | tup => cases h1
 | any => cases h1
theorem R.exact {c : C} {v : Value} (h : R E w c v) (h1 : c.one = true) : R E w (.v v) v := .v (h.okV h1)
theorem Rs.exact {cs : List C} {vs : List Value} (h : Rs E w cs vs) (h1 : ∀ c ∈ cs, c.one = true) : Rs E w (vs.map .v) vs := by
 refine ⟨by simp, fun j c v hc hv => ?_⟩
 rw [List.getElem?_map, hv] at hc
 simp only [Option.map_some, Option.some.injEq] at hc
 subst hc
 have hlt : j < cs.length := by rw [← h.1]; exact (List.getElem?_eq_some_iff.1 hv).1
 exact (h.2 j _ v (List.getElem?_eq_getElem hlt) hv).exact (h1 _ (List.getElem_mem hlt))
theorem R.elem_exact {cs : List C} {v : Value} (h : R E w (.elem cs) v) : ∃ vs : List Value, R E w (.elem (vs.map .v)) v ∧ Rs E w cs vs := by
 cases h with
 | @elem _ b off us h1 h2 h3 h4 =>
  have hrs : Rs E w cs ((List.range cs.length).map us) := ⟨by simp, fun j c v hc hv => by
   rw [List.getElem?_map] at hv
   have hlt := (List.getElem?_eq_some_iff.1 hc).1
   rw [List.getElem?_range hlt] at hv
   simp only [Option.map_some, Option.some.injEq] at hv
   subst hv
   exact h4 j c hc⟩
  refine ⟨(List.range cs.length).map us, .elem (us := us) (by simpa using h1) (fun c hc => ?_) (by simpa using h3) (fun j c hc => ?_), hrs⟩
  ·obtain ⟨x, _, rfl⟩ := List.mem_map.1 hc; rfl
  ·have hex := hrs.exact h2
   rw [List.getElem?_map, List.getElem?_map] at hc
   by_cases hlt : j < cs.length
   ·rw [List.getElem?_range hlt] at hc
    simp only [Option.map_some, Option.some.injEq] at hc
    subst hc
    exact (h4 j _ (List.getElem?_eq_getElem hlt)).exact (h2 _ (List.getElem_mem hlt))
   ·rw [List.getElem?_eq_none (by simp; omega)] at hc; cases hc

def jv {α : Type} (sz : Nat) : Nat → List α → List (List α)
 | 0, _ => []
 | n + 1, l => l.take sz :: jv sz n (l.drop sz)
theorem yf {α : Type} (sz : Nat) : ∀ (n : Nat) (l : List α), (jv sz n l).length = n
 | 0, _ => rfl
 | n + 1, l => by simp [jv, yf sz n]
theorem yg {α : Type} (sz : Nat) : ∀ (n : Nat) (l : List α), l.length = n * sz → (jv sz n l).flatten = l
 | 0, l, h => by simp at h; subst h; rfl
 | n + 1, l, h => by
  rw [jv, List.flatten_cons, yg sz n (l.drop sz) (by rw [List.length_drop, h, Nat.add_mul]; omega), List.take_append_drop]
theorem s7 {α : Type} (sz : Nat) : ∀ (n k : Nat) (l : List α), k < n → (jv sz n l)[k]? = some ((l.drop (k * sz)).take sz)
 | 0, k, l, h => by omega
 | n + 1, 0, l, h => by simp [jv]
 | n + 1, k + 1, l, h => by
  rw [jv, List.getElem?_cons_succ, s7 sz n k (l.drop sz) (by omega), List.drop_drop, Nat.add_mul]
  congr 3; omega
theorem R.list_exact {rows : List (List C)} {tok : Tok} {v : Value} (h : R E w (.list rows tok) v) : ∃ vr : List (List Value), R E w (.list (vr.map fun r => r.map .v) .none) v ∧ vr.length = rows.length ∧ rows.length ≤ maxLen ∧ ∀ (k : Nat) (row : List C), rows[k]? = some row → ∃ vs, vr[k]? = some vs ∧ Rs E w row vs := by
 obtain ⟨a, cap, sz, us, rfl, h1, h2, h3, h4, h5, h6, h7, _⟩ := R.list_inv h
 have hul : us.length = rows.length * sz := by rw [h6.1]; exact i0 h4
 have hfl := yg sz rows.length us hul
 have hlen := yf sz rows.length us
 have hex : Rs E w (us.map .v) us := h6.exact fun c hc => by
  obtain ⟨r, hr, hcr⟩ := List.mem_flatten.1 hc
  exact h5 r hr c hcr
 have hrow : ∀ (k : Nat) (row : List C), rows[k]? = some row → Rs E w row ((us.drop (k * sz)).take sz) := fun k row hk => by
  have hlt := (List.getElem?_eq_some_iff.1 hk).1
  have hrl := h4 row (List.mem_of_getElem? hk)
  have hm : (k + 1) * sz ≤ rows.length * sz := Nat.mul_le_mul_right _ hlt
  rw [Nat.add_mul] at hm
  refine ⟨by rw [List.length_take, List.length_drop]; omega, fun j c x hc hx => ?_⟩
  have hj : j < sz := by rw [← hrl]; exact (List.getElem?_eq_some_iff.1 hc).1
  rw [List.getElem?_take, if_pos hj, List.getElem?_drop] at hx
  exact h6.2 _ c x (oq h4 hk hc) hx
 have hfm : ((jv sz rows.length us).map fun r => r.map C.v).flatten = us.map .v := by
  conv => rhs; rw [← hfl]
  rw [List.map_flatten]
 refine ⟨jv sz rows.length us, ?_, hlen, Nat.le_trans h1 h2, fun k row hk => ⟨_, s7 sz _ k us (List.getElem?_eq_some_iff.1 hk).1, hrow k row hk⟩⟩
 have := R.mk_list (E := E) (w := w) (rows := (jv sz rows.length us).map fun r => r.map C.v) (a := a) (cap := cap) (sz := sz) (us := us) (tok := .none) (by simpa [hlen] using h1) h2 h3 (fun r hr => by
   obtain ⟨x, hx, rfl⟩ := List.mem_map.1 hr
   obtain ⟨k, hk⟩ := List.getElem?_of_mem hx
   have hlt := (List.getElem?_eq_some_iff.1 hk).1
   rw [hlen] at hlt
   rw [s7 sz _ k us hlt] at hk
   simp only [Option.some.injEq] at hk
   subst hk
   have hm : (k + 1) * sz ≤ rows.length * sz := Nat.mul_le_mul_right _ hlt
   rw [Nat.add_mul] at hm
   rw [List.length_map, List.length_take, List.length_drop]; omega) (fun r hr c hc => by
   obtain ⟨x, _, rfl⟩ := List.mem_map.1 hr
   obtain ⟨y, _, rfl⟩ := List.mem_map.1 hc
   rfl) (by rw [hfm]; exact hex) (by
   rcases h7 with rfl | ⟨b, off, e, k1, k2⟩
   ·exact .inl (by simp [jv])
   ·exact .inr ⟨b, off, e, k1, k2⟩) (by simp) (by simp) (by simp)
 simpa [hlen] using this
end

/-- A text, value by value. -/
structure ze (L : Nat → Nat) (Ws : World) (t : bd) (V : Value) (lv : Nat → Value) (wv : Nat → Nat → Value) : Prop where
 top : Known L Ws V (.list (t.mapIdx fun k c => [.v (.int .i64 c.id), .v (lv k)]) .none)
 len : t.length ≤ 9223372036854775807
 lines : ∀ (k : Nat) (c : Chap), t[k]? = some c → Known L Ws (lv k) (.list (c.lines.mapIdx fun n _ => [.v (wv k n)]) .none) ∧ c.lines.length ≤ 9223372036854775807
 words : ∀ (k : Nat) (c : Chap) (n : Nat) (l : List ByteArray), t[k]? = some c → c.lines[n]? = some l → Known L Ws (wv k n) (lst l) ∧ l.length ≤ 9223372036854775807
theorem zy {E : Env} {W : World} {t : bd} {V : Value} (h0 : E.nx = 0) (h : R E W (lst t) V) : ∃ lv wv, ze E.L W t V lv wv := by
 obtain ⟨vr, h1, h2, h3, h4⟩ := R.list_exact h
 rw [List.length_map] at h2 h3
 have hmax : maxLen = 9223372036854775807 := rfl
 have hrow : ∀ (k : Nat) (c : Chap), t[k]? = some c → ∃ v, vr[k]? = some [.int .i64 c.id, v] ∧ R E W (lst c.lines) v := fun k c hk => by
  obtain ⟨vs, q1, q2⟩ := h4 k (cells c) (bm hk)
  match vs, q2 with
  | [a, v], q2 =>
   have e1 := (q2.2 0 _ _ rfl rfl).v_inv
   subst e1
   exact ⟨v, q1, q2.2 1 (lst c.lines) _ rfl rfl⟩
  | [], q2 => exact absurd q2.1 (by simp [cells])
  | [_], q2 => exact absurd q2.1 (by simp [cells])
  | _ :: _ :: _ :: _, q2 => exact absurd q2.1 (by simp [cells])
 have hlv : ∀ k : Nat, ∃ v, ∀ c : Chap, t[k]? = some c → vr[k]? = some [.int .i64 c.id, v] ∧ R E W (lst c.lines) v := fun k => by
  cases hk : t[k]? with
  | none => exact ⟨undef, fun c hc => by cases hc⟩
  | some c =>
   obtain ⟨v, q1, q2⟩ := hrow k c hk
   exact ⟨v, fun c' hc => by cases hc; exact ⟨q1, q2⟩⟩
 obtain ⟨lv, hlv⟩ := Classical.axiomOfChoice hlv
 have hwv : ∀ k : Nat, ∃ f : Nat → Value, ∀ c : Chap, t[k]? = some c → R E W (.list (c.lines.mapIdx fun n _ => [.v (f n)]) .none) (lv k) ∧ c.lines.length ≤ maxLen ∧ ∀ (n : Nat) (l : List ByteArray), c.lines[n]? = some l → R E W (lst l) (f n) := fun k => by
  cases hk : t[k]? with
  | none => exact ⟨fun _ => undef, fun c hc => by cases hc⟩
  | some c =>
   obtain ⟨_, hl⟩ := hlv k c hk
   obtain ⟨wr, r1, r2, r3, r4⟩ := R.list_exact hl
   rw [List.length_map] at r2 r3
   have hw : ∀ n : Nat, ∃ v, ∀ l : List ByteArray, c.lines[n]? = some l → wr[n]? = some [v] ∧ R E W (lst l) v := fun n => by
    cases hn : c.lines[n]? with
    | none => exact ⟨undef, fun l hl => by cases hl⟩
    | some l =>
     obtain ⟨vs, q1, q2⟩ := r4 n (cells l) (bm hn)
     match vs, q2 with
     | [v], q2 => exact ⟨v, fun l' hl' => by cases hl'; exact ⟨q1, q2.2 0 (lst l) _ rfl rfl⟩⟩
     | [], q2 => exact absurd q2.1 (by simp [cells])
     | _ :: _ :: _, q2 => exact absurd q2.1 (by simp [cells])
   obtain ⟨f, hf⟩ := Classical.axiomOfChoice hw
   refine ⟨f, fun c' hc => ?_⟩
   cases hc
   refine ⟨?_, r3, fun n l hn => (hf n l hn).2⟩
   have : (wr.map fun r => r.map C.v) = c.lines.mapIdx fun n _ => [C.v (f n)] := by
    apply List.ext_getElem?
    intro n
    rw [List.getElem?_map, List.getElem?_mapIdx]
    cases hn : c.lines[n]? with
    | none =>
     have : wr[n]? = none := by rw [List.getElem?_eq_none_iff] at hn ⊢; omega
     rw [this]; rfl
    | some l => rw [(hf n l hn).1]; rfl
   rw [← this]; exact r1
 obtain ⟨wv, hwv⟩ := Classical.axiomOfChoice hwv
 refine ⟨lv, wv, Known.of h0 ?_, by rw [← hmax]; exact h3, fun k c hk => ⟨Known.of h0 (hwv k c hk).1, by rw [← hmax]; exact (hwv k c hk).2.1⟩, fun k c n l hk hn => ?_⟩
 ·have : (vr.map fun r => r.map C.v) = t.mapIdx fun k c => [C.v (.int .i64 c.id), C.v (lv k)] := by
   apply List.ext_getElem?
   intro k
   rw [List.getElem?_map, List.getElem?_mapIdx]
   cases hk : t[k]? with
   | none =>
    have : vr[k]? = none := by rw [List.getElem?_eq_none_iff] at hk ⊢; omega
    rw [this]; rfl
   | some c => rw [(hlv k c hk).1]; rfl
  rw [← this]; exact h1
 ·have := (hwv k c hk).2.2 n l hn
  refine ⟨Known.of h0 this, ?_⟩
  obtain ⟨a, cap, _, _, _, q1, q2, _⟩ := R.list_inv this
  rw [List.length_map] at q1
  rw [← hmax]; omega

/-! ### All places, with their words -/
abbrev PW := PlaceD × ByteArray
def iy (k n : Nat) (l : List ByteArray) : List PW := l.mapIdx fun w s => (⟨k, n, w⟩, s)
def iq (k : Nat) (ls : List (List ByteArray)) : List PW := (ls.mapIdx fun n l => iy k n l).flatten
def dq (t : bd) : List PW := (t.mapIdx fun k c => iq k c.lines).flatten
def encP (x : PW) : List Value := [.agg #[.int .i64 x.1.ch, .int .i64 x.1.ln, .int .i64 x.1.wd], .string x.2]
def clP (x : PW) : List C := [.agg [.v (.int .i64 x.1.ch), .v (.int .i64 x.1.ln), .v (.int .i64 x.1.wd)], .v (.string x.2)]
theorem udv {E : Env} {W : World} {k n w : Int} {s : ByteArray} {vs : List Value} (h : Rs E W [.agg [.v (.int .i64 k), .v (.int .i64 n), .v (.int .i64 w)], .v (.string s)] vs) : vs = encP (⟨k, n, w⟩, s) := by
 match vs, h with
 | [a, b], h =>
  have e2 := (h.2 1 _ _ rfl rfl).v_inv
  obtain ⟨us, e1, hu, _⟩ := (h.2 0 _ _ rfl rfl).agg_inv
  match us, hu with
  | [x, y, z], hu =>
   have q1 := (hu.2 0 _ _ rfl rfl).v_inv
   have q2 := (hu.2 1 _ _ rfl rfl).v_inv
   have q3 := (hu.2 2 _ _ rfl rfl).v_inv
   subst q1; subst q2; subst q3; subst e1; subst e2; rfl
  | [], hu => exact absurd hu.1 (by simp)
  | [_], hu => exact absurd hu.1 (by simp)
  | [_, _], hu => exact absurd hu.1 (by simp)
  | _ :: _ :: _ :: _ :: _, hu => exact absurd hu.1 (by simp)
 | [], h => exact absurd h.1 (by simp)
 | [_], h => exact absurd h.1 (by simp)
 | _ :: _ :: _ :: _, h => exact absurd h.1 (by simp)
theorem sg (k n : Nat) {l : List ByteArray} {w : Nat} {s : ByteArray} (h : l[w]? = some s) : iy k n (l.take (w + 1)) = iy k n (l.take w) ++ [(⟨k, n, w⟩, s)] := px h
theorem s8 (k : Nat) {ls : List (List ByteArray)} {n : Nat} {l : List ByteArray} (h : ls[n]? = some l) : iq k (ls.take (n + 1)) = iq k (ls.take n) ++ iy k n l := by
 unfold iq
 rw [px h, List.flatten_append]; simp
theorem te {t : bd} {k : Nat} {c : Chap} (h : t[k]? = some c) : dq (t.take (k + 1)) = dq (t.take k) ++ iq k c.lines := by
 unfold dq
 rw [px h, List.flatten_append]; simp
theorem ufj (t : bd) (k : Nat) : dq (t.take k) <+: dq t := xi (se _ _ _)
theorem uem (k : Nat) (ls : List (List ByteArray)) (n : Nat) : iq k (ls.take n) <+: iq k ls := xi (se _ _ _)
theorem ucg (k n : Nat) (l : List ByteArray) (w : Nat) : iy k n (l.take w) <+: iy k n l := se _ _ _
theorem tx {t : bd} {k n : Nat} {c : Chap} {l : List ByteArray} (hc : t[k]? = some c) (hl : c.lines[n]? = some l) (w : Nat) : dq (t.take k) ++ iq k (c.lines.take n) ++ iy k n (l.take w) <+: dq t := by
 refine List.IsPrefix.trans ?_ (ufj t (k + 1))
 rw [te hc, List.append_assoc]
 refine (List.prefix_append_right_inj _).2 (List.IsPrefix.trans ?_ (uem k c.lines (n + 1)))
 rw [s8 k hl]
 exact (List.prefix_append_right_inj _).2 (ucg k n l w)
end Go.AB
namespace Go.AB
open Go Go.RowKit
open Go.AB.Enc (cells)
open Go.PB (Chap bd PlaceD bh CopyD bw)
end Go.AB
namespace Go.Proofs.YthboenlglkmnjaaDoor
set_option maxRecDepth 10000
open Go.RowKit Go.AB
open Go.AB.Enc (cells)
open Go.PB (Chap bd PlaceD bh CopyD bw)
end Go.Proofs.YthboenlglkmnjaaDoor
namespace Go.AB
open Go Go.RowKit
open Go.AB.Enc (cells)
open Go.PB (Chap bd PlaceD bh CopyD bw)
theorem ucd {t : bd} (ht : ck t = true) : (mj t).length ≤ 60 := by
 rw [← uj t [], List.length_map]
 exact ual ht []
end Go.AB
namespace Go.Proofs.YthboenlglkmnjaaDoor
set_option maxRecDepth 10000
open Go.RowKit Go.AB
open Go.AB.Enc (cells)
open Go.PB (Chap bd PlaceD bh CopyD bw)
end Go.Proofs.YthboenlglkmnjaaDoor
namespace Go.AB
open Go Go.RowKit
open Go.PB (Chap bd PlaceD bh CopyD bw)
/-! ### Lines and numbers of a sound edition -/
/-! ### Lines that are moved -/
/-! ### Splitting and joining -/
end Go.AB
