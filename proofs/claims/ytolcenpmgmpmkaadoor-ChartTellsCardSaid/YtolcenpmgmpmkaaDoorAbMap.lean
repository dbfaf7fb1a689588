/-
  Maps: which cells stand for the value of which key.
-/
import Derived.Test.YtolcenpmgmpmkaaDoorAbMore
import Derived.Maps.Keyed
import Derived.DeepKeys4
namespace Go.AB
open Go Go.RowKit
open Go.Maps (Keyed)
open Go.AB.Enc (cells)
variable {ρ : Option Nat}
/-- Keys as plain data. -/
class KeyV (α : Type) where
  kv : α → Value
  kc : α → C
  inv : ∀ {E : Env} {w : World} {x : α} {v : Value}, R E w (kc x) v → v = kv x
  inj : ∀ {x y : α}, kv x = kv y → x = y
  any : ∀ {E : Env} {w : World} {x : α} {v : Value}, R E w (kc x) v → ∀ (E' : Env) (w' : World), R E' w' (kc x) (kv x)
def mapChk (P : Program) (t k e : TypeId) : Bool := match P.underlying t with | some (.map k' e') => k' == k && e' == e | _ => false
class MapT (P : Program) (t : TypeId) (k e : outParam TypeId) : Prop where
  chk : mapChk P t k e = true
theorem MapT.spec {P : Program} {t k e : TypeId} [h : MapT P t k e] : P.underlying t = some (.map k e) := by
  have := h.chk
  unfold mapChk at this
  split at this
  · rename_i k' e' he
    simp only [Bool.and_eq_true, beq_iff_eq] at this
    rw [he, this.1, this.2]
  · cases this
class KeyT (P : Program) (k : TypeId) (α : Type) [KeyV α] : Prop where
  keyed : Keyed P k
  has : ∀ {E : Env} {w : World} {x : α} {v : Value}, R E w (KeyV.kc x) v → ∃ l, keyOf P k (KeyV.kv x) = some l
def okK1 (P : Program) (k : TypeId) (α : Type) [KeyV α] : MapEntry → Prop := fun e => ∃ (x : α) (l : Lit), e.key = KeyV.kv x ∧ keyOf P k e.key = some l ∧ ∀ (E : Env) (w : World), R E w (KeyV.kc x) e.key
def okK (P : Program) (k : TypeId) (α : Type) [KeyV α] : List MapEntry → Nat → Prop := fun es _ => ∀ e ∈ es, okK1 P k α e
open Classical in
noncomputable def mapV {α : Type} [KeyV α] (m : α → Option C) : Value → Option C := fun v => if h : ∃ x : α, v = KeyV.kv x then m h.choose else none
theorem mapV_kv {α : Type} [KeyV α] (m : α → Option C) (x : α) : mapV m (KeyV.kv x) = m x := by
  have h : ∃ y : α, KeyV.kv x = KeyV.kv y := ⟨x, rfl⟩
  unfold mapV
  rw [dif_pos h]
  exact congrArg m (KeyV.inj h.choose_spec).symm
theorem mapV_none {α : Type} [KeyV α] (m : α → Option C) {v : Value} (h : ¬ ∃ x : α, v = KeyV.kv x) : mapV m v = none := by
  unfold mapV
  rw [dif_neg h]
/-- A map whose keys are data. -/
noncomputable def gmap (P : Program) (k : TypeId) {α : Type} [KeyV α] (wv : Nat) (m : α → Option C) : GObj := .map wv (okK P k α) (mapV m)
def mset {α : Type} [DecidableEq α] (m : α → Option C) (x : α) (c : C) : α → Option C := fun y => if y = x then some c else m y
def mdel {α : Type} [DecidableEq α] (m : α → Option C) (x : α) : α → Option C := fun y => if y = x then none else m y

/-- What the run of an update leaves. -/
theorem map_update_run {P : Program} {k t e : TypeId} {w : World} {r : Nat} {es : Array MapEntry} {clock : Nat} (K : Keyed P k) (ht : P.underlying t = some (.map k e)) (hb : w.heap[r]? = some (.map es clock))
    (h1 : ∀ e ∈ es.toList, ∃ l, keyOf P k e.key = some l) (h2 : es.toList.Pairwise (fun a b => a.key ≠ b.key)) {key : Value} {kl : Lit} (hkey : keyOf P k key = some kl) (val : Value) (hcl : es.all (·.born < clock) = true) :
    ∃ es' clock', (Instr.mapUpdate t (.map (some r)) key val).run P w = .ok () (ChangeMaps.setBlock w r (.map es' clock')) ∧ (∀ e ∈ es'.toList, (e.key = key ∧ e.val = val ∧ ((∃ e0 ∈ es.toList, e0.key = key ∧ e0.born = e.born) ∨ ((∀ e0 ∈ es.toList, e0.key ≠ key) ∧ e.born = clock))) ∨ (e ∈ es.toList ∧ e.key ≠ key)) ∧ es'.toList.Pairwise (fun a b => a.key ≠ b.key) ∧
      (∃ e ∈ es'.toList, e.key = key) ∧ (∀ e ∈ es.toList, e.key ≠ key → e ∈ es'.toList) ∧ es'.all (·.born < clock') = true ∧ (es.toList.Pairwise (fun a b => a.born ≠ b.born) → es'.toList.Pairwise fun a b => a.born ≠ b.born) ∧ ((∃ e0 ∈ es.toList, e0.key = key) → clock' = clock) := by
  have hcl' : ∀ e ∈ es.toList, e.born < clock := fun e he => by simpa using Array.all_eq_true_iff_forall_mem.1 hcl e (by simpa using he)
  rcases K.find w hkey es.toList h1 with ⟨hf, hn⟩ | ⟨j, e0, hf, hj, hk⟩
  · refine ⟨es.push ⟨key, val, clock⟩, clock + 1, ?_, fun e he => ?_, ?_, ⟨⟨key, val, clock⟩, by simp, rfl⟩, fun e he _ => by simp [Array.mem_toList_iff.1 he], ?_, fun hb => ?_, fun ⟨e0, h1, h2⟩ => absurd h2 (hn e0 h1)⟩
    · simp [Instr.mapUpdate, run_underlying ht, MapKept.run_getObj_map hb, K.check w false hkey, hf, MapKept.run_setObj_map _ hb, Result.andThen, ChangeMaps.setBlock]
    · simp only [Array.toList_push, List.mem_append, List.mem_singleton] at he
      rcases he with he | rfl
      · exact .inr ⟨he, hn e he⟩
      · exact .inl ⟨rfl, rfl, .inr ⟨fun e0 he0 => hn e0 he0, rfl⟩⟩
    · simp only [Array.toList_push]
      refine List.pairwise_append.2 ⟨h2, by simp, ?_⟩
      intro a ha b hb
      simp only [List.mem_singleton] at hb
      subst hb
      exact hn a ha
    · refine Array.all_eq_true_iff_forall_mem.2 fun e he => ?_
      rcases Array.mem_push.1 he with he | rfl
      · have := hcl' e (by simpa using he)
        simp; omega
      · simp
    · simp only [Array.toList_push]
      refine List.pairwise_append.2 ⟨hb, by simp, ?_⟩
      intro a ha b hb
      simp only [List.mem_singleton] at hb
      subst hb
      have := hcl' a ha
      show a.born ≠ clock
      omega
  · have hj' : es[j]? = some e0 := by simpa using hj
    have hjl : j < es.toList.length := (List.getElem?_eq_some_iff.1 hj).1
    have hlist : (es.modify j (fun e' => { e' with key := key, val := val })).toList = es.toList.set j { e0 with key := key, val := val } := by rw [Array.toList_modify, ChangeMaps.modify_eq_set _ _ _ _ hj]
    have hother : ∀ (i : Nat) (a : MapEntry), i ≠ j → es.toList[i]? = some a → a.key ≠ key := by
      intro i a hi ha
      rw [← hk]
      have hil : i < es.toList.length := (List.getElem?_eq_some_iff.1 ha).1
      have ea := (List.getElem?_eq_some_iff.1 ha).2
      have ej := (List.getElem?_eq_some_iff.1 hj).2
      rw [List.pairwise_iff_getElem] at h2
      rcases Nat.lt_or_gt_of_ne hi with hlt | hlt
      · have := h2 i j hil hjl hlt
        rw [ea, ej] at this
        exact this
      · have := h2 j i hjl hil hlt
        rw [ea, ej] at this
        exact this.symm
    have who : ∀ x ∈ es.toList.set j { e0 with key := key, val := val }, x = { e0 with key := key, val := val } ∨ (x ∈ es.toList ∧ x.key ≠ key) := by
      intro x hx
      obtain ⟨i, hi, ex⟩ := List.getElem_of_mem hx
      rw [List.getElem_set] at ex
      split at ex
      · exact Or.inl ex.symm
      · rename_i hne
        have hi' : i < es.toList.length := by simpa using hi
        exact Or.inr ⟨ex ▸ List.getElem_mem hi', hother i x (fun e => hne e.symm) (by rw [List.getElem?_eq_getElem hi', ex])⟩
    have hin : ∀ i a, i ≠ j → es.toList[i]? = some a → a ∈ es.toList.set j { e0 with key := key, val := val } := by
      intro i a hi ha
      have : (es.toList.set j { e0 with key := key, val := val })[i]? = some a := by rw [List.getElem?_set_ne (fun e => hi e.symm)]; exact ha
      exact List.mem_of_getElem? this
    have hinj : ({ e0 with key := key, val := val } : MapEntry) ∈ es.toList.set j { e0 with key := key, val := val } := by
      refine List.mem_of_getElem? (i := j) ?_
      rw [List.getElem?_set_self hjl]
    refine ⟨es.modify j (fun e' => { e' with key := key, val := val }), clock, ?_, ?_, ?_, ⟨_, hlist ▸ hinj, rfl⟩, ?_, ?_, fun hb => ?_, fun _ => rfl⟩
    · simp [Instr.mapUpdate, run_underlying ht, MapKept.run_getObj_map hb, K.check w false hkey, hf, hj', hk, K.stays w hkey, MapKept.run_setObj_map _ hb, Result.andThen, ChangeMaps.setBlock]
    · intro e he
      rw [hlist] at he
      rcases who e he with rfl | h
      · exact .inl ⟨rfl, rfl, .inl ⟨e0, List.mem_of_getElem? hj, hk, rfl⟩⟩
      · exact .inr h
    · rw [hlist, List.pairwise_iff_getElem]
      intro i i' hi hi' hlt
      rw [List.pairwise_iff_getElem] at h2
      have hil : i < es.toList.length := by simpa using hi
      have hil' : i' < es.toList.length := by simpa using hi'
      have hh := h2 i i' hil hil' hlt
      have ej := (List.getElem?_eq_some_iff.1 hj).2
      simp only [List.getElem_set]
      by_cases hij : j = i
      · have hij' : ¬ j = i' := by omega
        simp only [hij, if_true]
        rw [if_neg (by omega)]
        subst hij
        rw [ej, hk] at hh
        exact hh
      · rw [if_neg hij]
        by_cases hij' : j = i'
        · subst hij'
          rw [ej, hk] at hh
          simpa using hh
        · rw [if_neg hij']
          exact hh
    · intro e he hne
      rw [hlist]
      obtain ⟨i, hi⟩ := List.mem_iff_getElem?.1 he
      refine hin i e (fun hij => ?_) hi
      subst hij
      rw [hj] at hi
      injection hi with hi
      subst hi
      exact hne hk
    · refine Array.all_eq_true_iff_forall_mem.2 fun e he => ?_
      have he' : e ∈ es.toList.set j { e0 with key := key, val := val } := by rw [← hlist]; exact Array.mem_toList_iff.2 he
      rcases who e he' with rfl | ⟨h, _⟩
      · have := hcl' e0 (List.mem_of_getElem? hj)
        simpa using this
      · simpa using hcl' e h
    · rw [hlist]
      have e1 : (es.toList.set j { e0 with key := key, val := val }).map (·.born) = es.toList.map (·.born) := by
        rw [List.map_set]
        have : (es.toList.map (·.born))[j]? = some e0.born := by rw [List.getElem?_map, hj]; rfl
        exact List.ext_getElem? fun i => by
          rw [List.getElem?_set]
          split
          · rename_i hij
            subst hij
            split
            · exact this.symm
            · rename_i h0; rw [List.getElem?_eq_none (by omega)]
          · rfl
      exact List.pairwise_map.1 (e1 ▸ List.pairwise_map.2 hb)

theorem setBlock_other (w : World) (r b : Nat) (o : Obj) (h : b ≠ r) : (ChangeMaps.setBlock w r o).heap[b]? = w.heap[b]? := by
  simp [ChangeMaps.setBlock, Ne.symm h]
section
variable {P : Program} {o : Oper} {st : St} {K : St → Prop} {α : Type} [KeyV α]
theorem map_at {E : Env} {w : World} {v : Value} {n wv : Nat} {r : Option Nat} (hp : R E w (.map n) v) (hT : E.T n = some (0, wv, .map r)) : v = .map r := by
  cases hp with
  | map h1 h2 =>
    have := h2 _ _ _ hT rfl
    exact this.symm
theorem lookup_core {D : Nat → Prop} {t k e : TypeId} [MapT P t k e] [KeyT P k α] {x i : Operand} {n wv : Nat} {ok : List MapEntry → Nat → Prop} {m : α → Option C} {key : α} {z : Value} [Zero P e z] (hx : evC st x = .map n) (hG : st.G n = some (.map wv ok (mapV m))) (hk0 : ∀ es cl, ok es cl → okK P k α es cl) (hD : D n) (hi : evC st i = KeyV.kc key) :
    ∀ E w a, Sim E w st a → ∃ v, R E w ((m key).getD (constC z)) v ∧ ∀ w', Keeps E D w w' → (Instr.lookup t (a.eval x) (a.eval i) true).run P w' = .ok (.tuple #[v, .bool (m key).isSome]) w' ∧ (Instr.lookup t (a.eval x) (a.eval i) false).run P w' = .ok v w' := by
  intro E w a hs
  obtain ⟨r, es, clock, hT, hh, hok, _⟩ := hs.g.obj n _ hG
  have e1 := map_at (hx ▸ hs.ev x) hT
  have hkr := hi ▸ hs.ev i
  have e2 := KeyV.inv hkr
  obtain ⟨kl, hkey⟩ := KeyT.has (P := P) (k := k) hkr
  have ht := MapT.spec (P := P) (t := t) (k := k) (e := e)
  have Kd := KeyT.keyed (P := P) (k := k) (α := α)
  have hz := fun w' => Zero.run (P := P) (t := e) (v := z) (w := w')
  have hk1 : ∀ e ∈ es.toList, ∃ l, keyOf P k e.key = some l := fun e he => let ⟨_, l, _, h, _⟩ := hk0 _ _ hok.ok e he; ⟨l, h⟩
  rw [e1, e2]
  cases hm : m key with
  | none =>
    refine ⟨z, R.const E w z, fun w' hk => ?_⟩
    have hb := (hk.2 n hD _ _ _ r hT rfl).trans hh
    rcases Kd.find w' hkey es.toList hk1 with ⟨hf, _⟩ | ⟨j, e0, hf, hj, hke⟩
    · simp [Instr.lookup, run_underlying ht, MapKept.run_getObj_map hb, Kd.check w' _ hkey, hf, hz, Result.andThen]
    · obtain ⟨c, hc, _⟩ := hok.val e0 (List.mem_of_getElem? hj)
      rw [hke, mapV_kv, hm] at hc
      cases hc
  | some c =>
    obtain ⟨e0, he0, hke0⟩ := hok.has (KeyV.kv key) c (by rw [mapV_kv, hm])
    obtain ⟨c', hc', hr'⟩ := hok.val e0 he0
    rw [hke0, mapV_kv, hm] at hc'
    cases hc'
    refine ⟨e0.val, hr', fun w' hk => ?_⟩
    have hb := (hk.2 n hD _ _ _ r hT rfl).trans hh
    rcases Kd.find w' hkey es.toList hk1 with ⟨hf, hn⟩ | ⟨j, e1', hf, hj, hke⟩
    · exact absurd hke0 (hn e0 he0)
    · have : e1' = e0 := Go.entry_eq_of_key hok.pw (List.mem_of_getElem? hj) he0 (hke.trans hke0.symm)
      subst this
      simp [Instr.lookup, run_underlying ht, MapKept.run_getObj_map hb, Kd.check w' _ hkey, hf, Result.andThen]
theorem s_lookupOk {D : Nat → Prop} {t k e : TypeId} [MapT P t k e] [KeyT P k α] {x i : Operand} {n wv : Nat} {m : α → Option C} {r : Option C} {z : Value} [Zero P e z] (key : α) (ho : o.op = .lookup t x i true) (hx : evC st x = .map n) (hG : st.G n = some (gmap P k wv m)) (hD : D n) (hi : evC st i = KeyV.kc key) (hm : m key = r) : SStep P D o st (.tup [r.getD (constC z), .v (.bool r.isSome)]) := fun E w a hs => by
  subst hm
  obtain ⟨v, h1, h2⟩ := lookup_core (P := P) (t := t) (e := e) (z := z) hx hG (fun _ _ h => h) hD hi E w a hs
  refine ⟨_, (Rs.cons h1 (Rs.cons (.v rfl) Rs.nil)).tup, fun w' hk => ?_⟩
  simp only [execOp, ho, Sem.run_bind, (h2 w' hk).1, Result.andThen_ok]
  rfl
theorem s_lookup {D : Nat → Prop} {t k e : TypeId} [MapT P t k e] [KeyT P k α] {x i : Operand} {n wv : Nat} {m : α → Option C} {r : Option C} {z : Value} [Zero P e z] (key : α) (ho : o.op = .lookup t x i false) (hx : evC st x = .map n) (hG : st.G n = some (gmap P k wv m)) (hD : D n) (hi : evC st i = KeyV.kc key) (hm : m key = r) : SStep P D o st (r.getD (constC z)) := fun E w a hs => by
  subst hm
  obtain ⟨v, h1, h2⟩ := lookup_core (P := P) (t := t) (e := e) (z := z) hx hG (fun _ _ h => h) hD hi E w a hs
  refine ⟨v, h1, fun w' hk => ?_⟩
  simp only [execOp, ho, Sem.run_bind, (h2 w' hk).2, Result.andThen_ok]
  rfl
theorem mapUpdate_core [DecidableEq α] {t k e : TypeId} [MapT P t k e] [KeyT P k α] {x i y : Operand} {n wv : Nat} {ok ok' : List MapEntry → Nat → Prop} {m m' : α → Option C} (key : α) (ho : o.op = .mapUpdate t x i y) (hd : o.dst = none) (hx : evC st x = .map n) (hG : st.G n = some (.map wv ok (mapV m))) (hk0 : ∀ es cl, ok es cl → okK P k α es cl)
    (hnw : ∀ (E : Env) (w : World) (es es' : List MapEntry) (clock clock' : Nat), MapOk E w ok (mapV m) es clock → (∀ e ∈ es', (okK1 P k α e ∧ e.key = KeyV.kv key ∧ ((∃ e0 ∈ es, e0.key = KeyV.kv key ∧ e0.born = e.born) ∨ ((∀ e0 ∈ es, e0.key ≠ KeyV.kv key) ∧ e.born = clock))) ∨ (e ∈ es ∧ e.key ≠ KeyV.kv key)) → ((∃ e0 ∈ es, e0.key = KeyV.kv key) → clock' = clock) → ok' es' clock') (hi : evC st i = KeyV.kc key) (hm : mset m key (evC st y) = m')
    (h : K { st with G := setG st.G n (.map (wv + 1) ok' (mapV m')) }) : EStep P o st K := fun E w a hs Kr Q hq => by
  subst hm
  obtain ⟨r, es, clock, hT, hh, hok, hcl⟩ := hs.g.obj n _ hG
  have e1 := map_at (hx ▸ hs.ev x) hT
  have hkr := hi ▸ hs.ev i
  have e2 := KeyV.inv hkr
  obtain ⟨kl, hkey⟩ := KeyT.has (P := P) (k := k) hkr
  have ht := MapT.spec (P := P) (t := t) (k := k) (e := e)
  have Kd := KeyT.keyed (P := P) (k := k) (α := α)
  obtain ⟨es', clock', hrun, h1, h2, h3, h4, h5, h6, h7⟩ := map_update_run (w := w) Kd ht hh (fun e he => let ⟨_, l, _, h, _⟩ := hk0 _ _ hok.ok e he; ⟨l, h⟩) hok.pw hkey (a.eval y) hcl
  have hnew : (ChangeMaps.setBlock w r (.map es' clock')).heap[r]? = some (.map es' clock') := ChangeMaps.heap_setBlock_same hh _
  have hchg : Chg E w (ChangeMaps.setBlock w r (.map es' clock')) 0 wv (.map (some r)) 0 (wv + 1) (.map (some r)) (E.L r) := by
    have hbn := hs.g.tb n _ _ _ r hT rfl
    refine ⟨⟨rfl, rfl, rfl, by simp [ChangeMaps.setBlock], fun k hk => setBlock_other w r k _ (by omega)⟩, fun k _ hk => setBlock_other w r k _ (fun e => hk (by simp [blk, e])), fun b hb => .inl ⟨hb, ?_⟩, fun b i hb hi => ?_, .inr ⟨rfl, rfl, by omega⟩, fun b o hb ho => ?_, fun hv => absurd hv (Nat.lt_irrefl _), fun b hb hl => ?_⟩
    · simp only [blk, Option.some.injEq] at hb; subst hb; exact Nat.le_refl _
    · simp only [blk, Option.some.injEq] at hb; subst hb
      simp [World.cell?, hh, hnew]
    · simp only [blk, Option.some.injEq] at hb; subst hb; rw [hh] at ho; cases ho; exact ⟨_, hnew, rfl⟩
    · simp only [blk, Option.some.injEq] at hb; subst hb; omega
  have hev := Ev.chg hs.g hT hchg
  have hobj : ObjOk (E.chg n (0, wv + 1, .map (some r)) (E.L r)) (ChangeMaps.setBlock w r (.map es' clock')) n (.map (wv + 1) ok' (mapV (mset m key (evC st y)))) := by
    refine ⟨r, es', clock', by simp [Env.chg], hnew, ⟨?_, h2, h6 hok.pb, fun e he => ?_, fun x c hx => ?_⟩, h5⟩
    · refine hnw E w es.toList es'.toList clock clock' hok (fun e he => ?_) h7
      rcases h1 e he with ⟨h, _, hb⟩ | ⟨h, hne⟩
      · exact .inl ⟨⟨key, kl, h, h ▸ hkey, fun E' w' => h ▸ KeyV.any hkr E' w'⟩, h, hb⟩
      · exact .inr ⟨h, hne⟩
    · rcases h1 e he with ⟨hk, hv, _⟩ | ⟨hm, hne⟩
      · refine ⟨evC st y, by rw [hk, mapV_kv]; simp [mset], ?_⟩
        rw [hv]
        exact (hs.ev y).ev hev
      · obtain ⟨c, hc, hr⟩ := hok.val e hm
        refine ⟨c, ?_, hr.ev hev⟩
        obtain ⟨y, l, hy, _⟩ := hk0 _ _ hok.ok e hm
        rw [hy, mapV_kv] at hc ⊢
        have : y ≠ key := fun e2 => hne (by rw [hy, e2])
        simp [mset, this, hc]
    · by_cases hex : ∃ y : α, x = KeyV.kv y
      · obtain ⟨y, rfl⟩ := hex
        rw [mapV_kv] at hx
        by_cases hyk : y = key
        · subst hyk; exact h3
        · simp only [mset, hyk, if_false] at hx
          obtain ⟨e, he, hek⟩ := hok.has (KeyV.kv y) c (by rw [mapV_kv]; exact hx)
          exact ⟨e, h4 e he (by rw [hek]; exact fun e2 => hyk (KeyV.inj e2)), hek⟩
      · rw [mapV_none _ hex] at hx; cases hx
  have hg := SimG.chg hs.g hT hchg hobj
  unfold Oper.wp
  have hex : (execOp a.eval o).run P w = .ok .skip (ChangeMaps.setBlock w r (.map es' clock')) := by simp [execOp, ho, e1, e2, hrun]
  rw [hex]
  refine hq _ _ _ _ hev ?_ h
  have h8 := hs.evd hev hg
  simpa [Act.put, hd] using h8
theorem e_mapUpdate [DecidableEq α] {t k e : TypeId} [MapT P t k e] [KeyT P k α] {x i y : Operand} {n wv : Nat} {m m' : α → Option C} (key : α) (ho : o.op = .mapUpdate t x i y) (hd : o.dst = none) (hx : evC st x = .map n) (hG : st.G n = some (gmap P k wv m)) (hi : evC st i = KeyV.kc key) (hm : mset m key (evC st y) = m')
    (h : K { st with G := setG st.G n (gmap P k (wv + 1) m') }) : EStep P o st K :=
  mapUpdate_core key ho hd hx hG (fun _ _ h => h) (fun _ _ es es' _ _ hk he _ e h => by
    rcases he e h with h | h
    · exact h.1
    · exact hk.ok e h.1) hi hm h
/-- A new map. -/
theorem e_makeMap {t k e : TypeId} [MapT P t k e] (ho : o.op = .makeMap t none) (h : K (St.put { st with G := setG st.G st.nx (gmap P k (α := α) 0 fun _ => none), nx := st.nx + 1 } o.dst (.map st.nx))) : EStep P o st K := estep_run fun E w a hs => by
  have hnx := hs.g.nx
  have hold : ∀ b, b < w.heap.size → (w.alloc (.map #[] 0)).heap[b]? = w.heap[b]? := fun b hb => Below.heap_alloc w _ b hb
  have hnew : (w.alloc (.map #[] 0)).heap[w.heap.size]? = some (.map #[] 0) := heap_alloc_new w _
  have hTn : ∀ n t, E.T n = some t → (E.name (.map (some w.heap.size))).T n = some t := fun n t ht => by
    have := hs.g.lt n t ht
    simp only [Env.name]; rw [if_neg (by omega)]; exact ht
  have hTo : ∀ n t, (E.name (.map (some w.heap.size))).T n = some t → (n = E.nx ∧ t = (0, 0, .map (some w.heap.size))) ∨ E.T n = some t := fun n t ht => by
    simp only [Env.name] at ht
    split at ht
    · rename_i e; exact .inl ⟨e, by simpa using ht.symm⟩
    · exact .inr ht
  have hev : Ev E w (E.name (.map (some w.heap.size))) (w.alloc (.map #[] 0)) := by
    refine ⟨(Below.refl _ _).alloc hs.g.base _, rfl, fun _ => Nat.le_refl _, fun b i hi => ?_, Nat.le_succ _, fun n hn ver wv val ht => ?_, fun n ver wv wv' val h1 h2 hn => ?_, ?_⟩
    · have hb : b < w.heap.size := Nat.lt_of_not_le fun hle => by have := hs.g.fresh b hle; omega
      exact World.cell?_of_block (w := w) (hold b hb)
    · rcases hTo n _ ht with ⟨e, _⟩ | ht
      · omega
      · exact ⟨ver, wv, val, ht, Nat.le_refl _, fun _ => ⟨rfl, fun _ b hb => hold b (hs.g.tb n ver wv val b ht hb).2⟩⟩
    · rcases hTo n _ h2 with ⟨e, _⟩ | h2
      · omega
      · rw [h1] at h2; simp at h2; omega
    · refine ⟨rfl, fun b hb => absurd hb (Nat.lt_irrefl _), fun b o ho _ _ => (hold b (Array.getElem?_eq_some_iff.1 ho).1).trans ho, fun b o ho => ⟨o, (hold b (Array.getElem?_eq_some_iff.1 ho).1).trans ho, rfl⟩, fun n t' b o ht hb ho _ => ?_, fun n t t' b hn h1 h2 hv _ => ?_⟩
      · rcases hTo n _ ht with ⟨_, rfl⟩ | ht
        · simp only [blk, Option.some.injEq] at hb
          subst hb
          have := (Array.getElem?_eq_some_iff.1 ho).1
          omega
        · exact ⟨t', ht, hb⟩
      · rcases hTo n _ h2 with ⟨e, _⟩ | h2
        · omega
        · rw [h1] at h2; cases h2; omega
  refine ⟨.map (some w.heap.size), w.alloc (.map #[] 0), _, _, _, .map st.nx, ?_, hev, ?_, ?_, h⟩
  · simp [execOp, ho, Instr.makeMap]
  · refine .map (by simp [Env.name]; omega) fun ver wv val ht _ => ?_
    simp only [Env.name] at ht
    rw [if_pos hnx.symm] at ht
    simp only [Option.some.injEq, Prod.mk.injEq] at ht
    exact ht.2.2.symm
  · refine ⟨by simp [Env.name, hnx], fun n o ho => ?_, fun n t ht => ?_, fun n ver wv val b ht hb => ?_, fun n m t t' b h1 h2 hne hb => ?_, fun b hb => ?_, ?_⟩
    · simp only [setG] at ho
      split at ho
      · rename_i en
        subst en
        simp only [Option.some.injEq] at ho
        subst ho
        exact ⟨w.heap.size, #[], 0, by simp [Env.name, hnx], hnew, ⟨fun e he => by simp at he, by simp, by simp, by simp, fun x c hx => by
          by_cases hex : ∃ y : α, x = KeyV.kv y
          · obtain ⟨y, rfl⟩ := hex
            rw [mapV_kv] at hx; cases hx
          · rw [mapV_none _ hex] at hx; cases hx⟩, by simp⟩
      · rename_i en
        refine (hs.g.obj n o ho).keep hev (by simp only [Env.name]; rw [if_neg (by omega)]) fun ver wv val b h1 h2 => ⟨hold b (hs.g.tb n ver wv val b h1 h2).2, rfl⟩
    · rcases hTo n _ ht with ⟨e, _⟩ | ht
      · simp [Env.name]; omega
      · have := hs.g.lt n t ht
        simp [Env.name]; omega
    · rcases hTo n _ ht with ⟨_, e⟩ | ht
      · simp only [Prod.mk.injEq] at e
        obtain ⟨rfl, rfl, rfl⟩ := e
        simp only [blk, Option.some.injEq] at hb
        subst hb
        exact ⟨hs.g.base, by simp⟩
      · have := hs.g.tb n ver wv val b ht hb
        exact ⟨this.1, by simp; omega⟩
    · rcases hTo n _ h1 with ⟨e, rfl⟩ | h1 <;> rcases hTo m _ h2 with ⟨e', rfl⟩ | h2
      · omega
      · intro hb'
        simp only [blk, Option.some.injEq] at hb
        subst hb
        have := hs.g.tb m _ _ _ w.heap.size h2 hb'
        omega
      · intro hb'
        simp only [blk, Option.some.injEq] at hb'
        subst hb'
        have := hs.g.tb n _ _ _ w.heap.size h1 hb
        omega
      · exact hs.g.ap n m t t' b h1 h2 hne hb
    · exact hs.g.fresh b (by simp at hb; omega)
    · have := hs.g.base
      simp [Env.name]; omega
end
/-- Two numbers. -/
instance : KeyV (Int × Int) where
  kv x := .agg #[.int .i64 x.1, .int .i64 x.2]
  kc x := .agg [.v (.int .i64 x.1), .v (.int .i64 x.2)]
  inv h := by
    obtain ⟨vs, rfl, h1, _⟩ := h.agg_inv
    match vs, h1 with
    | [a, b], h1 =>
      have e1 := (h1.2 0 _ _ rfl rfl).v_inv
      have e2 := (h1.2 1 _ _ rfl rfl).v_inv
      subst e1; subst e2; rfl
    | [], h => exact absurd h.1 (by simp)
    | [_], h => exact absurd h.1 (by simp)
    | _ :: _ :: _ :: _, h => exact absurd h.1 (by simp)
  inj h := by
    rename_i x y
    obtain ⟨a, b⟩ := x
    obtain ⟨c, d⟩ := y
    simpa using h
  any {E w x v} h E' w' := by
    obtain ⟨vs, rfl, h1, _⟩ := h.agg_inv
    match vs, h1 with
    | [a, b], h1 =>
      have e1 := h1.2 0 _ _ rfl rfl
      have e2 := h1.2 1 _ _ rfl rfl
      cases e1 with | v e1 =>
      cases e2 with | v e2 =>
      exact (Rs.cons (.v e1) (Rs.cons (.v e2) Rs.nil)).agg (by intro c hc; simp only [List.mem_cons, List.not_mem_nil, or_false] at hc; rcases hc with rfl | rfl <;> rfl)
    | [], h => exact absurd h.1 (by simp)
    | [_], h => exact absurd h.1 (by simp)
    | _ :: _ :: _ :: _, h => exact absurd h.1 (by simp)
instance : KeyV ByteArray where
  kv x := .string x
  kc x := .v (.string x)
  inv h := h.v_inv
  inj h := by simpa using h
  any h _ _ := by cases h with | v h => exact .v h
end Go.AB
