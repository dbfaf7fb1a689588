/-
  What the walks through the program rest on: values, states, steps, calls (AbEntry, AbGrow).
-/
import Derived.Test.YtejhjijbgceklaaGreatDoorEngB
import Derived.Test.YtejhjijbgceklaaGreatDoorTy
import Derived.WideKeyEntry
import Derived.Test.YtejhjijbgceklaaGreatDoorAbTwin
namespace Go.AB
open Go Go.RowKit
open Go.Maps (Keyed)
/-- A map whose clock is bounded. -/
def okN (P : Program) (k : TypeId) (α : Type) [KeyV α] (N : Nat) : List MapEntry → Nat → Prop := fun es cl => okK P k α es cl ∧ cl ≤ N
/-- .. of which an entry is in hand. -/
def okP (P : Program) (k : TypeId) (α : Type) [KeyV α] (N : Nat) (x : α) (s : Nat) : List MapEntry → Nat → Prop := fun es cl => okK P k α es cl ∧ cl ≤ N ∧ ∃ e ∈ es, e.key = KeyV.kv x ∧ e.born = s
noncomputable def gmapN (P : Program) (k : TypeId) {α : Type} [KeyV α] (wv N : Nat) (m : α → Option C) : GObj := .map wv (okN P k α N) (mapV m)

section
variable {P : Program} {k t e : TypeId} {w : World} {r : Nat} {es : Array MapEntry} {clock : Nat}
theorem map_update_clock (K : Keyed P k) (ht : P.underlying t = some (.map k e)) (hb : w.heap[r]? = some (.map es clock))
  (h1 : ∀ e ∈ es.toList, ∃ l, keyOf P k e.key = some l) {key : Value} {kl : Lit} (hkey : keyOf P k key = some kl) (val : Value) {es' : Array MapEntry} {clock' : Nat}
  (h : (Instr.mapUpdate t (.map (some r)) key val).run P w = .ok () (ChangeMaps.setBlock w r (.map es' clock'))) : clock' ≤ clock + 1 := by
 have hn := ChangeMaps.heap_setBlock_same hb (.map es' clock')
 rcases K.find w hkey es.toList h1 with ⟨hf, _⟩ | ⟨j, e0, hf, hj, hk⟩
 ·have h2 : (Instr.mapUpdate t (.map (some r)) key val).run P w = .ok () (ChangeMaps.setBlock w r (.map (es.push ⟨key, val, clock⟩) (clock + 1))) := by
   simp [Instr.mapUpdate, run_underlying ht, MapKept.run_getObj_map hb, K.check w false hkey, hf, MapKept.run_setObj_map _ hb, Result.andThen, ChangeMaps.setBlock]
  rw [h] at h2
  injection h2 with _ h2
  rw [h2, ChangeMaps.heap_setBlock_same hb] at hn
  injection hn with hn
  injection hn with _ hn
  omega
 ·have hj' : es[j]? = some e0 := by simpa using hj
  have h2 : (Instr.mapUpdate t (.map (some r)) key val).run P w = .ok () (ChangeMaps.setBlock w r (.map (es.modify j fun e' => { e' with key := key, val := val }) clock)) := by
   simp [Instr.mapUpdate, run_underlying ht, MapKept.run_getObj_map hb, K.check w false hkey, hf, hj', hk, K.stays w hkey, MapKept.run_setObj_map _ hb, Result.andThen, ChangeMaps.setBlock]
  rw [h] at h2
  injection h2 with _ h2
  rw [h2, ChangeMaps.heap_setBlock_same hb] at hn
  injection hn with hn
  injection hn with _ hn
  omega
theorem map_entry_run (K : Keyed P k) (ht : P.underlying t = some (.map k e)) (hb : w.heap[r]? = some (.map es clock)) {z : Value} (hz : (zeroValue e).run P w = .ok z w)
  (h1 : ∀ e ∈ es.toList, ∃ l, keyOf P k e.key = some l) {key : Value} {kl : Lit} (hkey : keyOf P k key = some kl) :
  ∃ (v0 : Value) (s : Nat) (w' : World), (Instr.mapEntry t (.map (some r)) key).run P w = .ok (.tuple #[v0, goInt s]) w' ∧ (Instr.mapUpdate t (.map (some r)) key v0).run P w = .ok () w' ∧
   ((∃ e0 ∈ es.toList, e0.key = key ∧ v0 = e0.val ∧ s = e0.born) ∨ ((∀ x ∈ es.toList, x.key ≠ key) ∧ v0 = z ∧ s = clock)) := by
 rcases K.find w hkey es.toList h1 with ⟨hf, hn⟩ | ⟨j, e0, hf, hj, hk⟩
 ·refine ⟨z, clock, ChangeMaps.setBlock w r (.map (es.push ⟨key, z, clock⟩) (clock + 1)), ?_, ?_, .inr ⟨hn, rfl, rfl⟩⟩
  ·simp [Instr.mapEntry, run_underlying ht, MapKept.run_getObj_map hb, K.check w false hkey, hf, hz, MapKept.run_setObj_map _ hb, Result.andThen, ChangeMaps.setBlock]
  ·simp [Instr.mapUpdate, run_underlying ht, MapKept.run_getObj_map hb, K.check w false hkey, hf, MapKept.run_setObj_map _ hb, Result.andThen, ChangeMaps.setBlock]
 ·have hj' : es[j]? = some e0 := by simpa using hj
  have hsame : ∀ f : MapEntry → MapEntry, f e0 = e0 → es.modify j f = es := fun f hf => by
   apply Array.ext'
   rw [Array.toList_modify, ChangeMaps.modify_eq_set _ _ _ _ hj, hf]
   exact WideElems.set_self _ _ _ hj
  refine ⟨e0.val, e0.born, ChangeMaps.setBlock w r (.map es clock), ?_, ?_, .inl ⟨e0, List.mem_of_getElem? hj, hk, rfl, rfl⟩⟩
  ·have := hsame (fun e => { e with key := key }) (by rw [← hk])
   simp [Instr.mapEntry, run_underlying ht, MapKept.run_getObj_map hb, K.check w false hkey, hf, hj', hk, K.stays w hkey, this, MapKept.run_setObj_map _ hb, Result.andThen, ChangeMaps.setBlock]
  ·have := hsame (fun e => { e with key := key, val := e0.val }) (by rw [← hk])
   simp [Instr.mapUpdate, run_underlying ht, MapKept.run_getObj_map hb, K.check w false hkey, hf, hj', hk, K.stays w hkey, this, MapKept.run_setObj_map _ hb, Result.andThen, ChangeMaps.setBlock]
theorem entry_store_run (K : Keyed P k) (ht : P.underlying t = some (.map k e)) (hb : w.heap[r]? = some (.map es clock)) (h1 : ∀ e ∈ es.toList, ∃ l, keyOf P k e.key = some l) (h2 : es.toList.Pairwise fun a b => a.key ≠ b.key) (h3 : es.toList.Pairwise fun a b => a.born ≠ b.born)
  {key : Value} {kl : Lit} (hkey : keyOf P k key = some kl) {e0 : MapEntry} (he0 : e0 ∈ es.toList) (hk0 : e0.key = key) (val : Value) :
  ∃ w', (Instr.entryStore t (.map (some r)) (goInt e0.born) val).run P w = .ok () w' ∧ (Instr.mapUpdate t (.map (some r)) key val).run P w = .ok () w' := by
 rcases K.find w hkey es.toList h1 with ⟨hf, hn⟩ | ⟨j, e1, hf, hj, hk⟩
 ·exact absurd hk0 (hn e0 he0)
 ·have : e1 = e0 := Go.entry_eq_of_key h2 (List.mem_of_getElem? hj) he0 (hk.trans hk0.symm)
  subst this
  have hj' : es[j]? = some e1 := by simpa using hj
  have hidx : es.findIdx? (fun e => ((e.born : Nat) : Int) == ((e1.born : Nat) : Int)) = some j := by
   rw [WideElems.findIdx_arr]
   exact WideElems.findIdx_born (List.pairwise_map.2 h3) hj
  refine ⟨ChangeMaps.setBlock w r (.map (es.modify j fun e' => { e' with key := key, val := val }) clock), ?_, ?_⟩
  ·have hmod : es.modify j (fun e => { e with val := val }) = es.modify j (fun e' => { e' with key := key, val := val }) := by
    apply Array.ext'
    rw [Array.toList_modify, Array.toList_modify, ChangeMaps.modify_eq_set _ _ _ _ hj, ChangeMaps.modify_eq_set _ _ _ _ hj, ← hk]
   simp [Instr.entryStore, MapKept.run_getObj_map hb, asInt, asIntOf, goInt, hidx, hmod, MapKept.run_setObj_map _ hb, Result.andThen, ChangeMaps.setBlock]
  ·simp [Instr.mapUpdate, run_underlying ht, MapKept.run_getObj_map hb, K.check w false hkey, hf, hj', hk, K.stays w hkey, MapKept.run_setObj_map _ hb, Result.andThen, ChangeMaps.setBlock]
end
section
variable {P : Program} {o : Oper} {st : St} {K : St → Prop} {α : Type} [KeyV α]
/-- What an update leaves, in one world. -/
theorem mapPut_core [DecidableEq α] {t k e : TypeId} [MapT P t k e] [KeyT P k α] {n wv : Nat} {ok ok' : List MapEntry → Nat → Prop} {m m' : α → Option C} {c : C} (key : α) {E : Env} {w : World} {a : Act} (hs : Sim E w st a) {r : Nat} {es : Array MapEntry} {clock : Nat} (hT : E.T n = some (0, wv, .map (some r))) (hh : w.heap[r]? = some (.map es clock)) (hok : MapOk E w ok (mapV m) es.toList clock) (hcl : es.all (·.born < clock) = true) (hk0 : ∀ es cl, ok es cl → okK P k α es cl)
  {i : C} {vi : Value} (hi : i = KeyV.kc key) (hkr : R E w i vi) {v0 : Value} (hv : R E w c v0) (hm : mset m key c = m')
  (hnw : ∀ (es' : List MapEntry) (clock' : Nat), (∀ e ∈ es', (okK1 P k α e ∧ e.key = KeyV.kv key ∧ ((∃ e0 ∈ es.toList, e0.key = KeyV.kv key ∧ e0.born = e.born) ∨ ((∀ e0 ∈ es.toList, e0.key ≠ KeyV.kv key) ∧ e.born = clock))) ∨ (e ∈ es.toList ∧ e.key ≠ KeyV.kv key)) → (∃ e ∈ es', e.key = KeyV.kv key) → clock' ≤ clock + 1 → ((∃ e0 ∈ es.toList, e0.key = KeyV.kv key) → clock' = clock) → ok' es' clock')
  {w' : World} (hrw : (Instr.mapUpdate t (.map (some r)) (KeyV.kv key) v0).run P w = .ok () w') :
  ∃ E', Ev E w E' w' ∧ Sim E' w' { st with G := setG st.G n (.map (wv + 1) ok' (mapV m')) } a := by
 subst hm; subst hi
 obtain ⟨kl, hkey⟩ := KeyT.has (P := P) (k := k) hkr
 have ht := MapT.spec (P := P) (t := t) (k := k) (e := e)
 have Kd := KeyT.keyed (P := P) (k := k) (α := α)
 have hkl : ∀ e ∈ es.toList, ∃ l, keyOf P k e.key = some l := fun e he => let ⟨_, l, _, h, _⟩ := hk0 _ _ hok.ok e he; ⟨l, h⟩
 obtain ⟨es', clock', hrun, h1, h2, h3, h4, h5, h6, h7⟩ := map_update_run (w := w) Kd ht hh hkl hok.pw hkey v0 hcl
 have hclk := map_update_clock Kd ht hh hkl hkey v0 hrun
 rw [hrun] at hrw
 injection hrw with _ hrw
 subst hrw
 have hnew : (ChangeMaps.setBlock w r (.map es' clock')).heap[r]? = some (.map es' clock') := ChangeMaps.heap_setBlock_same hh _
 have hchg : Chg E w (ChangeMaps.setBlock w r (.map es' clock')) 0 wv (.map (some r)) 0 (wv + 1) (.map (some r)) (E.L r) := by
  have hbn := hs.g.tb n _ _ _ r hT rfl
  refine ⟨⟨rfl, rfl, rfl, by simp [ChangeMaps.setBlock], fun k hk => setBlock_other w r k _ (by omega)⟩, fun k _ hk => setBlock_other w r k _ (fun e => hk (by simp [blk, e])), fun b hb => .inl ⟨hb, ?_⟩, fun b i hb hi => ?_, .inr ⟨rfl, rfl, by omega⟩, fun b o hb ho => ?_, fun hv => absurd hv (Nat.lt_irrefl _), fun b hb hl => ?_⟩
  ·simp only [blk, Option.some.injEq] at hb; subst hb; exact Nat.le_refl _
  ·simp only [blk, Option.some.injEq] at hb; subst hb
   simp [World.cell?, hh, hnew]
  ·simp only [blk, Option.some.injEq] at hb; subst hb; rw [hh] at ho; cases ho; exact ⟨_, hnew, rfl⟩
  ·simp only [blk, Option.some.injEq] at hb; subst hb; omega
 have hev := Ev.chg hs.g hT hchg
 have hobj : ObjOk (E.chg n (0, wv + 1, .map (some r)) (E.L r)) (ChangeMaps.setBlock w r (.map es' clock')) n (.map (wv + 1) ok' (mapV (mset m key c))) := by
  refine ⟨r, es', clock', by simp [Env.chg], hnew, ⟨?_, h2, h6 hok.pb, fun e he => ?_, fun x c hx => ?_⟩, h5⟩
  ·refine hnw es'.toList clock' (fun e he => ?_) h3 hclk h7
   rcases h1 e he with ⟨h, _, hb⟩ | ⟨h, hne⟩
   ·exact .inl ⟨⟨key, kl, h, h ▸ hkey, fun E' w' => h ▸ KeyV.any hkr E' w'⟩, h, hb⟩
   ·exact .inr ⟨h, hne⟩
  ·rcases h1 e he with ⟨hk, hv', _⟩ | ⟨hm, hne⟩
   ·refine ⟨c, by rw [hk, mapV_kv]; simp [mset], ?_⟩
    rw [hv']
    exact hv.ev hev
   ·obtain ⟨c, hc, hr⟩ := hok.val e hm
    refine ⟨c, ?_, hr.ev hev⟩
    obtain ⟨y, l, hy, _⟩ := hk0 _ _ hok.ok e hm
    rw [hy, mapV_kv] at hc ⊢
    have : y ≠ key := fun e2 => hne (by rw [hy, e2])
    simp [mset, this, hc]
  ·by_cases hex : ∃ y : α, x = KeyV.kv y
   ·obtain ⟨y, rfl⟩ := hex
    rw [mapV_kv] at hx
    by_cases hyk : y = key
    ·subst hyk; exact h3
    ·simp only [mset, hyk, if_false] at hx
     obtain ⟨e, he, hek⟩ := hok.has (KeyV.kv y) c (by rw [mapV_kv]; exact hx)
     exact ⟨e, h4 e he (by rw [hek]; exact fun e2 => hyk (KeyV.inj e2)), hek⟩
   ·rw [mapV_none _ hex] at hx; cases hx
 exact ⟨_, hev, hs.evd hev (SimG.chg hs.g hT hchg hobj)⟩
/-- An entry is taken. -/
theorem e_mapEntry [DecidableEq α] {t k e : TypeId} [MapT P t k e] [KeyT P k α] {x i : Operand} {n wv N : Nat} {m m' : α → Option C} {z : Value} [Zero P e z] {c : C} (key : α) (ho : o.op = .mapEntry t x i) (hx : evC st x = .map n) (hG : st.G n = some (gmapN P k wv N m)) (hi : evC st i = KeyV.kc key) (hN : N ≤ 9223372036854775807) (hc : (m key).getD (constC z) = c) (hm : mset m key c = m')
  (h : ∀ s : Nat, K (St.put { st with G := setG st.G n (.map (wv + 1) (okP P k α (N + 1) key s) (mapV m')) } o.dst (.tup [c, .v (.int .i64 (s : Int))]))) : EStep P o st K := fun E w a hs Kr Q hq => by
 obtain ⟨r, es, clock, hT, hh, hok, hcl⟩ := hs.g.obj n _ hG
 have e1 := map_at (hx ▸ hs.ev x) hT
 have hkr := hs.ev i
 rw [hi] at hkr
 have e2 := KeyV.inv hkr
 obtain ⟨kl, hkey⟩ := KeyT.has (P := P) (k := k) hkr
 have ht := MapT.spec (P := P) (t := t) (k := k) (e := e)
 have Kd := KeyT.keyed (P := P) (k := k) (α := α)
 have hkl : ∀ e ∈ es.toList, ∃ l, keyOf P k e.key = some l := fun e he => let ⟨_, l, _, h, _⟩ := hok.ok.1 e he; ⟨l, h⟩
 obtain ⟨v0, s, w', h1, h2, h3⟩ := map_entry_run Kd ht hh (Zero.run (P := P) (t := e) (v := z) (w := w)) hkl hkey
 have hcl' : ∀ e ∈ es.toList, e.born < clock := fun e he => by simpa using Array.all_eq_true_iff_forall_mem.1 hcl e (by simpa using he)
 have hs63 : s ≤ N := by
  rcases h3 with ⟨e0, h4, _, _, rfl⟩ | ⟨_, _, rfl⟩
  ·have := hcl' e0 h4
   have := hok.ok.2
   omega
  ·exact hok.ok.2
 have hv0 : R E w c v0 := by
  rcases h3 with ⟨e0, h4, h5, rfl, _⟩ | ⟨h4, rfl, _⟩
  ·obtain ⟨c', hc', hr'⟩ := hok.val e0 h4
   rw [h5, mapV_kv] at hc'
   rw [hc'] at hc
   exact hc ▸ hr'
  ·have : m key = none := by
    cases hmk : m key with
    | none => rfl
    | some c' =>
     obtain ⟨e0, h5, h6⟩ := hok.has (KeyV.kv key) c' (by rw [mapV_kv, hmk])
     exact absurd h6 (h4 e0 h5)
   rw [this] at hc
   exact hc ▸ R.const E w _
 obtain ⟨E', hev, hs'⟩ := mapPut_core (ok' := okP P k α (N + 1) key s) (e := e) key hs hT hh hok hcl (fun _ _ h => h.1) rfl hkr hv0 hm (fun es' clock' he hex hc1 hc2 => by
  refine ⟨fun e h => ?_, by have := hok.ok.2; omega, ?_⟩
  ·rcases he e h with h | h
   ·exact h.1
   ·exact hok.ok.1 e h.1
  ·obtain ⟨e, h4, h5⟩ := hex
   refine ⟨e, h4, h5, ?_⟩
   rcases he e h4 with ⟨_, _, ⟨e0, h6, h7, h8⟩ | ⟨h6, h7⟩⟩ | ⟨_, h6⟩
   ·rcases h3 with ⟨e0', h9, h10, _, rfl⟩ | ⟨h9, _, _⟩
    ·have : e0 = e0' := Go.entry_eq_of_key hok.pw h6 h9 (h7.trans h10.symm)
     rw [← h8, this]
    ·exact absurd h7 (h9 e0 h6)
   ·rcases h3 with ⟨e0', h9, h10, _, _⟩ | ⟨_, _, rfl⟩
    ·exact absurd h10 (h6 e0' h9)
    ·exact h7
   ·exact absurd h5 h6) h2
 unfold Oper.wp
 have hex : (execOp a.eval o).run P w = .ok (.value (.tuple #[v0, goInt s])) w' := by simp [execOp, ho, e1, e2, h1]
 rw [hex]
 exact hq _ _ _ _ hev (hs'.put o.dst ((Rs.cons (hv0.ev hev) (Rs.cons (.v (okV_i64 (by omega))) Rs.nil)).tup)) (h s)
/-- .. and stored. -/
theorem e_entryStore [DecidableEq α] {t k e : TypeId} [MapT P t k e] [KeyT P k α] {x i y : Operand} {n wv N s : Nat} {m m' : α → Option C} (key : α) (ho : o.op = .entryStore t x i y) (hd : o.dst = none) (hx : evC st x = .map n) (hG : st.G n = some (.map wv (okP P k α N key s) (mapV m))) (hi : evC st i = .v (.int .i64 (s : Int))) (hm : mset m key (evC st y) = m')
  (h : K { st with G := setG st.G n (gmapN P k (wv + 1) N m') }) : EStep P o st K := fun E w a hs Kr Q hq => by
 obtain ⟨r, es, clock, hT, hh, hok, hcl⟩ := hs.g.obj n _ hG
 have e1 := map_at (hx ▸ hs.ev x) hT
 have e2 := (hi ▸ hs.ev i).v_inv
 have ht := MapT.spec (P := P) (t := t) (k := k) (e := e)
 have Kd := KeyT.keyed (P := P) (k := k) (α := α)
 obtain ⟨hok1, hok2, e0, he0, hk0, rfl⟩ := hok.ok
 have hkl : ∀ e ∈ es.toList, ∃ l, keyOf P k e.key = some l := fun e he => let ⟨_, l, _, h, _⟩ := hok1 e he; ⟨l, h⟩
 obtain ⟨x0, l0, q1, q2, q3⟩ := hok1 e0 he0
 have : x0 = key := KeyV.inj (q1.symm.trans hk0)
 subst this
 rw [q1] at q2
 obtain ⟨w', h1, h2⟩ := entry_store_run Kd ht hh hkl hok.pw hok.pb q2 he0 q1 (a.eval y)
 obtain ⟨E', hev, hs'⟩ := mapPut_core (ok' := okN P k α N) (e := e) x0 hs hT hh hok hcl (fun _ _ h => h.1) rfl (q3 E w) (hs.ev y) hm (fun es' clock' he hex hc1 hc2 => by
  refine ⟨fun e h => ?_, by have := hc2 ⟨e0, he0, q1⟩; omega⟩
  rcases he e h with h | h
  ·exact h.1
  ·exact hok1 e h.1) h2
 unfold Oper.wp
 have hex : (execOp a.eval o).run P w = .ok .skip w' := by
  have : a.eval i = goInt e0.born := e2
  simp [execOp, ho, e1, this, h1]
 rw [hex]
 refine hq _ _ _ _ hev ?_ h
 first | exact hs' | (rw [hd]; exact hs') | simpa [Act.put, hd, gmapN] using hs'
/-- A new map. -/
theorem e_makeMapN {t k e : TypeId} [MapT P t k e] (ho : o.op = .makeMap t none) (h : K (St.put { st with G := setG st.G st.nx (gmapN P k (α := α) 0 0 fun _ => none), nx := st.nx + 1 } o.dst (.map st.nx))) : EStep P o st K :=
 e_makeMapG (ok := okN P k α 0) ⟨fun e he => by simp at he, Nat.le_refl _⟩ ho h
end
/-- A map whose values are known less well, and whose clock is forgotten. -/
theorem aw_mapN_weak {ρ : Option Nat} {P : Program} {Q : Exit → St → Prop} {st : St} {c : Code} {α : Type} [KeyV α] {k : TypeId} {n wv N : Nat} {m m' : α → Option C} (hG : st.G n = some (gmapN P k wv N m)) (hm : ∀ x c, m x = some c → ∃ c', m' x = some c' ∧ ∀ (E : Env) (w : World) (v : Value), R E w c v → R E w c' v) (hm2 : ∀ x c', m' x = some c' → ∃ c, m x = some c) (h : AW ρ P c Q { st with G := setG st.G n (gmap P k wv m') }) : AW ρ P c Q st := by
 intro E w a hs
 refine h E w a ⟨hs.d, hs.sz, hs.t, ?_⟩
 refine ⟨hs.g.nx, fun j o ho => ?_, hs.g.lt, hs.g.tb, hs.g.ap, hs.g.fresh, hs.g.base⟩
 simp only [setG] at ho
 split at ho
 ·rename_i ej
  subst ej
  simp only [Option.some.injEq] at ho
  subst ho
  obtain ⟨r, es, clock, h1, h2, h3, h4⟩ := hs.g.obj j _ hG
  refine ⟨r, es, clock, h1, h2, ⟨h3.ok.1, h3.pw, h3.pb, fun e he => ?_, fun x c' hx => ?_⟩, h4⟩
  ·obtain ⟨c, q1, q2⟩ := h3.val e he
   obtain ⟨x, l, q3, _⟩ := h3.ok.1 e he
   rw [q3, mapV_kv] at q1 ⊢
   obtain ⟨c', q5, q6⟩ := hm x c q1
   exact ⟨c', q5, q6 E w _ q2⟩
  ·by_cases hex : ∃ y : α, x = KeyV.kv y
   ·obtain ⟨y, rfl⟩ := hex
    rw [mapV_kv] at hx
    obtain ⟨c, hc⟩ := hm2 y c' hx
    exact h3.has (KeyV.kv y) c (by rw [mapV_kv, hc])
   ·rw [mapV_none _ hex] at hx; cases hx
 ·exact hs.g.obj j o ho
/-- Three numbers. -/
instance : KeyV Go.PB.PlaceD where
 kv x := .agg #[.int .i64 x.ch, .int .i64 x.ln, .int .i64 x.wd]
 kc x := .agg [.v (.int .i64 x.ch), .v (.int .i64 x.ln), .v (.int .i64 x.wd)]
 inv h := by
  obtain ⟨vs, rfl, h1, _⟩ := h.agg_inv
  match vs, h1 with
  | [a, b, c], h1 =>
   have e1 := (h1.2 0 _ _ rfl rfl).v_inv
   have e2 := (h1.2 1 _ _ rfl rfl).v_inv
   have e3 := (h1.2 2 _ _ rfl rfl).v_inv
   subst e1; subst e2; subst e3; rfl
  | [], h => exact absurd h.1 (by simp)
  | [_], h => exact absurd h.1 (by simp)
  | [_, _], h => exact absurd h.1 (by simp)
  | _ :: _ :: _ :: _ :: _, h => exact absurd h.1 (by simp)
 inj h := by
  rename_i x y
  obtain ⟨a, b, c⟩ := x
  obtain ⟨d, e, f⟩ := y
  simpa using h
 any {E w x v} h E' w' := by
  obtain ⟨vs, rfl, h1, _⟩ := h.agg_inv
  match vs, h1 with
  | [a, b, c], h1 =>
   have e1 := h1.2 0 _ _ rfl rfl
   have e2 := h1.2 1 _ _ rfl rfl
   have e3 := h1.2 2 _ _ rfl rfl
   cases e1 with | v e1 =>
   cases e2 with | v e2 =>
   cases e3 with | v e3 =>
   exact (Rs.cons (.v e1) (Rs.cons (.v e2) (Rs.cons (.v e3) Rs.nil))).agg (by intro c hc; simp only [List.mem_cons, List.not_mem_nil, or_false] at hc; rcases hc with rfl | rfl | rfl <;> rfl)
  | [], h => exact absurd h.1 (by simp)
  | [_], h => exact absurd h.1 (by simp)
  | [_, _], h => exact absurd h.1 (by simp)
  | _ :: _ :: _ :: _ :: _, h => exact absurd h.1 (by simp)
end Go.AB
namespace Go.AB
open Go Go.RowKit
open Go.AB.Enc (cells)
variable {ρ : Option Nat}
section
variable {P : Program} {Q : Exit → St → Prop} {st : St}
theorem Back.simN {E0 E' : Env} {w0 w' : World} {a0 a' : Act} {st' : St} {u : List (Nat × C)} {g : Nat → Option GObj} {M : Nat} (h0 : Sim E0 w0 st a0) (hr : st.r = []) (hM : st.nx ≤ M) (hb : Back { st with nx := M } u g st') (hu : lowU M u) (hg : ∀ n o, g n = some o → st.G n = some o ∨ (n < M ∧ o.low M))
  (hev : Ev E0 w0 E' w') (hs : Sim E' w' st' a') : Ev E0 w0 (E'.drop M) w' ∧ Sim (E'.drop M) w' { st with r := u, G := g, nx := M } a' := by
 have h1 := h0.g.nx
 refine ⟨hev.drop (by omega), ?_⟩
 have hlow : ∀ i, i < st.n → (getA st.l u i).low M := fun i hi => by
  rcases getA_cases st.l u i with ⟨p, hp, _, he⟩ | ⟨_, he⟩
  ·rw [he]; exact lowU_spec hu p hp
  ·rw [he]
   have := h0.low i hi
   rw [hr] at this
   exact C.low.mono this hM
 have hcl : ∀ i, getA st.l u i = .any ∨ getA st.l u i = getA st'.l st'.r i := fun i => by
  by_cases hi : i < st.l.length
  ·rcases fitsN_spec _ _ hb.fits i (Nat.zero_le _) (by show i < 0 + st.l.length; omega) with h | h
   ·exact .inl h
   ·exact .inr h.symm
  ·rcases getA_cases st.l u i with ⟨p, hp, he, he2⟩ | ⟨_, he⟩
   ·rcases hb.keys with hk | hk
    ·have h2 : p.1 < st.l.length := keysLt_spec hk p hp
     omega
    ·rcases fitsU_spec hk p hp with h | h
     ·left; rw [he2, h]
     ·right; rw [he2, ← h, he]
   ·left; rw [he, List.getD_eq_getElem?_getD, List.getElem?_eq_none (by omega)]; rfl
 refine hs.dropTo (st' := { st with r := u, G := g, nx := M }) hb.n.1.symm hb.n.2.symm hb.nx (fun i hi => ?_) fun n o ho => ⟨hb.G n o ho, ?_⟩
 ·rcases hcl i with h2 | h2
  ·exact .inl h2
  ·exact .inr ⟨h2, hlow i (hb.n.1 ▸ hi)⟩
 ·rcases hg n o ho with h2 | h2
  ·have := h0.lowG n o h2
   exact ⟨by have := this.1; show n < M; omega, GObj.low_mono this.2 hM⟩
  ·exact h2
/-- A loop whose rounds may make names, of which some stay. -/
theorem aw_loopN {X : Type} {c : Code} (I : X → Prop) (μ : X → Nat) (u : X → List (Nat × C)) (g : X → (Nat → Option GObj) → Nat → Option GObj) (N : X → Nat) (x0 : X) (hr : st.r = []) (h0 : I x0) (e0 : FitsU st.l [] (u x0)) (n0 : N x0 = st.nx) (g0 : ∀ n o, g x0 st.G n = some o → st.G n = some o)
  (hN : ∀ x, I x → st.nx ≤ N x) (hu : ∀ x, I x → lowU (N x) (u x)) (hg : ∀ x, I x → ∀ n o, g x st.G n = some o → st.G n = some o ∨ (n < N x ∧ o.low (N x)))
  (round : ∀ x, I x → AW ρ P c (AThen (fun st' => ∃ x', μ x' < μ x ∧ I x' ∧ Back { st with nx := N x' } (u x') (g x' st.G) st') Q) { st with r := u x, G := g x st.G, nx := N x }) : AW ρ P (.loop c) Q st := by
 intro E w a hs
 refine cwp_loop (fun m a1 w1 => ∃ x E1, m = μ x ∧ I x ∧ Ev E w E1 w1 ∧ Sim E1 w1 { st with r := u x, G := g x st.G, nx := N x } a1) (μ x0) ⟨x0, E, rfl, h0, Ev.refl E w, ?_⟩ ?_
 ·have h1 : Sim E w { st with r := u x0 } a := le_r (n := st.n) (G := st.G) (nx := st.nx) (df := st.df) e0 rfl E w a (by rw [← hr]; exact hs)
  rw [n0]
  exact le_G (st := { st with r := u x0 }) g0 E w a h1
 ·rintro m a1 w1 ⟨x, E1, rfl, hI, hev, hs1⟩
  refine cwp_mono ?_ (round x hI E1 w1 a1 hs1)
  rintro e a' w' ⟨st', E', h1, h2, h3⟩
  cases e with
  | normal =>
   obtain ⟨x', h4, h5, h6⟩ := h3
   obtain ⟨h7, h8⟩ := Back.simN hs hr (hN x' h5) h6 (hu x' h5) (hg x' h5) (hev.trans h1) h2
   exact ⟨μ x', h4, x', _, rfl, h5, h7, h8⟩
  | _ => exact lift_trans (hev.trans h1) ⟨st', E', Ev.refl _ _, h2, h3⟩
end
section
variable {P : Program} {o : Oper} {st : St} {K : St → Prop}
/-- A nil slice in a slot gets a name, ahead of an operation. -/
theorem e_adopt (i : Nat) (e : TypeId) (sz : Nat) (h0 : st.at i = .list [] .nil) (hsz : 1 ≤ sz) (h : EStep P o { st with r := (i, .list [] (.tip st.nx)) :: st.r, G := setG st.G st.nx (.tip 0 e sz), nx := st.nx + 1 } K) : EStep P o st K := by
 intro E w a hs
 have hnx := hs.g.nx
 have hev := Ev.name hs.g (.slice none 0 0) (fun b o hb _ => by simp [blk] at hb)
 have hg := SimG.name hs.g (.slice none 0 0) (.tip 0 e sz) (fun b hb => by simp [blk] at hb) ⟨.slice none 0 0, [], by simp [Env.name, hnx], World.ownsRow_nil _ _ _ _, fun b hb => by simp [blk] at hb, hsz⟩
 have hp := hs.at i
 rw [h0] at hp
 have hs2 := hs.evd hev hg
 have hs3 : Sim (E.name (.slice none 0 0)) w { st with r := (i, .list [] (.tip st.nx)) :: st.r, G := setG st.G st.nx (.tip 0 e sz), nx := st.nx + 1 } a := by
  refine ⟨hs.d.ev hev, hs.sz, fun j v hj => ?_, hg⟩
  simp only [getA]
  cases hb : Nat.beq i j
  ·exact hs2.t j v hj
  ·have hij := Nat.eq_of_beq_eq_true hb
   subst hij
   have hv : a.tmps.getD i undef = v := by rw [Array.getD_eq_getD_getElem?, hj]; rfl
   rw [hv] at hp
   obtain ⟨as, cap, s, us, rfl, h1, h2, _, _, _, _, _, z1, _⟩ := hp.list_inv
   obtain ⟨rfl, rfl⟩ := z1 rfl
   exact R.mk_list (rows := []) (sz := 1) (us := []) (Nat.le_refl _) (Nat.zero_le _) (Nat.le_refl _) (by simp) (by simp) Rs.nil (.inl rfl) (by simp) (by simp) fun n hn => by
    simp only [Tok.tip.injEq] at hn
    subst hn
    refine ⟨by simp [Env.name]; omega, fun ver wv val ht => ?_⟩
    simp only [Env.name] at ht
    rw [if_pos (by omega)] at ht
    simp only [Option.some.injEq, Prod.mk.injEq] at ht
    obtain ⟨rfl, rfl, rfl⟩ := ht
    exact ⟨Nat.le_refl _, fun _ => rfl⟩
 exact fun Kr Q hq => h _ w a hs3 Kr Q fun a' w' st' E' hev' => hq a' w' st' E' (hev.trans hev')
end
/-- A map whose values are known less well. -/
theorem aw_map_weak {P : Program} {Q : Exit → St → Prop} {st : St} {c : Code} {α : Type} [KeyV α] {k : TypeId} {n wv : Nat} {m m' : α → Option C} (hG : st.G n = some (gmap P k wv m)) (hm : ∀ x c, m x = some c → ∃ c', m' x = some c' ∧ ∀ (E : Env) (w : World) (v : Value), R E w c v → R E w c' v) (hm2 : ∀ x c', m' x = some c' → ∃ c, m x = some c) (h : AW ρ P c Q { st with G := setG st.G n (gmap P k wv m') }) : AW ρ P c Q st := by
 intro E w a hs
 refine h E w a ⟨hs.d, hs.sz, hs.t, ?_⟩
 refine ⟨hs.g.nx, fun j o ho => ?_, hs.g.lt, hs.g.tb, hs.g.ap, hs.g.fresh, hs.g.base⟩
 simp only [setG] at ho
 split at ho
 ·rename_i ej
  subst ej
  simp only [Option.some.injEq] at ho
  subst ho
  obtain ⟨r, es, clock, h1, h2, h3, h4⟩ := hs.g.obj j _ hG
  refine ⟨r, es, clock, h1, h2, ⟨h3.ok, h3.pw, h3.pb, fun e he => ?_, fun x c' hx => ?_⟩, h4⟩
  ·obtain ⟨c, q1, q2⟩ := h3.val e he
   obtain ⟨x, l, q3, _⟩ := h3.ok e he
   rw [q3, mapV_kv] at q1 ⊢
   obtain ⟨c', q5, q6⟩ := hm x c q1
   exact ⟨c', q5, q6 E w _ q2⟩
  ·by_cases hex : ∃ y : α, x = KeyV.kv y
   ·obtain ⟨y, rfl⟩ := hex
    rw [mapV_kv] at hx
    obtain ⟨c, hc⟩ := hm2 y c' hx
    exact h3.has (KeyV.kv y) c (by rw [mapV_kv, hc])
   ·rw [mapV_none _ hex] at hx; cases hx
 ·exact hs.g.obj j o ho
/-- What is looked up, as it is said. -/
theorem s_lookupC {P : Program} {o : Oper} {st : St} {α : Type} [KeyV α] {D : Nat → Prop} {t k e : TypeId} [MapT P t k e] [KeyT P k α] {x i : Operand} {n wv : Nat} {m : α → Option C} {c : C} {z : Value} [Zero P e z] (key : α) (ho : o.op = .lookup t x i false) (hx : evC st x = .map n) (hG : st.G n = some (gmap P k wv m)) (hD : D n) (hi : evC st i = KeyV.kc key) (hc : (m key).getD (constC z) = c) : SStep P D o st c := by
 subst hc
 exact s_lookup key ho hx hG hD hi rfl
end Go.AB
