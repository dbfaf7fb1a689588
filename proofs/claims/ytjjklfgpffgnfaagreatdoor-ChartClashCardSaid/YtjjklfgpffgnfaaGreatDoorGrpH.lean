/-
  What the walks through the program rest on: values, states, steps, calls (AbEntry, AbGrow, HiClash).
-/
import Derived.Test.YtjjklfgpffgnfaaGreatDoorEngB
import Derived.Test.YtjjklfgpffgnfaaGreatDoorTy
import Derived.WideKeyEntry
import Derived.Test.YtjjklfgpffgnfaaGreatDoorAbTwin
import Derived.Test.YtjjklfgpffgnfaaGreatDoorGrpG
namespace Go.AB
open Go Go.RowKit
open Go.Maps (Keyed)
/-- A map whose clock is bounded. -/
def okN (P : Program) (k : TypeId) (α : Type) [KeyV α] (N : Nat) : List MapEntry → Nat → Prop := fun es cl => okK P k α es cl ∧ cl ≤ N
/-- .. of which an entry is in hand. -/
def okP (P : Program) (k : TypeId) (α : Type) [KeyV α] (N : Nat) (x : α) (s : Nat) : List MapEntry → Nat → Prop := fun es cl => okK P k α es cl ∧ cl ≤ N ∧ ∃ e ∈ es, e.key = KeyV.kv x ∧ e.born = s
noncomputable def kn (P : Program) (k : TypeId) {α : Type} [KeyV α] (wv N : Nat) (m : α → Option C) : GObj := .map wv (okN P k α N) (i3 m)

section
variable {P : Program} {k t e : TypeId} {w : World} {r : Nat} {es : Array MapEntry} {clock : Nat}
theorem uhh (K : Keyed P k) (ht : P.underlying t = some (.map k e)) (hb : w.heap[r]? = some (.map es clock))
  (h1 : ∀ e ∈ es.toList, ∃ l, keyOf P k e.key = some l) {key : Value} {kl : Lit} (hkey : keyOf P k key = some kl) (val : Value) {es' : Array MapEntry} {clock' : Nat}
  (h : (Instr.mapUpdate t (.map (some r)) key val).run P w = .ok () (ChangeMaps.setBlock w r (.map es' clock'))) : clock' ≤ clock + 1 := by
 have hn := ChangeMaps.heap_setBlock_same hb (.map es' clock')
 rcases K.find w hkey es.toList h1 with ⟨hf, _⟩ | ⟨j, e0, hf, hj, hk⟩
 ·have h2 : (Instr.mapUpdate t (.map (some r)) key val).run P w = .ok () (ChangeMaps.setBlock w r (.map (es.push ⟨key, val, clock⟩) (clock + 1))) := by
   simp [Instr.mapUpdate, run_underlying ht, MapKept.run_getObj_map hb, K.check w false hkey, hf, MapKept.run_setObj_map _ hb, Result.andThen, ChangeMaps.setBlock]
  rw [h] at h2
  injection h2 with _ h2
  rw [h2, ChangeMaps.heap_setBlock_same hb] at hn
  injection hn with hn
  injection hn with _ hn
  omega
 ·have hj' : es[j]? = some e0 := by simpa using hj
  have h2 : (Instr.mapUpdate t (.map (some r)) key val).run P w = .ok () (ChangeMaps.setBlock w r (.map (es.modify j fun e' => { e' with key := key, val := val }) clock)) := by
   simp [Instr.mapUpdate, run_underlying ht, MapKept.run_getObj_map hb, K.check w false hkey, hf, hj', hk, K.stays w hkey, MapKept.run_setObj_map _ hb, Result.andThen, ChangeMaps.setBlock]
  rw [h] at h2
  injection h2 with _ h2
  rw [h2, ChangeMaps.heap_setBlock_same hb] at hn
  injection hn with hn
  injection hn with _ hn
  omega
theorem uhi (K : Keyed P k) (ht : P.underlying t = some (.map k e)) (hb : w.heap[r]? = some (.map es clock)) {z : Value} (hz : (zeroValue e).run P w = .ok z w)
  (h1 : ∀ e ∈ es.toList, ∃ l, keyOf P k e.key = some l) {key : Value} {kl : Lit} (hkey : keyOf P k key = some kl) :
  ∃ (v0 : Value) (s : Nat) (w' : World), (Instr.mapEntry t (.map (some r)) key).run P w = .ok (.tuple #[v0, goInt s]) w' ∧ (Instr.mapUpdate t (.map (some r)) key v0).run P w = .ok () w' ∧
   ((∃ e0 ∈ es.toList, e0.key = key ∧ v0 = e0.val ∧ s = e0.born) ∨ ((∀ x ∈ es.toList, x.key ≠ key) ∧ v0 = z ∧ s = clock)) := by
 rcases K.find w hkey es.toList h1 with ⟨hf, hn⟩ | ⟨j, e0, hf, hj, hk⟩
 ·refine ⟨z, clock, ChangeMaps.setBlock w r (.map (es.push ⟨key, z, clock⟩) (clock + 1)), ?_, ?_, .inr ⟨hn, rfl, rfl⟩⟩
  ·simp [Instr.mapEntry, run_underlying ht, MapKept.run_getObj_map hb, K.check w false hkey, hf, hz, MapKept.run_setObj_map _ hb, Result.andThen, ChangeMaps.setBlock]
  ·simp [Instr.mapUpdate, run_underlying ht, MapKept.run_getObj_map hb, K.check w false hkey, hf, MapKept.run_setObj_map _ hb, Result.andThen, ChangeMaps.setBlock]
 ·have hj' : es[j]? = some e0 := by simpa using hj
  have hsame : ∀ f : MapEntry → MapEntry, f e0 = e0 → es.modify j f = es := fun f hf => by
   apply Array.ext'
   rw [Array.toList_modify, ChangeMaps.modify_eq_set _ _ _ _ hj, hf]
   exact WideElems.set_self _ _ _ hj
  refine ⟨e0.val, e0.born, ChangeMaps.setBlock w r (.map es clock), ?_, ?_, .inl ⟨e0, List.mem_of_getElem? hj, hk, rfl, rfl⟩⟩
  ·have := hsame (fun e => { e with key := key }) (by rw [← hk])
   simp [Instr.mapEntry, run_underlying ht, MapKept.run_getObj_map hb, K.check w false hkey, hf, hj', hk, K.stays w hkey, this, MapKept.run_setObj_map _ hb, Result.andThen, ChangeMaps.setBlock]
  ·have := hsame (fun e => { e with key := key, val := e0.val }) (by rw [← hk])
   simp [Instr.mapUpdate, run_underlying ht, MapKept.run_getObj_map hb, K.check w false hkey, hf, hj', hk, K.stays w hkey, this, MapKept.run_setObj_map _ hb, Result.andThen, ChangeMaps.setBlock]
theorem ujm (K : Keyed P k) (ht : P.underlying t = some (.map k e)) (hb : w.heap[r]? = some (.map es clock)) (h1 : ∀ e ∈ es.toList, ∃ l, keyOf P k e.key = some l) (h2 : es.toList.Pairwise fun a b => a.key ≠ b.key) (h3 : es.toList.Pairwise fun a b => a.born ≠ b.born)
  {key : Value} {kl : Lit} (hkey : keyOf P k key = some kl) {e0 : MapEntry} (he0 : e0 ∈ es.toList) (hk0 : e0.key = key) (val : Value) :
  ∃ w', (Instr.entryStore t (.map (some r)) (goInt e0.born) val).run P w = .ok () w' ∧ (Instr.mapUpdate t (.map (some r)) key val).run P w = .ok () w' := by
 rcases K.find w hkey es.toList h1 with ⟨hf, hn⟩ | ⟨j, e1, hf, hj, hk⟩
 ·exact absurd hk0 (hn e0 he0)
 ·have : e1 = e0 := Go.entry_eq_of_key h2 (List.mem_of_getElem? hj) he0 (hk.trans hk0.symm)
  subst this
  have hj' : es[j]? = some e1 := by simpa using hj
  have hidx : es.findIdx? (fun e => ((e.born : Nat) : Int) == ((e1.born : Nat) : Int)) = some j := by
   rw [WideElems.findIdx_arr]
   exact WideElems.findIdx_born (List.pairwise_map.2 h3) hj
  refine ⟨ChangeMaps.setBlock w r (.map (es.modify j fun e' => { e' with key := key, val := val }) clock), ?_, ?_⟩
  ·have hmod : es.modify j (fun e => { e with val := val }) = es.modify j (fun e' => { e' with key := key, val := val }) := by
    apply Array.ext'
    rw [Array.toList_modify, Array.toList_modify, ChangeMaps.modify_eq_set _ _ _ _ hj, ChangeMaps.modify_eq_set _ _ _ _ hj, ← hk]
   simp [Instr.entryStore, MapKept.run_getObj_map hb, asInt, asIntOf, goInt, hidx, hmod, MapKept.run_setObj_map _ hb, Result.andThen, ChangeMaps.setBlock]
  ·simp [Instr.mapUpdate, run_underlying ht, MapKept.run_getObj_map hb, K.check w false hkey, hf, hj', hk, K.stays w hkey, MapKept.run_setObj_map _ hb, Result.andThen, ChangeMaps.setBlock]
end
section
variable {P : Program} {o : Oper} {st : St} {K : St → Prop} {α : Type} [KeyV α]
/-- What an update leaves, in one world. -/
theorem uak [DecidableEq α] {t k e : TypeId} [MapT P t k e] [KeyT P k α] {n wv : Nat} {ok ok' : List MapEntry → Nat → Prop} {m m' : α → Option C} {c : C} (key : α) {E : Env} {w : World} {a : Act} (hs : Sim E w st a) {r : Nat} {es : Array MapEntry} {clock : Nat} (hT : E.T n = some (0, wv, .map (some r))) (hh : w.heap[r]? = some (.map es clock)) (hok : MapOk E w ok (i3 m) es.toList clock) (hcl : es.all (·.born < clock) = true) (hk0 : ∀ es cl, ok es cl → okK P k α es cl)
  {i : C} {vi : Value} (hi : i = KeyV.kc key) (hkr : R E w i vi) {v0 : Value} (hv : R E w c v0) (hm : f7 m key c = m')
  (hnw : ∀ (es' : List MapEntry) (clock' : Nat), (∀ e ∈ es', (okK1 P k α e ∧ e.key = KeyV.kv key ∧ ((∃ e0 ∈ es.toList, e0.key = KeyV.kv key ∧ e0.born = e.born) ∨ ((∀ e0 ∈ es.toList, e0.key ≠ KeyV.kv key) ∧ e.born = clock))) ∨ (e ∈ es.toList ∧ e.key ≠ KeyV.kv key)) → (∃ e ∈ es', e.key = KeyV.kv key) → clock' ≤ clock + 1 → ((∃ e0 ∈ es.toList, e0.key = KeyV.kv key) → clock' = clock) → ok' es' clock')
  {w' : World} (hrw : (Instr.mapUpdate t (.map (some r)) (KeyV.kv key) v0).run P w = .ok () w') :
  ∃ E', Ev E w E' w' ∧ Sim E' w' { st with G := ak st.G n (.map (wv + 1) ok' (i3 m')) } a := by
 subst hm; subst hi
 obtain ⟨kl, hkey⟩ := KeyT.has (P := P) (k := k) hkr
 have ht := MapT.spec (P := P) (t := t) (k := k) (e := e)
 have Kd := KeyT.keyed (P := P) (k := k) (α := α)
 have hkl : ∀ e ∈ es.toList, ∃ l, keyOf P k e.key = some l := fun e he => let ⟨_, l, _, h, _⟩ := hk0 _ _ hok.ok e he; ⟨l, h⟩
 obtain ⟨es', clock', hrun, h1, h2, h3, h4, h5, h6, h7⟩ := uai (w := w) Kd ht hh hkl hok.pw hkey v0 hcl
 have hclk := uhh Kd ht hh hkl hkey v0 hrun
 rw [hrun] at hrw
 injection hrw with _ hrw
 subst hrw
 have hnew : (ChangeMaps.setBlock w r (.map es' clock')).heap[r]? = some (.map es' clock') := ChangeMaps.heap_setBlock_same hh _
 have hchg : Chg E w (ChangeMaps.setBlock w r (.map es' clock')) 0 wv (.map (some r)) 0 (wv + 1) (.map (some r)) (E.L r) := by
  have hbn := hs.g.tb n _ _ _ r hT rfl
  refine ⟨⟨rfl, rfl, rfl, by simp [ChangeMaps.setBlock], fun k hk => pq w r k _ (by omega)⟩, fun k _ hk => pq w r k _ (fun e => hk (by simp [blk, e])), fun b hb => .inl ⟨hb, ?_⟩, fun b i hb hi => ?_, .inr ⟨rfl, rfl, by omega⟩, fun b o hb ho => ?_, fun hv => absurd hv (Nat.lt_irrefl _), fun b hb hl => ?_⟩
  ·simp only [blk, Option.some.injEq] at hb; subst hb; exact Nat.le_refl _
  ·simp only [blk, Option.some.injEq] at hb; subst hb
   simp [World.cell?, hh, hnew]
  ·simp only [blk, Option.some.injEq] at hb; subst hb; rw [hh] at ho; cases ho; exact ⟨_, hnew, rfl⟩
  ·simp only [blk, Option.some.injEq] at hb; subst hb; omega
 have hev := Ev.chg hs.g hT hchg
 have hobj : ObjOk (E.chg n (0, wv + 1, .map (some r)) (E.L r)) (ChangeMaps.setBlock w r (.map es' clock')) n (.map (wv + 1) ok' (i3 (f7 m key c))) := by
  refine ⟨r, es', clock', by simp [Env.chg], hnew, ⟨?_, h2, h6 hok.pb, fun e he => ?_, fun x c hx => ?_⟩, h5⟩
  ·refine hnw es'.toList clock' (fun e he => ?_) h3 hclk h7
   rcases h1 e he with ⟨h, _, hb⟩ | ⟨h, hne⟩
   ·exact .inl ⟨⟨key, kl, h, h ▸ hkey, fun E' w' => h ▸ KeyV.any hkr E' w'⟩, h, hb⟩
   ·exact .inr ⟨h, hne⟩
  ·rcases h1 e he with ⟨hk, hv', _⟩ | ⟨hm, hne⟩
   ·refine ⟨c, by rw [hk, g4]; simp [f7], ?_⟩
    rw [hv']
    exact hv.ev hev
   ·obtain ⟨c, hc, hr⟩ := hok.val e hm
    refine ⟨c, ?_, hr.ev hev⟩
    obtain ⟨y, l, hy, _⟩ := hk0 _ _ hok.ok e hm
    rw [hy, g4] at hc ⊢
    have : y ≠ key := fun e2 => hne (by rw [hy, e2])
    simp [f7, this, hc]
  ·by_cases hex : ∃ y : α, x = KeyV.kv y
   ·obtain ⟨y, rfl⟩ := hex
    rw [g4] at hx
    by_cases hyk : y = key
    ·subst hyk; exact h3
    ·simp only [f7, hyk, if_false] at hx
     obtain ⟨e, he, hek⟩ := hok.has (KeyV.kv y) c (by rw [g4]; exact hx)
     exact ⟨e, h4 e he (by rw [hek]; exact fun e2 => hyk (KeyV.inj e2)), hek⟩
   ·rw [ou _ hex] at hx; cases hx
 exact ⟨_, hev, hs.evd hev (SimG.chg hs.g hT hchg hobj)⟩
/-- An entry is taken. -/
theorem qc [DecidableEq α] {t k e : TypeId} [MapT P t k e] [KeyT P k α] {x i : Operand} {n wv N : Nat} {m m' : α → Option C} {z : Value} [Zero P e z] {c : C} (key : α) (ho : o.op = .mapEntry t x i) (hx : evC st x = .map n) (hG : st.G n = some (kn P k wv N m)) (hi : evC st i = KeyV.kc key) (hN : N ≤ 9223372036854775807) (hc : (m key).getD (iw z) = c) (hm : f7 m key c = m')
  (h : ∀ s : Nat, K (St.put { st with G := ak st.G n (.map (wv + 1) (okP P k α (N + 1) key s) (i3 m')) } o.dst (.tup [c, .v (.int .i64 (s : Int))]))) : EStep P o st K := fun E w a hs Kr Q hq => by
 obtain ⟨r, es, clock, hT, hh, hok, hcl⟩ := hs.g.obj n _ hG
 have e1 := n1 (hx ▸ hs.ev x) hT
 have hkr := hs.ev i
 rw [hi] at hkr
 have e2 := KeyV.inv hkr
 obtain ⟨kl, hkey⟩ := KeyT.has (P := P) (k := k) hkr
 have ht := MapT.spec (P := P) (t := t) (k := k) (e := e)
 have Kd := KeyT.keyed (P := P) (k := k) (α := α)
 have hkl : ∀ e ∈ es.toList, ∃ l, keyOf P k e.key = some l := fun e he => let ⟨_, l, _, h, _⟩ := hok.ok.1 e he; ⟨l, h⟩
 obtain ⟨v0, s, w', h1, h2, h3⟩ := uhi Kd ht hh (Zero.run (P := P) (t := e) (v := z) (w := w)) hkl hkey
 have hcl' : ∀ e ∈ es.toList, e.born < clock := fun e he => by simpa using Array.all_eq_true_iff_forall_mem.1 hcl e (by simpa using he)
 have hs63 : s ≤ N := by
  rcases h3 with ⟨e0, h4, _, _, rfl⟩ | ⟨_, _, rfl⟩
  ·have := hcl' e0 h4
   have := hok.ok.2
   omega
  ·exact hok.ok.2
 have hv0 : R E w c v0 := by
  rcases h3 with ⟨e0, h4, h5, rfl, _⟩ | ⟨h4, rfl, _⟩
  ·obtain ⟨c', hc', hr'⟩ := hok.val e0 h4
   rw [h5, g4] at hc'
   rw [hc'] at hc
   exact hc ▸ hr'
  ·have : m key = none := by
    cases hmk : m key with
    | none => rfl
    | some c' =>
     obtain ⟨e0, h5, h6⟩ := hok.has (KeyV.kv key) c' (by rw [g4, hmk])
     exact absurd h6 (h4 e0 h5)
   rw [this] at hc
   exact hc ▸ R.const E w _
 obtain ⟨E', hev, hs'⟩ := uak (ok' := okP P k α (N + 1) key s) (e := e) key hs hT hh hok hcl (fun _ _ h => h.1) rfl hkr hv0 hm (fun es' clock' he hex hc1 hc2 => by
  refine ⟨fun e h => ?_, by have := hok.ok.2; omega, ?_⟩
  ·rcases he e h with h | h
   ·exact h.1
   ·exact hok.ok.1 e h.1
  ·obtain ⟨e, h4, h5⟩ := hex
   refine ⟨e, h4, h5, ?_⟩
   rcases he e h4 with ⟨_, _, ⟨e0, h6, h7, h8⟩ | ⟨h6, h7⟩⟩ | ⟨_, h6⟩
   ·rcases h3 with ⟨e0', h9, h10, _, rfl⟩ | ⟨h9, _, _⟩
    ·have : e0 = e0' := Go.entry_eq_of_key hok.pw h6 h9 (h7.trans h10.symm)
     rw [← h8, this]
    ·exact absurd h7 (h9 e0 h6)
   ·rcases h3 with ⟨e0', h9, h10, _, _⟩ | ⟨_, _, rfl⟩
    ·exact absurd h10 (h6 e0' h9)
    ·exact h7
   ·exact absurd h5 h6) h2
 unfold Oper.wp
 have hex : (execOp a.eval o).run P w = .ok (.value (.tuple #[v0, goInt s])) w' := by simp [execOp, ho, e1, e2, h1]
 rw [hex]
 exact hq _ _ _ _ hev (hs'.put o.dst ((Rs.cons (hv0.ev hev) (Rs.cons (.v (j0 (by omega))) Rs.nil)).tup)) (h s)
/-- .. and stored. -/
theorem qd [DecidableEq α] {t k e : TypeId} [MapT P t k e] [KeyT P k α] {x i y : Operand} {n wv N s : Nat} {m m' : α → Option C} (key : α) (ho : o.op = .entryStore t x i y) (hd : o.dst = none) (hx : evC st x = .map n) (hG : st.G n = some (.map wv (okP P k α N key s) (i3 m))) (hi : evC st i = .v (.int .i64 (s : Int))) (hm : f7 m key (evC st y) = m')
  (h : K { st with G := ak st.G n (kn P k (wv + 1) N m') }) : EStep P o st K := fun E w a hs Kr Q hq => by
 obtain ⟨r, es, clock, hT, hh, hok, hcl⟩ := hs.g.obj n _ hG
 have e1 := n1 (hx ▸ hs.ev x) hT
 have e2 := (hi ▸ hs.ev i).v_inv
 have ht := MapT.spec (P := P) (t := t) (k := k) (e := e)
 have Kd := KeyT.keyed (P := P) (k := k) (α := α)
 obtain ⟨hok1, hok2, e0, he0, hk0, rfl⟩ := hok.ok
 have hkl : ∀ e ∈ es.toList, ∃ l, keyOf P k e.key = some l := fun e he => let ⟨_, l, _, h, _⟩ := hok1 e he; ⟨l, h⟩
 obtain ⟨x0, l0, q1, q2, q3⟩ := hok1 e0 he0
 have : x0 = key := KeyV.inj (q1.symm.trans hk0)
 subst this
 rw [q1] at q2
 obtain ⟨w', h1, h2⟩ := ujm Kd ht hh hkl hok.pw hok.pb q2 he0 q1 (a.eval y)
 obtain ⟨E', hev, hs'⟩ := uak (ok' := okN P k α N) (e := e) x0 hs hT hh hok hcl (fun _ _ h => h.1) rfl (q3 E w) (hs.ev y) hm (fun es' clock' he hex hc1 hc2 => by
  refine ⟨fun e h => ?_, by have := hc2 ⟨e0, he0, q1⟩; omega⟩
  rcases he e h with h | h
  ·exact h.1
  ·exact hok1 e h.1) h2
 unfold Oper.wp
 have hex : (execOp a.eval o).run P w = .ok .skip w' := by
  have : a.eval i = goInt e0.born := e2
  simp [execOp, ho, e1, this, h1]
 rw [hex]
 refine hq _ _ _ _ hev ?_ h
 first | exact hs' | (rw [hd]; exact hs') | simpa [Act.put, hd, kn] using hs'
/-- A new map. -/
theorem uj0 {t k e : TypeId} [MapT P t k e] (ho : o.op = .makeMap t none) (h : K (St.put { st with G := ak st.G st.nx (kn P k (α := α) 0 0 fun _ => none), nx := st.nx + 1 } o.dst (.map st.nx))) : EStep P o st K :=
 ub4 (ok := okN P k α 0) ⟨fun e he => by simp at he, Nat.le_refl _⟩ ho h
end
end Go.AB
namespace Go.AB
open Go Go.RowKit
open Go.AB.Enc (cells)
variable {ρ : Option Nat}
section
variable {P : Program} {Q : Exit → St → Prop} {st : St}
end
section
variable {P : Program} {o : Oper} {st : St} {K : St → Prop}
end
end Go.AB
namespace Go.AB
open Go Go.RowKit
open Go.AB.Enc (cells)
open Go.PB (bv ai PlaceD cy c6 cz)
/-! ### Lines, stretch by stretch -/
def lnN (s : StretchD) : Nat := (s.tt - s.fr).toNat
def dp (s : StretchD) : List L2 := (List.range (lnN s)).map fun (i : Nat) => (s.ch, s.fr + (i : Int))
def dh (s : StretchD) : List L2 := (List.range (lnN s)).map fun (i : Nat) => (s.au, s.fi + (i : Int))
def upS (f : StretchD → List L2) (ss : List StretchD) (k i : Nat) : List L2 := (ss.take k).flatMap f ++ (match ss[k]? with | some s => (f s).take i | none => [])
def twB (l1 l2 : List L2) : Bool := !(decide l1.Nodup && decide l2.Nodup)
def jf (l : List L2) : Int × Int → Option C := fun p => if p ∈ l then some (.v (.int .i64 (l.count p : Int))) else none
theorem ukj : jf [] = fun _ => none := by funext p; simp [jf]
theorem g7 (l : List L2) (p : Int × Int) : (jf l p).getD (iw (.int .i64 0)) = .v (.int .i64 (l.count p : Int)) := by
 unfold jf
 by_cases h : p ∈ l
 ·rw [if_pos h]; rfl
 ·rw [if_neg h, List.count_eq_zero_of_not_mem h]; rfl
theorem qf (l : List L2) (p : Int × Int) (c0 : C) : f7 (f7 (jf l) p c0) p (.v (.int .i64 ((l.count p : Int) + 1))) = jf (l ++ [p]) := by
 funext q
 unfold f7
 by_cases h : q = p
 ·subst h
  simp [jf, List.count_append]
 ·rw [if_neg h, if_neg h]
  unfold jf
  have h2 : (l ++ [p]).count q = l.count q := by
   rw [List.count_append, List.count_eq_zero_of_not_mem (show q ∉ [p] by simpa using h)]; rfl
  rw [h2]
  by_cases h1 : q ∈ l
  ·rw [if_pos h1, if_pos (by simp [h1])]
  ·rw [if_neg h1, if_neg (by simp [h1, h])]
theorem ud6 (l1 l2 : List L2) (p q : L2) : twB (l1 ++ [p]) (l2 ++ [q]) = (twB l1 l2 || (decide (1 < (((l1 ++ [p]).count p : Nat) : Int)) || decide (1 < (((l2 ++ [q]).count q : Nat) : Int)))) := by
 have key : ∀ (l : List L2) (x : L2), decide (l ++ [x]).Nodup = (decide l.Nodup && !decide (1 < (((l ++ [x]).count x : Nat) : Int))) := fun l x => by
  have e1 : (l ++ [x]).count x = l.count x + 1 := by simp [List.count_append]
  rw [e1]
  have e2 : (1 < ((l.count x + 1 : Nat) : Int)) ↔ x ∈ l := by
   rw [← List.count_pos_iff]; omega
  have e3 : decide (1 < ((l.count x + 1 : Nat) : Int)) = decide (x ∈ l) := decide_eq_decide.2 e2
  rw [e3, Bool.eq_iff_iff]
  simp only [decide_eq_true_eq, Bool.and_eq_true, Bool.not_eq_true', decide_eq_false_iff_not]
  constructor
  ·intro h
   obtain ⟨h1, _, h3⟩ := List.nodup_append.1 h
   exact ⟨h1, fun hx => h3 x hx x (by simp) rfl⟩
  ·rintro ⟨h1, h2⟩
   exact vd h1 h2
 unfold twB
 rw [key, key]
 cases decide l1.Nodup <;> cases decide l2.Nodup <;> cases decide (1 < (((l1 ++ [p]).count p : Nat) : Int)) <;> cases decide (1 < (((l2 ++ [q]).count q : Nat) : Int)) <;> rfl
theorem yd {f : StretchD → List L2} {ss : List StretchD} {k i : Nat} {s : StretchD} {x : L2} (hs : ss[k]? = some s) (hi : (f s)[i]? = some x) : upS f ss k (i + 1) = upS f ss k i ++ [x] := by
 unfold upS
 rw [hs]
 dsimp only
 rw [← yj hi, List.append_assoc]
theorem sa {f : StretchD → List L2} {ss : List StretchD} {k n : Nat} {s : StretchD} (hs : ss[k]? = some s) (hn : (f s).length ≤ n) : upS f ss k n = upS f ss (k + 1) 0 := by
 unfold upS
 rw [hs, ← yj hs, List.flatMap_append]
 dsimp only
 rw [List.take_of_length_le hn]
 cases ss[k + 1]? <;> simp
theorem yf (f : StretchD → List L2) (ss : List StretchD) : upS f ss ss.length 0 = ss.flatMap f := by
 unfold upS
 rw [List.take_of_length_le (Nat.le_refl _), List.getElem?_eq_none (Nat.le_refl _)]
 simp
theorem r9 (f : StretchD → List L2) (ss : List StretchD) : upS f ss 0 0 = [] := by
 unfold upS
 cases ss[0]? <;> simp
theorem ye {f : StretchD → List L2} {ss : List StretchD} (hf : ∀ s ∈ ss, (f s).length ≤ 10) (k i : Nat) : (upS f ss k i).length ≤ 10 * k + 10 := by
 unfold upS
 rw [List.length_append]
 have h1 : ((ss.take k).flatMap f).length ≤ 10 * k := by
  have : ∀ l : List StretchD, (∀ s ∈ l, (f s).length ≤ 10) → (l.flatMap f).length ≤ 10 * l.length := fun l => by
   induction l with
   | nil => intro _; simp
   | cons a l ih =>
    intro h
    have h2 := h a (List.mem_cons_self ..)
    have h3 := ih fun s hs => h s (List.mem_cons_of_mem _ hs)
    simp only [List.flatMap_cons, List.length_append, List.length_cons]
    omega
  have h4 := this (ss.take k) fun s hs => hf s (List.mem_of_mem_take hs)
  have h5 := List.length_take_le k ss
  omega
 have h2 : (match ss[k]? with | some s => (f s).take i | none => []).length ≤ 10 := by
  cases h : ss[k]? with
  | none => simp
  | some s =>
   have := hf s (gr h)
   simp only [List.length_take]
   omega
 omega
theorem uma {s : StretchD} {i : Nat} (h : i < lnN s) : (dp s)[i]? = some (s.ch, s.fr + (i : Int)) := by
 unfold dp
 rw [List.getElem?_map, List.getElem?_range h]; rfl
theorem umc {s : StretchD} {i : Nat} (h : i < lnN s) : (dh s)[i]? = some (s.au, s.fi + (i : Int)) := by
 unfold dh
 rw [List.getElem?_map, List.getElem?_range h]; rfl
theorem atsS_mem {s : StretchD} {p : L2} : p ∈ dp s ↔ p.1 = s.ch ∧ s.fr ≤ p.2 ∧ p.2 < s.tt := by
 unfold dp lnN
 simp only [List.mem_map, List.mem_range]
 constructor
 ·rintro ⟨i, hi, rfl⟩
  exact ⟨rfl, by dsimp only; omega, by dsimp only; omega⟩
 ·rintro ⟨h1, h2, h3⟩
  exact ⟨(p.2 - s.fr).toNat, by omega, Prod.ext h1.symm (by dsimp only; omega)⟩
theorem assS_mem {s : StretchD} {p : L2} : p ∈ dh s ↔ p.1 = s.au ∧ s.fi ≤ p.2 ∧ p.2 < s.fi + (s.tt - s.fr) := by
 unfold dh lnN
 simp only [List.mem_map, List.mem_range]
 constructor
 ·rintro ⟨i, hi, rfl⟩
  exact ⟨rfl, by dsimp only; omega, by dsimp only; omega⟩
 ·rintro ⟨h1, h2, h3⟩
  exact ⟨(p.2 - s.fi).toNat, by omega, Prod.ext h1.symm (by dsimp only; omega)⟩
theorem ul9 (s : StretchD) : (dp s).Nodup := by
 unfold dp
 refine List.pairwise_map.2 (List.pairwise_lt_range.imp fun {a b} h e => ?_)
 have := congrArg Prod.snd e
 dsimp only at this
 omega
theorem umb (s : StretchD) : (dh s).Nodup := by
 unfold dh
 refine List.pairwise_map.2 (List.pairwise_lt_range.imp fun {a b} h e => ?_)
 have := congrArg Prod.snd e
 dsimp only at this
 omega
theorem xg {a b : StretchD} (ha : SOk a) (hb : SOk b) : i1 a b = false ↔ (∀ x ∈ dp a, ∀ y ∈ dp b, x ≠ y) ∧ (∀ x ∈ dh a, ∀ y ∈ dh b, x ≠ y) := by
 have h1 := ha.lt
 have h2 := hb.lt
 unfold i1 k0
 rw [Bool.or_eq_false_iff]
 constructor
 ·rintro ⟨h3, h4⟩
  refine ⟨fun x hx y hy e => ?_, fun x hx y hy e => ?_⟩
  ·subst e
   obtain ⟨q1, q2, q3⟩ := atsS_mem.1 hx
   obtain ⟨q4, q5, q6⟩ := atsS_mem.1 hy
   have e1 : a.ch = b.ch := q1.symm.trans q4
   simp only [e1, decide_true, Bool.true_and, Bool.and_eq_false_iff, decide_eq_false_iff_not] at h3
   omega
  ·subst e
   obtain ⟨q1, q2, q3⟩ := assS_mem.1 hx
   obtain ⟨q4, q5, q6⟩ := assS_mem.1 hy
   have e1 : a.au = b.au := q1.symm.trans q4
   simp only [e1, decide_true, Bool.true_and, Bool.and_eq_false_iff, decide_eq_false_iff_not] at h4
   omega
 ·rintro ⟨h3, h4⟩
  constructor
  ·cases h : decide (a.ch = b.ch) && (decide (a.fr < b.fr + (b.tt - b.fr)) && decide (b.fr < a.fr + (a.tt - a.fr))) with
   | false => rfl
   | true =>
    simp only [Bool.and_eq_true, decide_eq_true_eq] at h
    obtain ⟨e1, e2, e3⟩ := h
    exact absurd rfl (h3 (a.ch, max a.fr b.fr) (atsS_mem.2 ⟨rfl, by dsimp only; omega, by dsimp only; omega⟩) (a.ch, max a.fr b.fr) (atsS_mem.2 ⟨e1, by dsimp only; omega, by dsimp only; omega⟩))
  ·cases h : decide (a.au = b.au) && (decide (a.fi < b.fi + (b.tt - b.fr)) && decide (b.fi < a.fi + (a.tt - a.fr))) with
   | false => rfl
   | true =>
    simp only [Bool.and_eq_true, decide_eq_true_eq] at h
    obtain ⟨e1, e2, e3⟩ := h
    exact absurd rfl (h4 (a.au, max a.fi b.fi) (assS_mem.2 ⟨rfl, by dsimp only; omega, by dsimp only; omega⟩) (a.au, max a.fi b.fi) (assS_mem.2 ⟨e1, by dsimp only; omega, by dsimp only; omega⟩))
section
variable {ss : List StretchD}
theorem yh (hok : ∀ s ∈ ss, SOk s) : twB (ss.flatMap dp) (ss.flatMap dh) = false ↔ ss.Pairwise fun a b => i1 a b = false := by
 unfold twB
 rw [Bool.not_eq_false', Bool.and_eq_true, decide_eq_true_eq, decide_eq_true_eq]
 unfold List.Nodup
 rw [List.pairwise_flatMap, List.pairwise_flatMap]
 constructor
 ·rintro ⟨⟨_, h1⟩, ⟨_, h2⟩⟩
  refine (h1.and h2).imp_of_mem fun {a b} ha hb h => ?_
  exact (xg (hok a ha) (hok b hb)).2 h
 ·intro h
  refine ⟨⟨fun s _ => ul9 s, h.imp_of_mem fun {a b} ha hb h => ((xg (hok a ha) (hok b hb)).1 h).1⟩, ⟨fun s _ => umb s, h.imp_of_mem fun {a b} ha hb h => ((xg (hok a ha) (hok b hb)).1 h).2⟩⟩
theorem pair_clash : (ss.Pairwise fun a b => i1 a b = false) ↔ ∀ a b, ¬ jh ss a b := by
 rw [List.pairwise_iff_getElem]
 constructor
 ·rintro h a b ⟨h1, x, y, hx, hy, hc⟩
  obtain ⟨q1, q2⟩ := List.getElem?_eq_some_iff.1 hx
  obtain ⟨q3, q4⟩ := List.getElem?_eq_some_iff.1 hy
  have := h a b q1 q3 h1
  rw [q2, q4, hc] at this
  cases this
 ·intro h i j hi hj hij
  cases hc : i1 ss[i] ss[j] with
  | false => rfl
  | true => exact absurd ⟨hij, _, _, List.getElem?_eq_getElem hi, List.getElem?_eq_getElem hj, hc⟩ (h i j)
theorem wx {p : Nat × Nat} (h : ef ss = some p) : lf ss (some p) := by
 unfold ef at h
 split at h
 ·rename_i hex
  rw [← h]; exact hex.choose_spec
 ·cases h
theorem ud7 (hok : ∀ s ∈ ss, SOk s) : twB (ss.flatMap dp) (ss.flatMap dh) = (ef ss).isSome := by
 cases h : ef ss with
 | none => exact (yh hok).2 (pair_clash.2 (wy h))
 | some p =>
  cases h2 : twB (ss.flatMap dp) (ss.flatMap dh) with
  | true => rfl
  | false => exact absurd (wx h).1 (pair_clash.1 ((yh hok).1 h2) _ _)
theorem uja {x y : StretchD} (h : i1 x y = true) : ef [x, y] = some (0, 1) := by
 refine rm (o := some (0, 1)) ⟨⟨by decide, x, y, rfl, rfl, h⟩, fun c d h => ?_⟩
 have := h.1
 dsimp only
 omega
theorem ujd (x : StretchD) : ef [x] = none := rm (o := none) (by
 rintro a b ⟨h1, _, y, _, hy, _⟩
 have := (List.getElem?_eq_some_iff.1 hy).1
 simp at this
 omega)
theorem ujb {a b : Nat} (h : ef ss = some (a, b)) : ef (ss.take a) = none := rm (o := none) (by
 rintro c d ⟨h1, x, y, hx, hy, hc⟩
 rw [List.getElem?_take] at hx hy
 split at hx
 ·split at hy
  ·have := (wx h).2 c d ⟨h1, x, y, hx, hy, hc⟩
   dsimp only at this
   omega
  ·cases hy
 ·cases hx)
theorem xi {t : ai} {e : av} (h : cw t e = 0) {l : List StretchD} (hl : l.length ≤ 12) (hs : ∀ s ∈ l, s ∈ e.ss) : cw t ⟨e.id, l⟩ = 0 := by
 obtain ⟨h1, h2⟩ := tz h
 unfold i5 at h2
 simp only [Bool.and_eq_true, List.all_eq_true, decide_eq_true_eq] at h2
 have : i5 t ⟨e.id, l⟩ = true := by
  unfold i5
  simp only [Bool.and_eq_true, List.all_eq_true, decide_eq_true_eq]
  exact ⟨h2.1, hl, fun s hs' => h2.2.2 s (hs s hs')⟩
 unfold cw
 rw [h1, this]; rfl
end
section
variable {P : Program} {o : Oper} {st : St} {K : St → Prop}
theorem ub5 {t k e : TypeId} [MapT P t k e] (ho : o.op = .makeMap t none) (h : K (St.put { st with G := ak st.G st.nx (kn P k (α := Int × Int) 0 0 (jf [])), nx := st.nx + 1 } o.dst (.map st.nx))) : EStep P o st K :=
 uj0 (α := Int × Int) ho (by rw [← ukj]; exact h)
/-- A lookup, whatever is known of the entries' order. -/
theorem kf {α : Type} [KeyV α] {D : Nat → Prop} {t k e : TypeId} [MapT P t k e] [KeyT P k α] {x i : Operand} {n wv : Nat} {ok : List MapEntry → Nat → Prop} {m : α → Option C} {c : C} {z : Value} [Zero P e z] (key : α) (ho : o.op = .lookup t x i false) (hx : evC st x = .map n) (hG : st.G n = some (.map wv ok (i3 m))) (hk0 : ∀ es cl, ok es cl → okK P k α es cl) (hD : D n) (hi : evC st i = KeyV.kc key) (hc : (m key).getD (iw z) = c) : SStep P D o st c := fun E w a hs => by
 subst hc
 obtain ⟨v, h1, h2⟩ := vq (P := P) (t := t) (e := e) (z := z) hx hG hk0 hD hi E w a hs
 refine ⟨v, h1, fun w' hk => ?_⟩
 simp only [execOp, ho, Sem.run_bind, (h2 w' hk).2, Result.andThen_ok]
 rfl
end
theorem tu {P : Program} {k : TypeId} {wv N m : Nat} {l : List L2} : (kn P k wv N (jf l)).low m := fun v c hv => by
 by_cases hex : ∃ y : Int × Int, v = KeyV.kv y
 ·obtain ⟨y, rfl⟩ := hex
  rw [g4] at hv
  unfold jf at hv
  split at hv
  ·cases hv; exact .v
  ·cases hv
 ·rw [ou _ hex] at hv; cases hv
end Go.AB
