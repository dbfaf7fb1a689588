/-
  What the walks through the program rest on: values, states, steps, calls (AbRange, AbIter, AbYield, AbGive, AbMix, AbNamed, AbConv, AbWords, AbDrawn, AbDrawnB, Ty, AdData, ItData, AbTypes, ItAll, CdData, CfFuncs, AcOne, AcEq, AcTwo, AcThree, AcFour, AcFive, CrOne, CePlain, CsRows, CtPlain, CuFuncs, CkKeys, LcCheck, CvOpen, CwLines, CxTells, DaPlain, EaPlain, EbRef, CyPlain, EcRefer, EdLead, AbSort, EgComp, FaNear, FbWords, AbFull, Lay, EhOrd, FcNear, FdNear, KzWords, GsNumber, KwWords, LaRef, PaFlow, PbData, PcWorst, PdPlain, PeSets, PfPlain, PgSides, PhApart, PiWhy, PjWhy).
-/
import Derived.Test.YtgffhbbcpgdjjaaDoorPartA
import Derived.Laws.IdiomRangeMap
import Derived.RangeFuncWrites
import Derived.Laws.IdiomStrings
import Derived.WalkKit
import Derived.Test.YtgffhbbcpgdjjaaDoorProg
import Derived.Tactics
import Derived.Laws.StructEq
import Derived.Maps.Own
import Derived.WalkMore
import Derived.Shelf.SlSortCmp.NoneTotal
import Derived.Laws.Cover3
import Derived.ChangeKeysEq
import Derived.Lib.Hide
namespace Go.AB
open Go Go.RowKit
open Go.Maps (Keyed)
variable {ρ : Option Nat}

theorem uf0 {P : Program} (w : World) (ty : TypeId) (b bm since c0 : Nat) (seen : Array Nat) (es : Array MapEntry) (clock : Nat) (hi : w.heap[b]? = some (.mapIter (some bm) since seen c0)) (hb : w.heap[bm]? = some (.map es clock)) (hold : ∀ x ∈ es.toList, x.born < since) (hsc : since ≤ c0) :
  ((leftOf es seen).size = 0 ∧ (Instr.next (.pointer (some ⟨b, 0, none⟩)) false ty).run P w = .ok (.tuple #[.bool false]) w) ∨
  ∃ e ∈ (leftOf es seen).toList, ∃ w1 : World, (w1 = w ∨ w1 = w.drew) ∧ (Instr.next (.pointer (some ⟨b, 0, none⟩)) false ty).run P w = .ok (.tuple #[.bool true, e.key, e.val]) (w1.putObj b (.mapIter (some bm) since (seen.push e.born) clock)) := by
 simp only [Instr.next, getObj, Sem.run_bind, Sem.run, hi, hb, Result.andThen, next_test_false seen es since c0 hold hsc, Bool.false_eq_true, if_false]
 unfold leftOf
 have hmem : ∀ x ∈ (Array.filter (fun e => !seen.contains e.born) es).toList, x.born < since := fun x hx => hold x (by simp at hx ⊢; exact hx.1)
 generalize Array.filter (fun e => !seen.contains e.born) es = L at hmem ⊢
 have e1 : L.filter (fun x => decide (x.born < since)) = L := Array.filter_eq_self.2 (fun x hx => by simpa using hmem x (by simpa using hx))
 have e2 : L.filter (fun x => decide (x.born ≥ since)) = #[] := by
  rw [Array.filter_eq_empty_iff]
  intro x hx
  have := hmem x (by simpa using hx)
  simp
  omega
 simp only [e1, e2, Array.append_empty]
 by_cases h0 : L.size = 0
 ·left
  have : L = #[] := Array.eq_empty_of_size_eq_zero h0
  subst this
  refine ⟨rfl, ?_⟩
  simp [choose, Sem.run, Question.forced]
 ·right
  have hne : L.isEmpty = false := by simp [Array.isEmpty, h0]
  simp only [hne, Bool.false_eq_true, if_false, Array.empty_append, Array.size_map]
  have hch : ∃ (j : Nat) (w1 : World), j < L.size ∧ (w1 = w ∨ w1 = w.drew) ∧ (choose (Question.mapNext L.size)).run P w = .ok j w1 := by
   by_cases hf : L.size ≤ 1
   ·exact ⟨0, w, by omega, .inl rfl, by simp [choose, Sem.run, Question.forced, hf]⟩
   ·exact ⟨_, w.drew, Nat.mod_lt _ (by omega), .inr rfl, by
     simp only [choose, Sem.run, Question.forced, decide_eq_true_eq, hf, if_false, Question.cut]
     rfl⟩
  obtain ⟨j, w1, hj, hal, hrun⟩ := hch
  refine ⟨L[j], by simp, w1, hal, ?_⟩
  have hi1 : w1.heap[b]? = some (.mapIter (some bm) since seen c0) := by rcases hal with rfl | rfl <;> exact hi
  have hset : ∀ (o' : Obj), (setObj b o').run P w1 = .ok () (w1.putObj b o') := fun o' => by
   simp only [setObj, Sem.run, hi1]
   rfl
  simp only [hrun, Array.getElem?_map, Array.getElem?_eq_getElem hj, Option.map_some, Sem.run_bind, hset, Result.andThen]
  rfl

/-- A map over which a range runs: what was there when it began; the stamps of its keys. -/
def okB (P : Program) (k : TypeId) (α : Type) [KeyV α] (β : Value → Nat) (cl : Nat) : List MapEntry → Nat → Prop := fun es clock => okK P k α es clock ∧ clock = cl ∧ ∀ e ∈ es, e.born = β e.key
noncomputable def mq (P : Program) (k : TypeId) {α : Type} [KeyV α] (wv : Nat) (m : α → Option C) (β : Value → Nat) (cl : Nat) : GObj := .map wv (okB P k α β cl) (jr m)
/-- The stamps of what has come. -/
def g8 {α : Type} [KeyV α] (β : Value → Nat) (done : List α) : Array Nat := (done.map fun x => β (KeyV.kv x)).toArray

section
variable {P : Program} {o : Oper} {st : St} {K : St → Prop} {α : Type} [KeyV α]
/-- A new object that is no cells. -/
theorem ugp {E : Env} {w : World} {G : Nat → Option GObj} {nx : Nat} (hg : SimG E w G nx) (ob : Obj) (hob : ob.isCells = false) :
  ∃ E', Ev E w E' (w.alloc ob) ∧ SimG E' (w.alloc ob) (aj G nx (.raw 0 ob)) (nx + 1) ∧ R E' (w.alloc ob) (.box nx 0 0) (.pointer (some ⟨w.heap.size, 0, none⟩)) ∧ ∀ n, n < nx → E'.T n = E.T n := by
 have hnx := hg.nx
 have hold : ∀ b, b < w.heap.size → (w.alloc ob).heap[b]? = w.heap[b]? := fun b hb => Below.heap_alloc w _ b hb
 have hnew : (w.alloc ob).heap[w.heap.size]? = some ob := heap_alloc_new w _
 have hTo : ∀ n t, (E.name (.pointer (some ⟨w.heap.size, 0, none⟩))).T n = some t → (n = E.nx ∧ t = (0, 0, .pointer (some ⟨w.heap.size, 0, none⟩))) ∨ E.T n = some t := fun n t ht => by
  simp only [Env.name] at ht
  split at ht
  ·rename_i e; exact .inl ⟨e, by simpa using ht.symm⟩
  ·exact .inr ht
 have hev : Ev E w (E.name (.pointer (some ⟨w.heap.size, 0, none⟩))) (w.alloc ob) := by
  refine ⟨(Below.refl _ _).alloc hg.base _, rfl, fun _ => Nat.le_refl _, fun b i hi => ?_, Nat.le_succ _, fun n hn ver wv val ht => ?_, fun n ver wv wv' val h1 h2 hn => ?_, ?_⟩
  ·have hb : b < w.heap.size := Nat.lt_of_not_le fun hle => by have := hg.fresh b hle; omega
   exact World.cell?_of_block (w := w) (hold b hb)
  ·rcases hTo n _ ht with ⟨e, _⟩ | ht
   ·omega
   ·exact ⟨ver, wv, val, ht, Nat.le_refl _, fun _ => ⟨rfl, fun _ b hb => hold b (hg.tb n ver wv val b ht hb).2⟩⟩
  ·rcases hTo n _ h2 with ⟨e, _⟩ | h2
   ·omega
   ·rw [h1] at h2; simp at h2; omega
  ·refine ⟨rfl, fun b hb => absurd hb (Nat.lt_irrefl _), fun b o ho _ => (hold b (Array.getElem?_eq_some_iff.1 ho).1).trans ho, fun b o ho => ⟨o, (hold b (Array.getElem?_eq_some_iff.1 ho).1).trans ho, rfl⟩, fun n t' b o ht hb ho => ?_, fun n t t' b hn h1 h2 hv _ => ?_⟩
   ·rcases hTo n _ ht with ⟨_, rfl⟩ | ht
    ·simp only [blk, Option.some.injEq] at hb
     subst hb
     have := (Array.getElem?_eq_some_iff.1 ho).1
     omega
    ·exact ⟨t', ht, hb⟩
   ·rcases hTo n _ h2 with ⟨e, _⟩ | h2
    ·omega
    ·rw [h1] at h2; cases h2; omega
 refine ⟨_, hev, ⟨by simp [Env.name, hnx], fun n o ho => ?_, fun n t ht => ?_, fun n ver wv val b ht hb => ?_, fun n m t t' b h1 h2 hne hb => ?_, fun b hb => ?_, ?_⟩, ?_, fun n hn => ?_⟩
 ·simp only [aj] at ho
  split at ho
  ·rename_i en
   subst en
   simp only [Option.some.injEq] at ho
   subst ho
   exact ⟨w.heap.size, by simp [Env.name, hnx], hnew, hob⟩
  ·rename_i en
   refine (hg.obj n o ho).keep hev (by simp only [Env.name]; rw [if_neg (by omega)]) fun ver wv val b h1 h2 => ⟨hold b (hg.tb n ver wv val b h1 h2).2, rfl⟩
 ·rcases hTo n _ ht with ⟨e, _⟩ | ht
  ·simp [Env.name]; omega
  ·have := hg.lt n t ht
   simp [Env.name]; omega
 ·rcases hTo n _ ht with ⟨_, e⟩ | ht
  ·simp only [Prod.mk.injEq] at e
   obtain ⟨rfl, rfl, rfl⟩ := e
   simp only [blk, Option.some.injEq] at hb
   subst hb
   exact ⟨hg.base, by simp⟩
  ·have := hg.tb n ver wv val b ht hb
   exact ⟨this.1, by simp; omega⟩
 ·rcases hTo n _ h1 with ⟨e, rfl⟩ | h1 <;> rcases hTo m _ h2 with ⟨e', rfl⟩ | h2
  ·omega
  ·intro hb'
   simp only [blk, Option.some.injEq] at hb
   subst hb
   have := hg.tb m _ _ _ w.heap.size h2 hb'
   omega
  ·intro hb'
   simp only [blk, Option.some.injEq] at hb'
   subst hb'
   have := hg.tb n _ _ _ w.heap.size h1 hb
   omega
  ·exact hg.ap n m t t' b h1 h2 hne hb
 ·exact hg.fresh b (by simp at hb; omega)
 ·have := hg.base
  simp [Env.name]; omega
 ·refine .box (by simp [Env.name]; omega) fun ver wv val ht => ⟨Nat.zero_le _, fun _ => ?_⟩
  simp only [Env.name] at ht
  rw [if_pos hnx.symm] at ht
  simp only [Option.some.injEq, Prod.mk.injEq] at ht
  rw [← ht.2.2]; rfl
 ·simp only [Env.name]
  rw [if_neg (by omega)]

/-- A fact among the named objects. -/
theorem ub2 {E : Env} {w : World} {G : Nat → Option GObj} {nx : Nat} (hg : SimG E w G nx) {v : Value} {c : C} (hr : R E w c v) :
  ∃ E', Ev E w E' w ∧ SimG E' w (aj G nx (.fact v c)) (nx + 1) := by
 refine ⟨_, Ev.name hg undef (fun b o hb => by cases hb), hg.name undef _ (fun b hb => by cases hb) ⟨by simp [Env.name, hg.nx], hr.ev (Ev.name hg undef (fun b o hb => by cases hb))⟩⟩

/-- The stamps of a map's keys. -/
theorem s5 {E : Env} {w : World} {k : TypeId} {m : α → Option C} {es : List MapEntry} {clock : Nat} (h : MapOk E w (okK P k α) (jr m) es clock) (hall : ∀ e ∈ es, e.born < clock) :
  ∃ (β : Value → Nat) (ks : List α), MapOk E w (okB P k α β clock) (jr m) es clock ∧ ks.Nodup ∧ (∀ x, m x ≠ none ↔ x ∈ ks) ∧ (∀ x ∈ ks, ∀ y ∈ ks, β (KeyV.kv x) = β (KeyV.kv y) → x = y) := by
 classical
 have hkey : ∀ e ∈ es, ∃ x : α, e.key = KeyV.kv x := fun e he => let ⟨x, _, hx, _⟩ := h.ok e he; ⟨x, hx⟩
 let β : Value → Nat := fun v => if hv : ∃ e ∈ es, e.key = v then hv.choose.born else 0
 have hβ : ∀ e ∈ es, e.born = β e.key := fun e he => by
  have hv : ∃ e' ∈ es, e'.key = e.key := ⟨e, he, rfl⟩
  show e.born = if hv : ∃ e' ∈ es, e'.key = e.key then hv.choose.born else 0
  rw [dif_pos hv]
  have h1 := hv.choose_spec
  have : hv.choose = e := Go.entry_eq_of_key h.pw h1.1 he h1.2
  rw [this]
 let f : MapEntry → Option α := fun e => if hx : ∃ x : α, e.key = KeyV.kv x then some hx.choose else none
 have hf : ∀ e ∈ es, ∀ x : α, e.key = KeyV.kv x → f e = some x := fun e he x hx => by
  have h1 : ∃ x : α, e.key = KeyV.kv x := ⟨x, hx⟩
  show (if hx : ∃ x : α, e.key = KeyV.kv x then some hx.choose else none) = some x
  rw [dif_pos h1]
  congr 1
  exact KeyV.inj (h1.choose_spec.symm.trans hx)
 have hmem : ∀ x, x ∈ es.filterMap f ↔ ∃ e ∈ es, e.key = KeyV.kv x := fun x => by
  rw [List.mem_filterMap]
  constructor
  ·rintro ⟨e, he, hx⟩
   obtain ⟨y, hy⟩ := hkey e he
   rw [hf e he y hy] at hx
   cases hx
   exact ⟨e, he, hy⟩
  ·rintro ⟨e, he, hx⟩
   exact ⟨e, he, hf e he x hx⟩
 refine ⟨β, es.filterMap f, ⟨⟨h.ok, rfl, hβ⟩, h.pw, h.pb, h.val, h.has⟩, ?_, fun x => ?_, fun x hx y hy e => ?_⟩
 ·have : ∀ l : List MapEntry, (∀ e ∈ l, e ∈ es) → l.Pairwise (fun a b => a.key ≠ b.key) → (l.filterMap f).Nodup := by
   intro l
   induction l with
   | nil => intro _ _; exact List.nodup_nil
   | cons a l ih =>
    intro hs hp
    obtain ⟨x, hx⟩ := hkey a (hs a (List.mem_cons_self ..))
    rw [List.filterMap_cons_some (hf a (hs a (List.mem_cons_self ..)) x hx), List.nodup_cons]
    rw [List.pairwise_cons] at hp
    refine ⟨fun hm => ?_, ih (fun e he => hs e (List.mem_cons_of_mem _ he)) hp.2⟩
    rw [List.mem_filterMap] at hm
    obtain ⟨e, he, h1⟩ := hm
    obtain ⟨y, hy⟩ := hkey e (hs e (List.mem_cons_of_mem _ he))
    rw [hf e (hs e (List.mem_cons_of_mem _ he)) y hy] at h1
    cases h1
    exact hp.1 e he (hx.trans hy.symm)
  exact this es (fun _ h => h) h.pw
 ·rw [hmem]
  constructor
  ·intro hx
   obtain ⟨c, hc⟩ := Option.ne_none_iff_exists'.1 hx
   exact h.has (KeyV.kv x) c (by rw [g9, hc])
  ·rintro ⟨e, he, hx⟩
   obtain ⟨c, hc, _⟩ := h.val e he
   rw [hx, g9] at hc
   rw [hc]; simp
 ·obtain ⟨e1, h1, k1⟩ := (hmem x).1 hx
  obtain ⟨e2, h2, k2⟩ := (hmem y).1 hy
  have q : e1.born = e2.born := by rw [hβ e1 h1, hβ e2 h2, k1, k2, e]
  have : e1 = e2 := by
   obtain ⟨i, hi⟩ := List.getElem?_of_mem h1
   obtain ⟨j, hj⟩ := List.getElem?_of_mem h2
   rcases Nat.lt_trichotomy i j with hij | hij | hij
   ·exact absurd q (List.pairwise_iff_getElem.1 h.pb i j (List.getElem?_eq_some_iff.1 hi).1 (List.getElem?_eq_some_iff.1 hj).1 hij |> fun hh => by
     rw [(List.getElem?_eq_some_iff.1 hi).2, (List.getElem?_eq_some_iff.1 hj).2] at hh; exact hh)
   ·subst hij; rw [hi] at hj; cases hj; rfl
   ·exact absurd q.symm (List.pairwise_iff_getElem.1 h.pb j i (List.getElem?_eq_some_iff.1 hj).1 (List.getElem?_eq_some_iff.1 hi).1 hij |> fun hh => by
     rw [(List.getElem?_eq_some_iff.1 hi).2, (List.getElem?_eq_some_iff.1 hj).2] at hh; exact hh)
  subst this
  exact KeyV.inj (k1.symm.trans k2)

/-- A map is known better. -/
theorem SimG.remap {E : Env} {w : World} {G : Nat → Option GObj} {nx : Nat} (hg : SimG E w G nx) {n wv : Nat} {ok ok' : List MapEntry → Nat → Prop} {f : Value → Option C} (hG : G n = some (.map wv ok f))
  (h : ∀ es clock, MapOk E w ok f es clock → (∀ r, E.T n = some (0, wv, .map (some r)) → ∀ es', w.heap[r]? = some (.map es' clock) → es'.toList = es → es'.all (·.born < clock) = true → MapOk E w ok' f es clock)) : SimG E w (aj G n (.map wv ok' f)) nx := by
 refine ⟨hg.nx, fun k ob hk => ?_, hg.lt, hg.tb, hg.ap, hg.fresh, hg.base⟩
 simp only [aj] at hk
 split at hk
 ·rename_i e
  subst e
  cases hk
  obtain ⟨r, es, clock, h1, h2, h3, h4⟩ := hg.obj k _ hG
  exact ⟨r, es, clock, h1, h2, h _ _ h3 r h1 es h2 rfl h4, h4⟩
 ·exact hg.obj k ob hk

/-- A range over a map begins. -/
theorem uci {t k e : TypeId} [MapT P t k e] {x : Operand} {n wv : Nat} {m : α → Option C} (ho : o.op = .range t x) (hx : evC st x = .map n) (hG : st.G n = some (gp P k wv m))
  (h : ∀ (r : Nat) (β : Value → Nat) (cl : Nat) (ks : List α), ks.Nodup → (∀ x, m x ≠ none ↔ x ∈ ks) → (∀ x ∈ ks, ∀ y ∈ ks, β (KeyV.kv x) = β (KeyV.kv y) → x = y) →
   K (St.put { st with G := aj (aj (aj st.G n (mq P k wv m β cl)) st.nx (.raw 0 (.mapIter (some r) cl (g8 β ([] : List α)) cl))) (st.nx + 1) (.fact (.map (some r)) (.map n)), nx := st.nx + 1 + 1 } o.dst (.box st.nx 0 0))) : EStep P o st K := ji fun E w a hs => by
 obtain ⟨r, es, clock, hT, hh, hok, hcl⟩ := hs.g.obj n _ hG
 have e1 := pv (hx ▸ hs.ev x) hT
 have ht := MapT.spec (P := P) (t := t) (k := k) (e := e)
 have hcl' : ∀ e ∈ es.toList, e.born < clock := fun e he => by simpa using Array.all_eq_true_iff_forall_mem.1 hcl e (by simpa using he)
 obtain ⟨β, ks, hB, q1, q2, q3⟩ := s5 hok hcl'
 have hg1 : SimG E w (aj st.G n (mq P k wv m β clock)) st.nx := by
  refine hs.g.remap hG fun es' clock' h3 r' h1 es2 h2 h5 _ => ?_
  rw [hT] at h1
  simp only [Option.some.injEq, Prod.mk.injEq, Value.map.injEq, true_and] at h1
  subst h1
  rw [hh] at h2
  cases h2
  subst h5
  exact hB
 obtain ⟨E1, v1, g1, r1, t1⟩ := ugp hg1 (.mapIter (some r) clock #[] clock) rfl
 have hlt : n < st.nx := by have := hs.g.lt n _ hT; have := hs.g.nx; omega
 have hT1 : E1.T n = some (0, wv, .map (some r)) := (t1 n hlt).trans hT
 have hmr : R E1 (w.alloc (.mapIter (some r) clock #[] clock)) (.map n) (.map (some r)) := .map (by have := g1.nx; omega) fun ver wv' val hv _ => by
  rw [hT1] at hv; cases hv; rfl
 obtain ⟨E2, v2, g2⟩ := ub2 g1 hmr
 refine ⟨.pointer (some ⟨w.heap.size, 0, none⟩), w.alloc (.mapIter (some r) clock #[] clock), E2, _, _, .box st.nx 0 0, ?_, v1.trans v2, r1.ev v2, g2, h r β clock ks q1 q2 q3⟩
 simp [execOp, ho, e1, run_range_map w t k e r es clock ht hh]

theorem seenOf_contains {β : Value → Nat} {done : List α} {b : Nat} : (g8 β done).contains b = true ↔ ∃ x ∈ done, β (KeyV.kv x) = b := by
 simp [g8]

/-- The range goes on, or ends. -/
theorem ucj {k : TypeId} {x : Operand} {i fx n wv wn r cl : Nat} {β : Value → Nat} {m : α → Option C} {ks done : List α} (ho : o.op = .next x false) (hx : evC st x = .box i 0 0) (hI : st.G i = some (.raw wv (.mapIter (some r) cl (g8 β done) cl))) (hF : st.G fx = some (.fact (.map (some r)) (.map n))) (hG : st.G n = some (mq P k wn m β cl))
  (hks : ∀ x, m x ≠ none ↔ x ∈ ks) (hinj : ∀ x ∈ ks, ∀ y ∈ ks, β (KeyV.kv x) = β (KeyV.kv y) → x = y) (hd : ∀ y ∈ done, y ∈ ks)
  (hend : (∀ y ∈ ks, y ∈ done) → K (st.put o.dst (.tup [.v (.bool false)])))
  (hmore : ∀ y c, m y = some c → y ∈ ks → y ∉ done → K (St.put { st with G := aj st.G i (.raw (wv + 1) (.mapIter (some r) cl (g8 β (done ++ [y])) cl)) } o.dst (.tup [.v (.bool true), KeyV.kc y, c]))) : EStep P o st K := fun E w a hs Kr Q hq => by
 obtain ⟨r', es, clock, hT, hh, hok, hcl⟩ := hs.g.obj n _ hG
 obtain ⟨b, hTi, hi, _⟩ := hs.g.obj i _ hI
 have hfact := (hs.g.obj fx _ hF).2
 have hr' : r' = r := by
  have := pv hfact hT
  simpa using this.symm
 subst hr'
 obtain ⟨hokK, hclk, hβ⟩ := hok.ok
 subst hclk
 have hcl' : ∀ e ∈ es.toList, e.born < clock := fun e he => by simpa using Array.all_eq_true_iff_forall_mem.1 hcl e (by simpa using he)
 have e1 : a.eval x = .pointer (some ⟨b, 0, none⟩) := by
  have hp := hx ▸ hs.ev x
  generalize hv : a.eval x = v at hp
  cases hp with
  | @box _ _ _ b' h1 h2 =>
   have := (h2 _ _ _ hTi).2 rfl
   simp only [blk, Option.some.injEq] at this
   rw [this]
 have hkey : ∀ e ∈ es.toList, ∃ y : α, e.key = KeyV.kv y ∧ y ∈ ks ∧ ∃ c, m y = some c ∧ R E w c e.val ∧ R E w (KeyV.kc y) e.key := fun e he => by
  obtain ⟨y, _, hy, _, hr⟩ := hokK e he
  obtain ⟨c, hc, hrc⟩ := hok.val e he
  rw [hy, g9] at hc
  exact ⟨y, hy, (hks y).1 (by rw [hc]; simp), c, hc, hrc, hr E w⟩
 rcases uf0 (P := P) w o.type b r' clock clock (g8 β done) es clock hi hh hcl' (Nat.le_refl _) with ⟨hz, hrun⟩ | ⟨en, hen, w1, hw1, hrun⟩
 ·have hall := all_seen es (g8 β done) hz
  have hex : (execOp a.eval o).run P w = .ok (.value (.tuple #[.bool false])) w := by simp [execOp, ho, e1, hrun]
  unfold Oper.wp
  rw [hex]
  refine hq _ _ _ _ (Ev.refl E w) (hs.put o.dst (c := .tup [.v (.bool false)]) (Rs.cons (.v rfl) Rs.nil).tup) (hend fun y hy => ?_)
  obtain ⟨c, hc⟩ := Option.ne_none_iff_exists'.1 ((hks y).2 hy)
  obtain ⟨e, he, hek⟩ := hok.has (KeyV.kv y) c (by rw [g9, hc])
  obtain ⟨z, hz1, hz2⟩ := seenOf_contains.1 (hall e he)
  rw [hβ e he, hek] at hz2
  exact hinj z (hd z hz1) y hy hz2 ▸ hz1
 ·obtain ⟨hm1, hm2⟩ := mem_left hen
  obtain ⟨y, hy, hyk, c, hc, hrc, hrk⟩ := hkey en hm1
  have hnd : y ∉ done := fun hyd => by
   have : (g8 β done).contains en.born = true := seenOf_contains.2 ⟨y, hyd, by rw [hβ en hm1, hy]⟩
   rw [hm2] at this; cases this
  have hseen : (g8 β done).push en.born = g8 β (done ++ [y]) := by simp [g8, hβ en hm1, hy]
  rw [hseen] at hrun
  have hhe : w1.heap = w.heap := by rcases hw1 with rfl | rfl <;> rfl
  have hblt : b < w1.heap.size := by rw [hhe]; exact (Array.getElem?_eq_some_iff.1 hi).1
  obtain ⟨ob, hob⟩ : ∃ ob, ob = (Obj.mapIter (some r') clock (g8 β (done ++ [y])) clock) := ⟨_, rfl⟩
  rw [← hob] at hrun
  have hnew : (w1.putObj b ob).heap[b]? = some ob := World.putObj_heap_same hblt
  have hoth : ∀ k, k ≠ b → (w1.putObj b ob).heap[k]? = w.heap[k]? := fun k hk => by rw [World.putObj_heap_other hk, hhe]
  have htb := hs.g.tb i _ _ _ b hTi rfl
  have hbel1 : Below E.B w w1 := by
   rcases hw1 with rfl | rfl
   ·exact Below.refl _ _
   ·exact (Below.refl _ _).drew
  have hchg : Chg E w (w1.putObj b ob) 0 wv (.pointer (some ⟨b, 0, none⟩)) 0 (wv + 1) (.pointer (some ⟨b, 0, none⟩)) (E.L b) := by
   refine ⟨⟨hbel1.os, hbel1.tape, hbel1.output, by rw [World.putObj_size, hhe]; exact Nat.le_refl _, fun k hk => hoth k (by omega)⟩, fun k _ hk => hoth k (fun e => hk (by simp [blk, e])), fun b' hb' => .inl ⟨hb', ?_⟩, fun b' j hb' hj => ?_, .inr ⟨rfl, rfl, by omega⟩, fun b' o' hb' ho' => ?_, fun hv => absurd hv (Nat.lt_irrefl _), fun b' hb' hl => ?_⟩
   ·simp only [blk, Option.some.injEq] at hb'; subst hb'; exact Nat.le_refl _
   ·simp only [blk, Option.some.injEq] at hb'; subst hb'
    unfold World.cell?
    dsimp only
    rw [hi, hnew, hob]
   ·simp only [blk, Option.some.injEq] at hb'; subst hb'; rw [hi] at ho'; cases ho'; exact ⟨_, hnew, by rw [hob]; rfl⟩
   ·simp only [blk, Option.some.injEq] at hb'; subst hb'; omega
  have hev := Ev.chg hs.g hTi hchg
  have hobj : ObjOk (E.chg i (0, wv + 1, .pointer (some ⟨b, 0, none⟩)) (E.L b)) (w1.putObj b ob) i (.raw (wv + 1) ob) := ⟨b, by simp [Env.chg], hnew, by rw [hob]; rfl⟩
  have hg := SimG.chg hs.g hTi hchg hobj
  have hex : (execOp a.eval o).run P w = .ok (.value (.tuple #[.bool true, en.key, en.val])) (w1.putObj b ob) := by simp [execOp, ho, e1, hrun]
  unfold Oper.wp
  rw [hex]
  subst hob
  refine hq _ _ _ _ hev ((hs.evd hev hg).put o.dst (c := .tup [.v (.bool true), KeyV.kc y, c]) ((Rs.cons (.v rfl) (Rs.cons (hrk.ev hev) (Rs.cons (hrc.ev hev) Rs.nil))).tup)) (hmore y c hc hyk hnd)

/-- The entry that came last. -/
theorem y5 {D : Nat → Prop} {k : TypeId} {x : Operand} {i fx n wv wn r cl : Nat} {β : Value → Nat} {m : α → Option C} {done : List α} {y : α} {c : C} (ho : o.op = .entry x) (hx : evC st x = .box i 0 0) (hI : st.G i = some (.raw wv (.mapIter (some r) cl (g8 β (done ++ [y])) cl))) (hDi : D i) (hF : st.G fx = some (.fact (.map (some r)) (.map n))) (hG : st.G n = some (mq P k wn m β cl)) (hDn : D n)
  (hm : m y = some c) : SStep P D o st (.tup [KeyV.kc y, c]) := fun E w a hs => by
 obtain ⟨r', es, clock, hT, hh, hok, hcl⟩ := hs.g.obj n _ hG
 obtain ⟨b, hTi, hi, _⟩ := hs.g.obj i _ hI
 have hfact := (hs.g.obj fx _ hF).2
 have hr' : r' = r := by
  have := pv hfact hT
  simpa using this.symm
 subst hr'
 obtain ⟨hokK, hclk, hβ⟩ := hok.ok
 subst hclk
 have e1 : a.eval x = .pointer (some ⟨b, 0, none⟩) := by
  have hp := hx ▸ hs.ev x
  generalize hv : a.eval x = v at hp
  cases hp with
  | @box _ _ _ b' h1 h2 =>
   have := (h2 _ _ _ hTi).2 rfl
   simp only [blk, Option.some.injEq] at this
   rw [this]
 obtain ⟨e, he, hek⟩ := hok.has (KeyV.kv y) c (by rw [g9, hm])
 obtain ⟨y', _, hy', _, hr⟩ := hokK e he
 have hyy : y' = y := KeyV.inj (hy'.symm.trans hek)
 subst hyy
 obtain ⟨c', hc', hrc⟩ := hok.val e he
 rw [hek, g9, hm] at hc'
 cases hc'
 refine ⟨.tuple #[e.key, e.val], (Rs.cons (hr E w) (Rs.cons hrc Rs.nil)).tup, fun w' hk => ?_⟩
 have hb' := (hk.2 n hDn _ _ _ r' hT rfl).trans hh
 have hi' := (hk.2 i hDi _ _ _ b hTi rfl).trans hi
 have hback : (g8 β (done ++ [y'])).back? = some e.born := by
  rw [hβ e he, hek]; simp [g8]
 have hn : (es.toList.map (·.born)).Nodup := List.pairwise_map.2 hok.pb
 have hf : es.find? (·.born == e.born) = some e := by rw [← Array.find?_toList]; exact find_born e es.toList hn he
 simp [execOp, ho, e1, Instr.entry, getObj, Sem.run, hi', hb', hback, hf, Result.andThen]

/-- What the run of a deletion leaves. -/
theorem ucm [DecidableEq α] {t kt k e : TypeId} [MapT P t k e] [KeyT P k α] {x i : Operand} {n wv : Nat} {m m' : α → Option C} (key : α) (ho : o.op = .call { callee := .builtin .delete, args := #[x, i], argTypes := #[t, kt] }) (hx : evC st x = .map n) (hG : st.G n = some (gp P k wv m)) (hi : evC st i = KeyV.kc key) (hm : ou m key = m')
  (h : K (St.put { st with G := aj st.G n (gp P k (wv + 1) m') } o.dst (.tup []))) : EStep P o st K := fun E w a hs Kr Q hq => by
 subst hm
 obtain ⟨r, es, clock, hT, hh, hok, hcl⟩ := hs.g.obj n _ hG
 have e1 := pv (hx ▸ hs.ev x) hT
 have hkr := hi ▸ hs.ev i
 have e2 := KeyV.inv hkr
 obtain ⟨kl, hkey⟩ := KeyT.has (P := P) (k := k) hkr
 have ht := MapT.spec (P := P) (t := t) (k := k) (e := e)
 have Kd := KeyT.keyed (P := P) (k := k) (α := α)
 have hk1 : ∀ e ∈ es.toList, ∃ l, keyOf P k e.key = some l := fun e he => let ⟨_, l, _, h, _⟩ := hok.ok e he; ⟨l, h⟩
 obtain ⟨es', hrun, h1, h2, h3⟩ : ∃ es' : Array MapEntry, (Builtin.delete_ #[t, kt] o.type #[.map (some r), KeyV.kv key]).run P w = .ok (.tuple #[]) (ChangeMaps.setBlock w r (.map es' clock)) ∧ es'.toList.Sublist es.toList ∧ (∀ e ∈ es'.toList, e.key ≠ KeyV.kv key) ∧ ∀ e ∈ es.toList, e.key ≠ KeyV.kv key → e ∈ es'.toList := by
  rcases Kd.find w hkey es.toList hk1 with ⟨hf, hn⟩ | ⟨j, e0, hf, hj, hke⟩
  ·exact ⟨es, by simp [Builtin.delete_, run_underlying ht, MapKept.run_getObj_map hh, Kd.check w _ hkey, hf, MapKept.run_setObj_map _ hh, Result.andThen, ChangeMaps.setBlock], List.Sublist.refl _, hn, fun e he _ => he⟩
  ·have hjl : j < es.toList.length := (List.getElem?_eq_some_iff.1 hj).1
   refine ⟨es.eraseIdxIfInBounds j, by simp [Builtin.delete_, run_underlying ht, MapKept.run_getObj_map hh, Kd.check w _ hkey, hf, MapKept.run_setObj_map _ hh, Result.andThen, ChangeMaps.setBlock], ?_, fun e he => ?_, fun e he hne => ?_⟩
   ·rw [Array.toList_eraseIdxIfInBounds]; exact List.eraseIdx_sublist _ _
   ·rw [Array.toList_eraseIdxIfInBounds] at he
    obtain ⟨i, hi, hij, hie⟩ := List.mem_eraseIdx_iff_getElem.1 he
    intro hk
    have hee : e ∈ es.toList := hie ▸ List.getElem_mem hi
    have : e = e0 := Go.entry_eq_of_key hok.pw hee (List.mem_of_getElem? hj) (hk.trans hke.symm)
    have h0 := List.pairwise_iff_getElem.1 hok.pw
    have hjj := (List.getElem?_eq_some_iff.1 hj).2
    rcases Nat.lt_or_gt_of_ne hij with hlt | hlt
    ·exact h0 i j hi hjl hlt (by rw [hie, hjj, this])
    ·exact h0 j i hjl hi hlt (by rw [hie, hjj, this])
   ·rw [Array.toList_eraseIdxIfInBounds]
    obtain ⟨i, hi, hie⟩ := List.getElem_of_mem he
    refine List.mem_eraseIdx_iff_getElem.2 ⟨i, hi, fun hij => hne ?_, hie⟩
    subst hij
    rw [← hie, (List.getElem?_eq_some_iff.1 hj).2]; exact hke
 have hnew : (ChangeMaps.setBlock w r (.map es' clock)).heap[r]? = some (.map es' clock) := ChangeMaps.heap_setBlock_same hh _
 have hchg : Chg E w (ChangeMaps.setBlock w r (.map es' clock)) 0 wv (.map (some r)) 0 (wv + 1) (.map (some r)) (E.L r) := by
  have hbn := hs.g.tb n _ _ _ r hT rfl
  refine ⟨⟨rfl, rfl, rfl, by simp [ChangeMaps.setBlock], fun k hk => ta w r k _ (by omega)⟩, fun k _ hk => ta w r k _ (fun e => hk (by simp [blk, e])), fun b hb => .inl ⟨hb, ?_⟩, fun b i hb hi => ?_, .inr ⟨rfl, rfl, by omega⟩, fun b o hb ho => ?_, fun hv => absurd hv (Nat.lt_irrefl _), fun b hb hl => ?_⟩
  ·simp only [blk, Option.some.injEq] at hb; subst hb; exact Nat.le_refl _
  ·simp only [blk, Option.some.injEq] at hb; subst hb
   simp [World.cell?, hh, hnew]
  ·simp only [blk, Option.some.injEq] at hb; subst hb; rw [hh] at ho; cases ho; exact ⟨_, hnew, rfl⟩
  ·simp only [blk, Option.some.injEq] at hb; subst hb; omega
 have hev := Ev.chg hs.g hT hchg
 have hobj : ObjOk (E.chg n (0, wv + 1, .map (some r)) (E.L r)) (ChangeMaps.setBlock w r (.map es' clock)) n (gp P k (wv + 1) (ou m key)) := by
  have hin : ∀ e ∈ es'.toList, e ∈ es.toList := fun e he => h1.subset he
  refine ⟨r, es', clock, by simp [Env.chg], hnew, ⟨fun e he => hok.ok e (hin e he), hok.pw.sublist h1, hok.pb.sublist h1, fun e he => ?_, fun x c hx => ?_⟩, ?_⟩
  ·obtain ⟨c, hc, hr⟩ := hok.val e (hin e he)
   refine ⟨c, ?_, hr.ev hev⟩
   obtain ⟨y, l, hy, _⟩ := hok.ok e (hin e he)
   rw [hy, g9] at hc ⊢
   have : y ≠ key := fun e2 => h2 e he (by rw [hy, e2])
   simp [ou, this, hc]
  ·by_cases hex : ∃ y : α, x = KeyV.kv y
   ·obtain ⟨y, rfl⟩ := hex
    rw [g9] at hx
    by_cases hyk : y = key
    ·subst hyk; simp [ou] at hx
    ·simp only [ou, hyk, if_false] at hx
     obtain ⟨e, he, hek⟩ := hok.has (KeyV.kv y) c (by rw [g9]; exact hx)
     exact ⟨e, h3 e he (by rw [hek]; exact fun e2 => hyk (KeyV.inj e2)), hek⟩
   ·rw [rr _ hex] at hx; cases hx
  ·refine Array.all_eq_true_iff_forall_mem.2 fun e he => ?_
   exact Array.all_eq_true_iff_forall_mem.1 hcl e (by simpa using hin e (by simpa using he))
 have hg := SimG.chg hs.g hT hchg hobj
 have hex : (execOp a.eval o).run P w = .ok (.value (.tuple #[])) (ChangeMaps.setBlock w r (.map es' clock)) := by simp [execOp, ho, resolve, invoke, builtin, e1, e2, hrun]
 unfold Oper.wp
 rw [hex]
 exact hq _ _ _ _ hev ((hs.evd hev hg).put o.dst (R.undef _ _)) h
end
end Go.AB
namespace Go.AB
open Go Go.RowKit

/-- Cells that are laid stay. -/
def KeepL (E : Env) (W W' : World) : Prop := W.heap.size ≤ W'.heap.size ∧ ∀ b i, i < E.L b → W'.cell? ⟨b, i, none⟩ = W.cell? ⟨b, i, none⟩
/-- The first m named blocks that are no cells lie below B. -/
def NCB (m B : Nat) (E : Env) (W : World) : Prop := ∀ n t b o, n < m → E.T n = some t → blk t.2.2 = some b → W.heap[b]? = some o → o.isCells = false → b < B
/-- What is owned, between two rounds. -/
def OwnW (E : Env) (w : World) (G : Nat → Option GObj) (nx : Nat) (W : World) : Prop := ∃ E1, Ev E w E1 W ∧ SimG E1 W G nx ∧ NCB nx w.heap.size E1 W

theorem SimG.heap {E : Env} {W W' : World} {G : Nat → Option GObj} {nx : Nat} (h : SimG E W G nx) (hcell : ∀ b i, i < E.L b → W'.cell? ⟨b, i, none⟩ = W.cell? ⟨b, i, none⟩) (hblk : ∀ n t b, E.T n = some t → blk t.2.2 = some b → W'.heap[b]? = W.heap[b]?) (hsz : W.heap.size ≤ W'.heap.size) : SimG E W' G nx := by
 have hrs : ∀ {c : List C} {v : List Value}, Rs E W c v → Rs E W' c v := fun hr => hr.same (fun _ => Nat.le_refl _) hcell rfl rfl
 refine ⟨h.nx, fun n o ho => ?_, h.lt, fun n ver wv val b h3 h4 => ?_, h.ap, fun b hb => h.fresh b (Nat.le_trans hsz hb), Nat.le_trans h.base hsz⟩
 ·have hr1 : ∀ {c : C} {v : Value}, R E W c v → R E W' c v := fun hr => hr.same (fun _ => Nat.le_refl _) hcell rfl rfl
  have := h.obj n o ho
  cases o with
  | fact v c => exact ⟨this.1, hr1 this.2⟩
  | raw wv o => obtain ⟨b, q1, q2, q3⟩ := this; exact ⟨b, q1, (hblk n _ b q1 rfl).trans q2, q3⟩
  | map wv ok f =>
   obtain ⟨r, es, clock, q1, q2, q3, q4⟩ := this
   exact ⟨r, es, clock, q1, (hblk n _ r q1 rfl).trans q2, q3.imp fun _ _ _ _ hr => hr1 hr, q4⟩
  | box wv cs =>
   obtain ⟨b, us, tt, q1, q2, q3, q4, q5⟩ := this
   exact ⟨b, us, tt, q1, (hblk n _ b q1 rfl).trans q2, q3, hrs q4, q5⟩
  | arr ver wv tt sz len cs =>
   obtain ⟨val, us, q1, q2, q3, q4, q5, q6⟩ := this
   refine ⟨val, us, q1, ⟨q2.1, ?_⟩, q3, hrs q4, q5, q6⟩
   rcases q2.2 with q2 | ⟨g, cap, cur, rfl, hg, hgg, rest⟩
   ·exact .inl q2
   ·exact .inr ⟨g, cap, cur, rfl, hg, (hblk n _ g q1 rfl).trans hgg, rest⟩
  | tip len tt sz =>
   obtain ⟨val, us, q1, q2, q5, q6⟩ := this
   refine ⟨val, us, q1, ⟨q2.1, ?_⟩, q5, q6⟩
   rcases q2.2 with q2 | ⟨g, cap, cur, rfl, hg, hgg, rest⟩
   ·exact .inl q2
   ·exact .inr ⟨g, cap, cur, rfl, hg, (hblk n _ g q1 rfl).trans hgg, rest⟩
 ·have := h.tb n ver wv val b h3 h4
  exact ⟨this.1, Nat.lt_of_lt_of_le this.2 hsz⟩

theorem uhs {W : World} {b i : Nat} {o : Obj} (h : W.heap[b]? = some o) (hf : o.isCells = false) : W.cell? ⟨b, i, none⟩ = none := by
 unfold World.cell?
 dsimp only
 rw [h]
 cases o <;> first | rfl | cases hf

/-- The turn of a block that is no cells, and that came later. -/
theorem Ev.turn {E E1 : Env} {w W W' : World} {G0 : Nat → Option GObj} {nx0 : Nat} (hs : SimG E w G0 nx0) (hev : Ev E w E1 W) (hfr : ∀ b, W.heap.size ≤ b → E1.L b = 0) {row : Option Nat} (hg : W.grownBy W' row)
  (hr : ∀ r, row = some r → w.heap.size ≤ r ∧ ∃ o : Obj, W.heap[r]? = some o ∧ o.isCells = false) : Ev E w E1 W' ∧ ∀ b i, i < E1.L b → W'.cell? ⟨b, i, none⟩ = W.cell? ⟨b, i, none⟩ := by
 have hsz := hev.below.size
 have hold : ∀ b, b < w.heap.size → W'.heap[b]? = W.heap[b]? := fun b hb => hg.block b (by omega) fun e => by have := (hr b e.symm).1; omega
 have hsame : ∀ (b : Nat) (o : Obj), W.heap[b]? = some o → o.isCells = true → W'.heap[b]? = some o := fun b o ho hc => by
  refine (hg.block b (Array.getElem?_eq_some_iff.1 ho).1 fun e => ?_).trans ho
  obtain ⟨_, o', h1, h2⟩ := hr b e.symm
  rw [ho] at h1; cases h1; rw [hc] at h2; cases h2
 have hcell : ∀ b i, i < E1.L b → W'.cell? ⟨b, i, none⟩ = W.cell? ⟨b, i, none⟩ := fun b i hi => by
  have hlt : b < W.heap.size := Nat.lt_of_not_le fun hle => by have := hfr b hle; omega
  by_cases e : some b = row
  ·obtain ⟨h1, o, h2, h3⟩ := hr b e.symm
   have h4 := hs.fresh b h1
   obtain ⟨v, hv⟩ := hev.x.lc b (by omega)
   rw [uhs h2 h3] at hv; cases hv
  ·exact World.cell?_of_block (w := W) (hg.block b hlt e)
 refine ⟨⟨⟨hg.os.trans hev.below.os, hg.tape.trans hev.below.tape, hg.output.trans hev.below.output, Nat.le_trans hsz hg.size, fun k hk => (hold k (Nat.lt_of_lt_of_le hk hs.base)).trans (hev.below.block k hk)⟩, hev.B, hev.L,
  fun b i hi => (hcell b i (Nat.lt_of_lt_of_le hi (hev.L b))).trans (hev.cell b i hi), hev.nx, fun n hn' ver' wv' val' h3 => ?_, hev.wv,
  ⟨hev.x.F, fun b hb => ?_, fun b o ho hu => (hold b (Array.getElem?_eq_some_iff.1 ho).1).trans (hev.x.oth b o ho hu), fun b o ho => ?_, hev.x.nb, fun n t t' b hn' q1 q2 q3 q4 => ?_⟩⟩, hcell⟩
 ·obtain ⟨ver, wv, val, q1, q2, q3⟩ := hev.T n hn' _ _ _ h3
  exact ⟨ver, wv, val, q1, q2, fun e => ⟨(q3 e).1, fun e2 b hb => (hold b (hs.tb n _ _ _ b q1 hb).2).trans ((q3 e).2 e2 b hb)⟩⟩
 ·obtain ⟨v, hv⟩ := hev.x.lc b hb
  exact ⟨v, (hcell b 0 (by omega)).trans hv⟩
 ·rw [hold b (Array.getElem?_eq_some_iff.1 ho).1]
  exact hev.x.ic b o ho
 ·obtain ⟨o, q5, q6⟩ := hev.x.mv n t t' b hn' q1 q2 q3 q4
  exact ⟨o, hsame b o q5 q6, q6⟩

/-- What is owned abides it. -/
theorem OwnW.turn {E : Env} {w : World} {G0 : Nat → Option GObj} {nx0 : Nat} (hs : SimG E w G0 nx0) {G : Nat → Option GObj} {nx : Nat} {W W' : World} {row : Option Nat} (h : OwnW E w G nx W) (hg : W.grownBy W' row)
  (hr : ∀ r, row = some r → w.heap.size ≤ r ∧ ∃ o : Obj, W.heap[r]? = some o ∧ o.isCells = false) : OwnW E w G nx W' := by
 obtain ⟨E1, hev, hs1, hn⟩ := h
 obtain ⟨hev', hcell⟩ := hev.turn hs hs1.fresh hg hr
 have hnx := hs1.nx
 have hblk : ∀ n t b, E1.T n = some t → blk t.2.2 = some b → W'.heap[b]? = W.heap[b]? := fun n t b ht hb => by
  have hlt := (hs1.tb n t.1 t.2.1 t.2.2 b ht hb).2
  refine hg.block b hlt fun e => ?_
  obtain ⟨h1, o, h2, h3⟩ := hr b e.symm
  have := hn n t b o (hnx ▸ hs1.lt n t ht) ht hb h2 h3
  omega
 exact ⟨E1, hev', hs1.heap hcell hblk hg.size, fun n t b o hm ht hb ho hf => hn n t b o hm ht hb ((hblk n t b ht hb).symm.trans ho) hf⟩
theorem OwnW.put {E : Env} {w : World} {G0 : Nat → Option GObj} {nx0 : Nat} (hs : SimG E w G0 nx0) {G : Nat → Option GObj} {nx : Nat} {W : World} {l : Nat} {o : Obj} (h : OwnW E w G nx W) (hl : w.heap.size ≤ l) (ho : W.heap[l]? = some o) (hf : o.isCells = false) (o' : Obj) : OwnW E w G nx (W.putObj l o') :=
 h.turn hs (grownBy_putObj' W l o') (fun r e => by cases e; exact ⟨hl, o, ho, hf⟩)

theorem NCB.step {m B : Nat} {E1 E2 : Env} {W W' : World} {G1 : Nat → Option GObj} {nx1 : Nat} (hn : NCB m B E1 W) (hm : m ≤ E1.nx) (hs1 : SimG E1 W G1 nx1) (h1 : Ev E1 W E2 W') : NCB m B E2 W' := by
 intro n t b o hlt ht hb ho hf
 obtain ⟨v', wv', val'⟩ := t
 obtain ⟨v, wv, val, q1, q2, q3⟩ := h1.T n (by omega) _ _ _ ht
 by_cases e : v = v'
 ·have hval := (q3 e).1
  subst hval
  have hlt2 := (hs1.tb n v wv val b q1 hb).2
  cases ho0 : W.heap[b]? with
  | none => rw [Array.getElem?_eq_none_iff] at ho0; omega
  | some o0 =>
   obtain ⟨o', h3, h4⟩ := h1.x.ic b o0 ho0
   rw [ho] at h3
   cases h3
   exact hn n _ b o0 hlt q1 hb ho0 (h4.symm.trans hf)
 ·obtain ⟨o2, h3, h4⟩ := h1.x.mv n _ _ b (by omega) q1 ht (by show v < v'; omega) hb
  rw [ho] at h3
  cases h3
  rw [hf] at h4; cases h4

/-- What comes is put into the loop's variables. -/
def putL : List Tmp → List C → St → St
 | p :: ps, c :: cs, st => putL ps cs (st.put (some p) c)
 | _, _, st => st
def rf : List Tmp → List Value → Act → Act
 | p :: ps, v :: vs, a => rf ps vs (a.put (some p) v)
 | _, _, a => a
theorem yv {E : Env} {w : World} : ∀ (ps : List Tmp) {cs : List C} {vs : List Value} {st : St} {a : Act}, Rs E w cs vs → Sim E w st a → Sim E w (putL ps cs st) (rf ps vs a)
 | [], _, _, _, _, _, h => h
 | p :: ps, [], [], _, _, _, h => h
 | p :: ps, c :: cs, v :: vs, _, _, hr, h => yv ps (cs := cs) (vs := vs) ⟨by simpa using hr.1, fun j d x h1 h2 => hr.2 (j + 1) d x (by simpa using h1) (by simpa using h2)⟩ (h.put (some p) (hr.2 0 c v rfl rfl))
 | p :: ps, [], v :: vs, _, _, hr, _ => absurd hr.1 (by simp)
 | p :: ps, c :: cs, [], _, _, hr, _ => absurd hr.1 (by simp)
theorem zj : ∀ (ps : List Tmp) (vs : List Value) (a : Act), rf ps vs a = { a with tmps := (ps.zip vs).foldl (fun t p => t.setIfInBounds p.1 p.2) a.tmps }
 | [], _, _ => rfl
 | p :: ps, [], _ => rfl
 | p :: ps, v :: vs, a => by
  simp only [rf, List.zip_cons_cons, List.foldl_cons]
  rw [zj ps vs]
  rfl

end Go.AB
namespace Go.AB
open Go Go.RowKit

def noG : Nat → Option GObj := fun _ => none
def itE (L : Nat → Nat) : Env := ⟨0, L, fun _ => none, 0, 0⟩
/-- An iterator at work: what lay when it began; what is laid; the two invariants of who asks. -/
structure ItC (β : Type) where
 xs : List β
 encv : β → List Value
 L : Nat → Nat
 Ws : World
 l : Nat
 J : List { x // x ∈ xs } → World → Prop
 Jx : List { x // x ∈ xs } → World → Prop

section
variable {β : Type} (P : Program) (I : ItC β)
/-- The state of an iterator: y.1: no more is asked for; y.2: what has come. -/
def IterS (st : St) (y : Bool × List β) (W : World) (a : Act) : Prop :=
 match y.1 with
 | false => st.df = 0 ∧ Sim (itE I.L) W st a ∧ KeepL (itE I.L) I.Ws W ∧ ∃ pre, pre.map Subtype.val = y.2 ∧ I.J pre W
 | true => st.df = 0 ∧ Sim (itE fun _ => 0) W st a ∧ ∃ pre, pre.map Subtype.val = y.2 ∧ I.Jx pre W
end

section
variable {β : Type} {P : Program} {I : ItC β} {Q : Exit → St → Bool × List β → Prop} {st : St} {y : Bool × List β}
theorem KeepL.trans {E : Env} {A B C : World} (h : KeepL E A B) (k : KeepL E B C) : KeepL E A C := ⟨Nat.le_trans h.1 k.1, fun b i hi => (k.2 b i hi).trans (h.2 b i hi)⟩

variable {zs : List β}
variable {ops : Array Oper} {K : St → Bool × List β → Prop} {rest : List Oper} {o : Oper}
theorem IterS.put {W : World} {a : Act} (h : IterS I st y W a) (d : Option Tmp) {c : C} {v : Value} (hr : ∀ E, Sim E W st a → R E W c v) : IterS I (st.put d c) y W (a.put d v) := by
 obtain ⟨b, zs⟩ := y
 cases b with
 | false => exact ⟨by cases d <;> exact h.1, h.2.1.put d (hr _ h.2.1), h.2.2⟩
 | true => exact ⟨by cases d <;> exact h.1, h.2.1.put d (hr _ h.2.1), h.2.2⟩
theorem uf8 {n m l : Nat} {P : Program} {f : FuncId} {tmps : Array Value} {assign body : Code} {w : World} {R : Ending → World → Prop} (h : RoundIn (fen none) n P l f tmps assign body w R) : RoundIn (fen none) m P l f tmps assign body w R :=
 ⟨h.1, fun c cs _ => h.2 c cs (fun _ hd => by cases hd)⟩
end
end Go.AB
namespace Go.AB
open Go Go.RowKit

end Go.AB
namespace Go.AB
open Go Go.RowKit
variable {ρ : Option Nat}

def j7 : List (Nat × Option Nat) → Array Bool → Array Bool
  | [], l => l
  | p :: r, l => j7 r (l.setIfInBounds p.1 true)
def k6 (ops : Array Oper) (late N : Nat → Bool) : List (Nat × Option Nat) → Array Bool → Bool
  | [], _ => true
  | (_, some _) :: _, _ => false
  | (i, none) :: rest, listed =>
    ((Region.ready .any ops listed).contains i && Region.free .any ops listed i && (ops[i]?).isSome &&
       (N i || ((List.range ops.size).all fun j => !late j || j == i || m8 .any ops ops.size j i))) &&
    k6 ops late N rest (listed.setIfInBounds i true)

section
variable {P : Program} {ops : Array Oper} {Q : Exit → Act → World → Prop} {S : World → Prop} {late N : Nat → Bool}
theorem u9 (fin : Act → World → Prop) (fuel : Nat) (hs : Region.noSelect ops = true) (hQ : ∀ (o : Option Tmp) (v : Value) c a w, Q (.panic c) (a.put o v) w → Q (.panic c) a w) :
    ∀ (π : List (Nat × Option Nat)) (listed : Array Bool) (a : Act) (w : World), Closed .any ops listed → k6 ops late N π listed = true → S w →
      (∀ a, fin a w → gr P .any ops Q S late fuel (j7 π listed) a w) → f4 P ops (ij fin) S late (fun _ => false) N π a w → gr P .any ops Q S late (fy π + fuel) listed a w := by
  intro π
  induction π with
  | nil =>
    intro listed a w _ _ _ hf h
    have := hf a h
    simpa [fy, j7] using this
  | cons p rest ih =>
    obtain ⟨i, m⟩ := p
    intro listed a w hcl hc hSw hf h
    cases m with
    | some j => simp [k6] at hc
    | none =>
      simp only [k6, Bool.and_eq_true] at hc
      obtain ⟨⟨⟨⟨hready, hfree⟩, hsome⟩, hlate⟩, hc2⟩ := hc
      simp only [f4, Bool.false_eq_true, if_false] at h
      cases ho : ops[i]? with
      | none => rw [ho] at hsome; cases hsome
      | some o =>
        rw [ho] at h
        obtain ⟨v, hy, hrest⟩ := h
        have hi : i ∈ Region.ready .any ops listed := by simpa using hready
        have hrec := ih _ _ _ (hcl.set hi) hc2 hSw hf hrest
        have hp : fy ((i, none) :: rest) + fuel = fy rest + fuel + 1 := by simp only [fy]; omega
        rw [hp]
        by_cases hN : N i = true
        · rw [if_pos hN] at hy
          exact qs (depth := ops.size) (fun _ => True) ho (Region.noSelect_spec hs) (fun c a w => hQ o.dst v c a w) (.inl fun _ => trivial) (fy rest + fuel) listed a w hcl (Region.free_spec ho hfree) hi hy trivial hrec
        · rw [if_neg hN] at hy
          refine qs (depth := ops.size) S ho (Region.noSelect_spec hs) (fun c a w => hQ o.dst v c a w) (.inr ⟨rfl, ?_⟩) (fy rest + fuel) listed a w hcl (Region.free_spec ho hfree) hi hy hSw hrec
          intro j oj hoj hlj hne
          have hlate' := (Bool.or_eq_true _ _ ▸ hlate).resolve_left hN
          rw [List.all_eq_true] at hlate'
          have := hlate' j (List.mem_range.2 (Array.getElem?_eq_some_iff.1 hoj).1)
          simp only [Bool.or_eq_true, Bool.not_eq_true', beq_iff_eq] at this
          rcases this with (h1 | h1) | h1
          · rw [hlj] at h1; cases h1
          · exact absurd h1 hne
          · exact h1
end

section
variable (P : Program) (ol : List Oper) (K : St → Prop) (late : Nat → Bool)
/-- What is left, in whatever order. -/
def ld (fuel : Nat) (listed : List Bool) (st : St) : Prop :=
  ∀ (E0 : Env) (w0 : World) (Q : Act → World → Prop), (∀ a' w' st' E', Ev E0 w0 E' w' → Sim E' w' st' a' → K st' → Q a' w') →
    ∀ E1 w1 a, Ev E0 w0 E1 w1 → Sim E1 w1 st a → gr P .any ol.toArray (ij Q) (Keeps E0 (· ∈ ([] : List Nat)) w0) late fuel listed.toArray a w1
/-- One operation, then the rest. -/
def pc (fuel : Nat) (listed : List Bool) (i : Nat) (st : St) : Prop :=
  ∃ o, ol[i]? = some o ∧ ((eo ol.toArray st o = some true ∧ EStep P o st (ld P ol K late fuel (listed.set i true))) ∨ (eo ol.toArray st o = some false ∧ ld P ol K late fuel (listed.set i true) (st.put o.dst (.tup []))))
def sr (fuel : Nat) (listed : List Bool) (st : St) : List Nat → Prop
  | [] => True
  | i :: is => pc P ol K late fuel listed i st ∧ sr fuel listed st is
end
section
variable {P : Program} {ol : List Oper} {K : St → Prop} {late : Nat → Bool} {fuel : Nat} {listed : List Bool} {st : St} {i : Nat} {is : List Nat} {o : Oper} {c : C}
theorem ie : sr P ol K late fuel listed st [] := trivial
theorem ig (h : pc P ol K late fuel listed i st) (k : sr P ol K late fuel listed st is) : sr P ol K late fuel listed st (i :: is) := ⟨h, k⟩
theorem mx (hol : ol[i]? = some o) (hg : eo ol.toArray st o = some true) {listed' : List Bool} (hl : listed.set i true = listed') (h : EStep P o st (ld P ol K late fuel listed')) : pc P ol K late fuel listed i st :=
  ⟨o, hol, .inl ⟨hg, by rw [hl]; exact h⟩⟩
theorem uky (hol : ol[i]? = some o) (hg : eo ol.toArray st o = some true) {listed' : List Bool} (hl : listed.set i true = listed') (hq : SStep P (fun _ => True) o st c) (h : ld P ol K late fuel listed' (st.put o.dst c)) : pc P ol K late fuel listed i st :=
  mx hol hg hl (hq.e.mono fun _ e => e ▸ h)
theorem sk (hol : ol[i]? = some o) (hg : eo ol.toArray st o = some true) {listed' : List Bool} (hl : listed.set i true = listed') (hq : NStep P o st c) (h : ld P ol K late fuel listed' (st.put o.dst c)) : pc P ol K late fuel listed i st :=
  uky hol hg hl hq.s h
theorem k8 (hol : ol[i]? = some o) (hg : eo ol.toArray st o = some false) {listed' : List Bool} (hl : listed.set i true = listed') (h : ld P ol K late fuel listed' (st.put o.dst (.tup []))) : pc P ol K late fuel listed i st :=
  ⟨o, hol, .inr ⟨hg, by rw [hl]; exact h⟩⟩
theorem o8 (hr : (Region.ready .any ol.toArray listed.toArray == []) = true) (h : K st) : ld P ol K late fuel listed st := by
  intro E0 w0 Q hQ E1 w1 a hev hs
  have hr' : Region.ready .any ol.toArray listed.toArray = [] := by simpa using hr
  have hq := hQ a w1 st E1 hev hs h
  cases fuel with
  | zero => exact ⟨hr', hq⟩
  | succ n => exact ⟨fun _ => hq, fun i hi => by rw [hr'] at hi; cases hi⟩
theorem ii (is : List Nat) (hr : (Region.ready .any ol.toArray listed.toArray == is) = true) (hne : is ≠ []) (h : sr P ol K late fuel listed st is) : ld P ol K late (fuel + 1) listed st := by
  intro E0 w0 Q hQ E1 w1 a hev hs
  have hr' : Region.ready .any ol.toArray listed.toArray = is := by simpa using hr
  refine ⟨fun e => absurd (hr'.symm.trans e) hne, fun i hi => ?_⟩
  rw [hr'] at hi
  have hi' : pc P ol K late fuel listed i st := by
    clear hr hr' hne
    induction is with
    | nil => cases hi
    | cons j is ih =>
      rcases List.mem_cons.1 hi with rfl | hi
      · exact h.1
      · exact ih h.2 hi
  obtain ⟨o, hol, hcase⟩ := hi'
  have ho : ol.toArray[i]? = some o := by simpa using hol
  have hset : listed.toArray.setIfInBounds i true = (listed.set i true).toArray := by simp
  refine wpOp_step ho fun Kr hK => ?_
  rcases hcase with ⟨hg, h1⟩ | ⟨hg, h1⟩
  · rw [if_pos (j5 hg hs)]
    refine h1 E1 w1 a hs Kr _ fun a' w' st' E' q1 q2 q3 => ?_
    refine hK a' w' ⟨.inr fun hS => ⟨fun b j hj => (q1.cell b j (Nat.lt_of_lt_of_le hj (hev.L b))).trans (hS.1 b j hj), fun n hn => by cases hn⟩, ?_⟩
    rw [hset]
    exact q3 E0 w0 Q hQ E' w' a' (hev.trans q1) q2
  · rw [if_neg (by rw [j5 hg hs]; simp)]
    refine hK _ _ ⟨.inr id, ?_⟩
    rw [hset]
    exact h1 E0 w0 Q hQ E1 w1 _ hev (hs.put o.dst (R.undef E1 w1))
theorem udh {id : Nat} {l : List Oper} {Q : Exit → St → Prop} (π : List (Nat × Option Nat)) (late N : Nat → Bool) (fuel : Nat) (listed : List Bool) (hm : P.follows .mixedOrders = true)
    (hchk : (po l && (Region.noSelect l.toArray && (k6 l.toArray late N π (Array.replicate l.toArray.size false) && ((j7 π (Array.replicate l.toArray.size false)).toList == listed && fy π + fuel == l.toArray.size)))) = true)
    (h : iu P l.toArray (ld P l (Q .normal) late fuel listed) [] late (fun _ => false) N π st) : AW ρ P (.region id l.toArray true) Q st := by
  intro E w a hs
  simp only [Bool.and_eq_true, beq_iff_eq] at hchk
  obtain ⟨h0, h1, h2, h3, h4⟩ := hchk
  have hev : Ev E w E w.drew := Ev.same ((Below.refl _ _).drew) rfl
  have hend : j7 π (Array.replicate l.toArray.size false) = listed.toArray := by rw [← h3]
  have key : gr P .any l.toArray (ij fun a' w' => lx E w Q .normal a' w') (Keeps E (· ∈ ([] : List Nat)) w.drew) late (fy π + fuel) (Array.replicate l.toArray.size false) a w.drew := by
    refine u9 (fun a' w' => gr P .any l.toArray (ij fun a' w' => lx E w Q .normal a' w') (Keeps E (· ∈ ([] : List Nat)) w.drew) late fuel listed.toArray a' w') fuel h1 (fun _ _ _ _ _ h => h) π _ a w.drew ?_ h2 (Keeps.refl _ _ _) (fun a' h' => by rw [hend]; exact h') ?_
    · intro j o _ hj
      rw [Array.getD_eq_getD_getElem?, Array.getElem?_replicate] at hj
      split at hj <;> simp at hj
    · exact h E w.drew _ (fun a' w' st' E' q1 q2 q3 => q3 E w.drew _ (fun a2 w2 st2 E2 r1 r2 r3 => ⟨st2, E2, hev.trans r1, r2, r3⟩) E' w' a' q1 q2) a hs.drew
  rw [h4] at key
  refine g4 (Q := ij fun a' w' => lx E w Q .normal a' w') ?_ (xu hm h0 (sv _ _ _ _ key))
  intro e a' w' hq
  cases e with
  | normal => exact hq
  | _ => exact hq.elim
end
/-! ### Quiet operations between what acts -/
def xv (ops : Array Oper) (listed : Array Bool) : Bool :=
  (List.range ops.size).all fun j => !listed.getD j false || match ops[j]? with
    | some o => o.after.toList.all fun e => !Region.binds .any e || listed.getD e.on false
    | none => true
theorem ucu {ops : Array Oper} {listed : Array Bool} (h : xv ops listed = true) : Closed .any ops listed := by
  intro j o ho hj e he hb
  have hlt := (Array.getElem?_eq_some_iff.1 ho).1
  have := List.all_eq_true.1 h j (List.mem_range.2 hlt)
  simp only [hj, Bool.not_true, Bool.false_or, ho, List.all_eq_true] at this
  have := this e (by simpa using he)
  simpa [hb] using this
section
variable {P : Program} {ops : Array Oper} {Q : Exit → Act → World → Prop}
theorem yb {S S2 : World → Prop} (hS : ∀ w, S2 w → S w) : ∀ (fuel : Nat) (listed : Array Bool) (a : Act) (w : World), S2 w → gr P .any ops Q S2 (fun _ => false) fuel listed a w → gr P .any ops Q S (fun _ => false) fuel listed a w
  | 0, _, _, _, _, h => h
  | fuel + 1, listed, a, w, hw, h => by
    refine ⟨h.1, fun i hi => wpOp_mono (fun a' w' h' => ?_) (h.2 i hi)⟩
    have h2 := (h'.1.resolve_left (by simp)) hw
    exact ⟨.inr fun _ => hS _ h2, yb hS fuel _ a' w' h2 h'.2⟩
end
theorem ka {P : Program} {ol : List Oper} {K : St → Prop} {total : Nat} {listed : List Bool} {st : St} (π : List (Nat × Option Nat)) (N : Nat → Bool) (fuel : Nat) (listed' : List Bool)
    (hchk : (xv ol.toArray listed.toArray && (Region.noSelect ol.toArray && (k6 ol.toArray (fun _ => false) N π listed.toArray && ((j7 π listed.toArray).toList == listed' && total == fy π + fuel)))) = true)
    (h : iu P ol.toArray (ld P ol K (fun _ => false) fuel listed') [] (fun _ => false) (fun _ => false) N π st) : ld P ol K (fun _ => false) total listed st := by
  simp only [Bool.and_eq_true, beq_iff_eq] at hchk
  obtain ⟨h0, h1, h2, h3, h4⟩ := hchk
  subst h4
  intro E0 w0 Q hQ E1 w1 a hev hs
  have hend : j7 π listed.toArray = listed'.toArray := by rw [← h3]
  refine yb (S2 := Keeps E1 (· ∈ ([] : List Nat)) w1) (fun w' hk => ⟨fun b i hi => (hk.1 b i (Nat.lt_of_lt_of_le hi (hev.L b))).trans (hev.cell b i hi), fun n hn => by cases hn⟩) _ _ _ _ (Keeps.refl _ _ _) ?_
  refine u9 (fun a' w' => gr P .any ol.toArray (ij Q) (Keeps E1 (· ∈ ([] : List Nat)) w1) (fun _ => false) fuel listed'.toArray a' w') fuel h1 (fun _ _ _ _ _ h => h) π _ a w1 (ucu h0) h2 (Keeps.refl _ _ _) (fun a' h' => by rw [hend]; exact h') ?_
  exact h E1 w1 _ (fun a' w' st' E' q1 q2 q3 => q3 E1 w1 Q (fun a2 w2 st2 E2 r1 r2 r3 => hQ a2 w2 st2 E2 (hev.trans r1) r2 r3) E' w' a' q1 q2) a hs
end Go.AB
namespace Go.AB
open Go Go.RowKit
open Go.AB.Enc (cells)
variable {ρ : Option Nat}
theorem C.low.mono {m k : Nat} {c : C} (h : c.low m) (hk : m ≤ k) : c.low k := by
 induction h with
 | v => exact .v
 | list _ h2 ih => exact .list ih fun n hn => Nat.lt_of_lt_of_le (h2 n hn) hk
 | elem _ ih => exact .elem ih
 | box h => exact .box (Nat.lt_of_lt_of_le h hk)
 | arr h => exact .arr (Nat.lt_of_lt_of_le h hk)
 | own h => exact .own (Nat.lt_of_lt_of_le h hk)
 | fn _ ih => exact .fn ih
 | map h => exact .map (Nat.lt_of_lt_of_le h hk)
 | agg _ ih => exact .agg ih
 | tup _ ih => exact .tup ih
 | any => exact .any
theorem GObj.low_mono {m k : Nat} {o : GObj} (h : o.low m) (hk : m ≤ k) : o.low k := by
 cases o with
 | box => exact fun c hc => (h c hc).mono hk
 | arr => exact fun c hc => (h c hc).mono hk
 | tip => trivial
 | fact => exact C.low.mono h hk
 | raw => trivial
 | map => exact fun x c hx => (h x c hx).mono hk
theorem SimG.lowG {E : Env} {w : World} {G : Nat → Option GObj} {nx : Nat} (hg : SimG E w G nx) {n : Nat} {o : GObj} (ho : G n = some o) : n < nx ∧ o.low nx := by
 have hnx := hg.nx
 have hlt : ∀ t, E.T n = some t → n < nx := fun t ht => by have := hg.lt n t ht; omega
 have := hg.obj n o ho
 cases o with
 | box => obtain ⟨b, us, tt, h1, _, _, h4, _⟩ := this; exact ⟨hlt _ h1, hnx ▸ h4.low⟩
 | arr => obtain ⟨b, us, h1, _, _, h4, _⟩ := this; exact ⟨hlt _ h1, hnx ▸ h4.low⟩
 | tip => obtain ⟨b, us, h1, _⟩ := this; exact ⟨hlt _ h1, trivial⟩
 | fact => exact ⟨hlt _ this.1, hnx ▸ this.2.low⟩
 | raw => obtain ⟨b, h1, _⟩ := this; exact ⟨hlt _ h1, trivial⟩
 | map wv ok f =>
  obtain ⟨r, es, cl, h1, _, h3, _⟩ := this
  refine ⟨hlt _ h1, fun x c hx => ?_⟩
  obtain ⟨e, he, rfl⟩ := h3.has x c hx
  obtain ⟨c', h4, h5⟩ := h3.val e he
  rw [hx] at h4; cases h4
  exact hnx ▸ h5.low

/-- A contract whose result has new named objects, out of the body's walk. -/
theorem gk {P : Program} {f : FuncId} {fn : Func} {c : Code} {args : List C} {r : C} {G : Nat → Option GObj} {nx : Nat} (g : Nat → Option GObj) (m : Nat) (hf : P.funcs[f]? = some fn) (hb : fn.body = some c) (hl : r.low m) (hm : nx ≤ m) (hg : (∀ n o, G n = some o → n < nx) → ∀ n o, g n = some o → G n = some o ∨ (n < m ∧ o.low m))
  (h : AW none P c (mz P fn r g m) { n := args.length + (fn.ntmps - args.length), l := args, r := [], G := G, nx := nx }) : PC P f args G nx fun r' G' nx' => r' = r ∧ G' = g ∧ nx' = m := by
 intro E w vs hr hg0
 have key := zm (K := fun r' G' nx' => r' = r ∧ m ≤ nx' ∧ ∀ n o, g n = some o → G' n = some o) hf hb (AW.mono h fun e st hq => by
  cases e with
  | normal => exact ⟨r, hq.1, rfl, hq.2.1, hq.2.2⟩
  | ret => exact ⟨r, hq.1, rfl, hq.2.1, hq.2.2⟩
  | _ => exact hq)
 refine (key E w vs hr hg0).mono ?_
 rintro e w' ⟨r', v, E', G', nx', e1, e2, e3, e4, rfl, e5, e6⟩
 have hnx := hg0.nx
 refine ⟨r', v, E'.drop m, g, m, e1, e2.drop (by omega), e3.drop hl, ?_, rfl, rfl, rfl⟩
 refine (e4.weak e6).drop fun n o ho => ?_
 rcases hg (fun n o ho => (hg0.lowG ho).1) n o ho with h1 | h1
 ·have := hg0.lowG h1
  exact ⟨by omega, GObj.low_mono this.2 hm⟩
 ·exact h1
theorem oy {P : Program} {o : Oper} {st : St} {K : St → Prop} {f : FuncId} [Fun P f] {fv : Operand} {args : List Operand} {ats : Array TypeId} {caps as1 : List C} {r : C} {g : Nat → Option GObj} {m : Nat} (ho : o.op = .call { callee := .value fv, args := args.toArray, argTypes := ats }) (hf : evC st fv = .fn (.func f) caps) (has : args.map (evC st) ++ caps = as1)
  (hp : PC P f as1 st.G st.nx fun r' G' nx' => r' = r ∧ G' = g ∧ nx' = m) (h : K (St.put { st with G := g, nx := m } o.dst r)) : EStep P o st K :=
 xp ho hf has (hp.mono fun r' G' nx' ⟨e1, e2, e3⟩ => by subst e1; subst e2; subst e3; exact h)

/-! ### Reading what is owned -/
/-- So many cells lie in a block. -/
def qf (w : World) (b : Nat) : Nat := match w.heap[b]? with
 | some (.cells us _ _) => us.size
 | _ => 0
theorem ukf {w : World} {b j : Nat} {u : Value} (h : w.cell? ⟨b, j, none⟩ = some u) : j < qf w b := by
 unfold World.cell? at h
 unfold qf
 dsimp only at h ⊢
 split at h
 ·rename_i c tt fz e
  rw [e]
  simp only [Option.isSome_none, Bool.false_eq_true, if_false] at h
  exact (Array.getElem?_eq_some_iff.1 h).1
 ·cases h
/-- All that lies in a world is laid. -/
def my (w : World) : Env := ⟨w.heap.size, fun b => qf w b, fun _ => none, 0, 0⟩
theorem ula (w : World) : SimG (my w) w noG 0 := by
 refine ⟨rfl, fun n o ho => (by cases ho), fun n t ht => (by cases ht), fun n ver wv val b ht => (by cases ht), fun n m t t' b ht => (by cases ht), fun b hb => ?_, Nat.le_refl _⟩
 show qf w b = 0
 unfold qf
 rw [Array.getElem?_eq_none hb]
/-! ### Own slices are laid for good -/
theorem z6 {E : Env} {w : World} {G : Nat → Option GObj} {nx : Nat} (hg : SimG E w G nx) {α : Type} [Enc α] {n ver wv len sz : Nat} {tt : TypeId} {cs : List C} (xs : List α) (hG : G n = some (.arr ver wv tt sz len cs)) (hsz : sz = Enc.n α) (hcs : cs = cp xs) (hlen : len = xs.length) :
  ∃ E', Ev E w E' w ∧ SimG E' w (kw G n) nx ∧ ∀ v, R E w (.own n ver len) v → R E' w (lst xs) v := by
 subst hsz; subst hcs; subst hlen
 obtain ⟨val, us, hT, how, hone, hrs, hL, hpos⟩ := hg.obj n _ hG
 have hE : Ev E w { E with L := fun k => if blk val = some k then us.length else E.L k } w := by
  refine ⟨Below.refl _ _, rfl, fun k => ?_, fun _ _ _ => rfl, Nat.le_refl _, fun n _ ver wv val h => ⟨ver, wv, val, h, Nat.le_refl _, fun _ => ⟨rfl, fun _ _ _ => rfl⟩⟩, fun n ver wv wv' v h h' _ => by rw [show ({ E with L := fun k => if blk val = some k then us.length else E.L k } : Env).T = E.T from rfl, h] at h'; simp at h'; omega, ?_⟩
  ·show E.L k ≤ if blk val = some k then us.length else E.L k
   split
   ·rename_i e; rw [hL k e]; exact Nat.zero_le _
   ·exact Nat.le_refl _
  ·refine ⟨rfl, fun k hk => ?_, fun _ _ h _ => h, fun _ o h => ⟨o, h, rfl⟩, fun _ t _ _ h k _ => ⟨t, h, k⟩, fun n t t' _ _ h1 h2 hv _ => by rw [show ({ E with L := fun k => if blk val = some k then us.length else E.L k } : Env).T = E.T from rfl, h1] at h2; cases h2; omega⟩
   have hk' : E.L k < if blk val = some k then us.length else E.L k := hk
   split at hk'
   ·rename_i e
    have h0 : 0 < us.length := by omega
    exact ⟨us[0], by rw [oo how e (by rw [← how.1]; exact h0), List.getElem?_eq_getElem h0]⟩
   ·omega
 refine ⟨_, hE, ⟨hg.nx, fun k o ho => ?_, hg.lt, hg.tb, hg.ap, fun k hk => ?_, hg.base⟩, fun v hr => ?_⟩
 ·have hkn : k ≠ n := fun e => by subst e; simp [kw] at ho
  rw [kg hkn] at ho
  refine (hg.obj k o ho).keep hE rfl fun ver wv v' b' h1 h2 => ⟨rfl, ?_⟩
  show (if blk val = some b' then us.length else E.L b') = E.L b'
  rw [if_neg (fun e => hg.ap k n _ _ b' h1 hT hkn h2 e)]
 ·show (if blk val = some k then us.length else E.L k) = 0
  rw [if_neg (fun e => by have := (hg.tb n _ _ _ k hT e).2; omega)]
  exact hg.fresh k hk
 ·obtain ⟨rfl, _, a, cap, rfl, hc1, hc2⟩ := ti hr hT how
  have := R.mk_list (E := { E with L := fun k => if blk (.slice a xs.length cap) = some k then us.length else E.L k }) (w := w) (rows := xs.map cells) (a := a) (cap := cap) (sz := Enc.n α) (us := us) (tok := .none) (by simpa using hc1) hc2 hpos (mj xs) (fun r hr c hc => by
   obtain ⟨x, _, rfl⟩ := List.mem_map.1 hr
   exact Enc.one x c hc) (hrs.ev hE) (by
   rcases how.2 with ⟨e, h1⟩ | ⟨g, cap', cur, e, _, hh, h1, h2, h3, h4⟩
   ·exact .inl (by rw [List.length_eq_zero_iff] at h1; rw [h1]; rfl)
   ·cases e
    refine .inr ⟨g, 0, rfl, ?_, fun j u hu => ?_⟩
    ·show 0 + us.length ≤ if some g = some g then us.length else E.L g
     rw [if_pos rfl]; omega
    ·rw [Nat.zero_add, oo how rfl (by rw [← how.1]; exact (List.getElem?_eq_some_iff.1 hu).1)]
     exact hu) (by simp) (by simp) (by simp)
  rw [List.length_map] at this
  exact this
/-- .. as a temporary holds it. -/
theorem udi {P : Program} {Q : Exit → St → Prop} {st : St} {c : Code} {α : Type} [Enc α] (i : Nat) {n ver wv len sz : Nat} {tt : TypeId} {cs : List C} (xs : List α) (h0 : st.at i = .own n ver len) (hG : st.G n = some (.arr ver wv tt sz len cs)) (hsz : sz = Enc.n α) (hcs : cs = cp xs) (hlen : len = xs.length) (h : AW ρ P c Q { st with r := (i, lst xs) :: st.r, G := kw st.G n }) : AW ρ P c Q st := by
 intro E w a hs
 obtain ⟨E', hE, hg', hl⟩ := z6 hs.g xs hG hsz hcs hlen
 have hp := hs.at i
 rw [h0] at hp
 have hs2 := hs.evd hE hg'
 refine g4 (fun _ _ _ hq => mn hE hq) (h _ w a ⟨hs.d.ev hE, hs.sz, fun j v hj => ?_, hg'⟩)
 simp only [ca]
 cases hb : Nat.beq i j
 ·exact hs2.t j v hj
 ·have hij := Nat.eq_of_beq_eq_true hb
  subst hij
  have hv : a.tmps.getD i undef = v := by rw [Array.getD_eq_getD_getElem?, hj]; rfl
  exact hl v (hv ▸ hp)
/-- .. as a variable's cell holds it. -/
theorem o4 {P : Program} {Q : Exit → St → Prop} {st : St} {c : Code} {α : Type} [Enc α] (m off : Nat) {n ver wv wm len sz : Nat} {tt : TypeId} {cs ds : List C} (xs : List α) (hM : st.G m = some (.box wm ds)) (h0 : ds[off]? = some (.own n ver len)) (hG : st.G n = some (.arr ver wv tt sz len cs)) (hnm : m ≠ n) (hsz : sz = Enc.n α) (hcs : cs = cp xs) (hlen : len = xs.length) (h : AW ρ P c Q { st with G := aj (kw st.G n) m (.box wm (ds.set off (lst xs))) }) : AW ρ P c Q st := by
 intro E w a hs
 obtain ⟨E', hE, hg', hl⟩ := z6 hs.g xs hG hsz hcs hlen
 obtain ⟨b, us, tt2, hT, hh, hone, hr, hL⟩ := hg'.obj m (.box wm ds) (by rw [kg hnm]; exact hM)
 obtain ⟨b2, us2, tt3, hT2, hh2, _, hr2, _⟩ := hs.g.obj m _ hM
 have hs2 := hs.evd hE hg'
 have hTT : E'.T m = E.T m := by
  obtain ⟨ver1, wv1, val1, q1, q2, q3⟩ := hE.T m (hs.g.lt m _ hT2) _ _ _ hT
  rw [hT2] at q1
  simp only [Option.some.injEq, Prod.mk.injEq] at q1
  obtain ⟨rfl, rfl, rfl⟩ := q1
  rw [hT, hT2, (q3 rfl).1]
 have e1 : us = us2 := by
  rw [hTT, hT2] at hT
  simp only [Option.some.injEq, Prod.mk.injEq, Value.pointer.injEq, Addr.mk.injEq, true_and, and_true] at hT
  subst hT
  rw [hh2] at hh
  simp only [Option.some.injEq, Obj.cells.injEq] at hh
  exact hh.1.symm
 subst e1
 refine g4 (fun _ _ _ hq => mn hE hq) (h E' w a ⟨hs.d.ev hE, hs.sz, hs2.t, ⟨hg'.nx, fun k o ho => ?_, hg'.lt, hg'.tb, hg'.ap, hg'.fresh, hg'.base⟩⟩)
 simp only [aj] at ho
 split at ho
 ·rename_i ek
  subst ek
  simp only [Option.some.injEq] at ho
  subst ho
  refine ⟨b, us, tt2, hT, hh, fun d hd => ?_, ⟨by rw [hr.1]; simp, fun j d v hd hv => ?_⟩, hL⟩
  ·rcases List.mem_or_eq_of_mem_set hd with hd | rfl
   ·exact hone d hd
   ·rfl
  ·rw [List.getElem?_set] at hd
   split at hd
   ·rename_i ej
    subst ej
    split at hd
    ·simp only [Option.some.injEq] at hd
     subst hd
     exact hl v (hr2.2 off _ v h0 hv)
    ·cases hd
   ·exact hr.2 j d v hd hv
 ·exact hg'.obj k o ho

/-- The length of a slice that is known as it is. -/
theorem mf {P : Program} {o : Oper} {st : St} {t : TypeId} {x : Operand} {a : Option Addr} {n cap : Nat} {e : TypeId} [Elt P t e] (ho : o.op = .call { callee := .builtin .len, args := #[x], argTypes := #[t] }) (hx : evC st x = .v (.slice a n cap)) (hn : n ≤ 9223372036854775807) : NStep P o st (.v (.int .i64 (n : Int))) := fun E w ac hs => by
 have e1 := (hx ▸ hs.ev x).v_inv
 generalize hv : ac.eval x = v at e1
 subst e1
 refine ⟨_, .v (j1 ⟨by omega, by omega⟩), fun w' => ?_⟩
 have q1 := Elt.spec (P := P) (t := t) (e := e)
 simp [execOp, ho, hv, resolve, invoke, builtin, Builtin.len_, run_underlying q1, goInt]
section
variable {P : Program} {st : St}
theorem ub9 {fn : Func} {r1 r2 r3 : ResultVar} {r s t c1 c2 c3 : C} {G : Nat → Option GObj} {nx : Nat} (hf : fn.results = #[r1, r2, r3]) (h1 : RV P st r1 c1) (h2 : RV P st r2 c2) (h3 : RV P st r3 c3) (hn : nx ≤ st.nx) (hG : ∀ n o, G n = some o → st.G n = some o) (e1 : Wk c1 r) (e2 : Wk c2 s) (e3 : Wk c3 t) : mz P fn (.tup [r, s, t]) G nx .ret st :=
 ⟨ugf hf (h1.wk e1) (h2.wk e2) (h3.wk e3), hn, hG⟩
end
end Go.AB
namespace Go.AB
open Go Go.RowKit
open Go.AB.Enc (cells)
variable {ρ : Option Nat}
def u8s (s : ByteArray) : List U8 := s.data.toList.map fun b => ⟨(b.toNat : Int)⟩
theorem qu (s : ByteArray) : (u8s s).length = s.size := by simp [u8s]
section
variable {P : Program} {o : Oper} {st : St} {K : St → Prop}
theorem uju {src dst e : TypeId} [StrT P src] [Elt P dst e] {x : Operand} {s : ByteArray} (he : P.underlying e = some (.int .u8)) (ho : o.op = .convert src dst x) (hx : evC st x = .v (.string s)) (h : K (st.put o.dst (lst (u8s s)))) : EStep P o st K := ji fun E w a hs => by
 have hr := hx ▸ hs.ev x
 have e1 := hr.v_inv
 rw [e1] at hr
 have hsz : s.size ≤ 9223372036854775807 := by
  cases hr with | v h => exact okV_str.1 h
 have hrun := run_bytes_of_string (P := P) w src dst e s StrT.spec Elt.spec he
 have hcap : s.size ≤ grownCap w s.size 0 e := grownCap_ge w _ _ _
 have hcm : grownCap w s.size 0 e ≤ maxLen := grownCap_le_maxLen w _ _ _ (by simpa [maxLen] using hsz)
 generalize hc : grownCap w s.size 0 e = cap at hrun hcap hcm
 obtain ⟨ob, hob⟩ : ∃ ob, ob = Obj.cells (bytesRow s cap) e ((bytesRow s cap).size, (bytesRow s cap).size + 1) := ⟨_, rfl⟩
 rw [← hob] at hrun
 have hcell : ∀ j, (w.drew.alloc ob).cell? ⟨w.heap.size, j, none⟩ = (bytesRow s cap)[j]? := fun j => by
  rw [hob]
  exact World.cell?_alloc_mark w.drew (bytesRow s cap) e _ j
 have hrow : ∀ (j : Nat) (x : U8), (u8s s)[j]? = some x → (bytesRow s cap)[j]? = some (.int .u8 x.v) ∧ okV (.int .u8 x.v) = true := fun j x hj => by
  have hl := (List.getElem?_eq_some_iff.1 hj).1
  rw [qu] at hl
  unfold u8s at hj
  rw [List.getElem?_map, Array.getElem?_toList, Array.getElem?_eq_getElem hl] at hj
  simp only [Option.map_some, Option.some.injEq] at hj
  subst hj
  refine ⟨?_, uhl ⟨by simp, by have := (s.data[j] : UInt8).toNat_lt; simp only; omega⟩⟩
  unfold bytesRow
  rw [Array.getElem?_append_left (by simpa using hl), Array.getElem?_map, Array.getElem?_eq_getElem hl]
  rfl
 have hx0 : s.size = 0 ∨ ∃ v, (w.drew.alloc ob).cell? ⟨w.heap.size, 0, none⟩ = some v := by
  rcases Nat.eq_zero_or_pos s.size with h | h
  ·exact .inl h
  ·obtain ⟨x, hx⟩ : ∃ x, (u8s s)[0]? = some x := ⟨_, List.getElem?_eq_getElem (by rw [qu]; exact h)⟩
   exact .inr ⟨_, (hcell 0).trans (hrow 0 x hx).1⟩
 have hev := Ev.laid hs.g (o := ob) s.size (.inr rfl) hx0
 refine ⟨.slice (some ⟨w.heap.size, 0, none⟩) s.size cap, w.drew.alloc ob, _, st.G, st.nx, lst (u8s s), ?_, hev, ?_, SimG.laid hs.g _ (.inr rfl) hx0, h⟩
 ·simp [execOp, ho, e1, hrun]
 ·have := R.mk_list (E := E.lay w.heap.size s.size) (w := w.drew.alloc ob) (rows := (u8s s).map cells) (a := some ⟨w.heap.size, 0, none⟩) (cap := cap) (sz := 1) (us := (u8s s).map fun x => .int .u8 x.v) (tok := .none) (by rw [List.length_map, qu]; exact hcap) hcm (Nat.le_refl _) (fun r hr => by
   obtain ⟨x, _, rfl⟩ := List.mem_map.1 hr; rfl) (fun r hr c hc => by
   obtain ⟨x, _, rfl⟩ := List.mem_map.1 hr
   exact Enc.one x c hc) ⟨by
    have : ∀ l : List U8, ((l.map cells).flatten).length = l.length := fun l => by rw [ly (mj l)]; simp [Enc.n]
    rw [this]; simp, fun j c v hc hv => by
    rw [List.getElem?_map] at hv
    cases hj : (u8s s)[j]? with
    | none => rw [hj] at hv; cases hv
    | some x =>
     rw [hj] at hv
     simp only [Option.map_some, Option.some.injEq] at hv
     subst hv
     have h1 := uj (rows := (u8s s).map cells) (s := 1) (k := j) (j := 0) (c := .v (.int .u8 x.v)) (mj (u8s s)) (c7 hj) rfl
     rw [Nat.mul_one, Nat.add_zero] at h1
     rw [h1] at hc
     cases hc
     exact .v (hrow j x hj).2⟩ (.inr ⟨w.heap.size, 0, rfl, by
    simp only [Env.lay, if_true, List.length_map, qu]; omega, fun j u hu => by
    rw [List.getElem?_map] at hu
    cases hj : (u8s s)[j]? with
    | none => rw [hj] at hu; cases hu
    | some x =>
     rw [hj] at hu
     simp only [Option.map_some, Option.some.injEq] at hu
     subst hu
     rw [Nat.zero_add, hcell j]
     exact (hrow j x hj).1⟩) (by simp) (by simp) (by simp)
  rw [List.length_map, qu] at this
  exact this
end
instance : KeyV Int where
 kv x := .int .i64 x
 kc x := .v (.int .i64 x)
 inv h := h.v_inv
 inj h := by simpa using h
 any h _ _ := by cases h with | v h => exact .v h
theorem ua {E : Env} {w : World} {x : Int} {v : Value} (h : R E w (.v (.int .i64 x)) v) : -9223372036854775808 ≤ x ∧ x ≤ 9223372036854775807 := by
 cases h with | v h => exact uaj h
theorem tz {x : Int} (h : -9223372036854775808 ≤ x ∧ x ≤ 9223372036854775807) : (Lit.int .i64 x).wf = true := by
 simp [Lit.wf, IntKind.min, IntKind.max, IntKind.signed, IntKind.bits]; omega
/-- What a map has for a key, or nothing. -/
theorem td {P : Program} {o : Oper} {st : St} {α : Type} [KeyV α] {D : Nat → Prop} {t k e : TypeId} [MapT P t k e] [KeyT P k α] {x i : Operand} {n wv : Nat} {m : α → Option C} {c : C} {z : Value} [Zero P e z] (key : α) (ho : o.op = .lookup t x i false) (hx : evC st x = .map n) (hG : st.G n = some (gp P k wv m)) (hD : D n) (hi : evC st i = KeyV.kc key) (hm : (m key).getD (mr z) = c) : SStep P D o st c := by
 subst hm
 exact ufy key ho hx hG hD hi rfl
theorem gn {P : Program} {α : Type} [KeyV α] {k : TypeId} {wv n : Nat} {m : α → Option C} (h : ∀ x c, m x = some c → C.low n c) : (gp P k wv m).low n := by
 intro x c hx
 by_cases hex : ∃ y : α, x = KeyV.kv y
 ·obtain ⟨y, rfl⟩ := hex
  rw [g9] at hx
  exact h y c hx
 ·rw [rr _ hex] at hx; cases hx
theorem ug {P : Program} {α : Type} [KeyV α] {k : TypeId} {wv n cl : Nat} {β : Value → Nat} {m : α → Option C} (h : ∀ x c, m x = some c → C.low n c) : (mq P k wv m β cl).low n := by
 intro x c hx
 by_cases hex : ∃ y : α, x = KeyV.kv y
 ·obtain ⟨y, rfl⟩ := hex
  rw [g9] at hx
  exact h y c hx
 ·rw [rr _ hex] at hx; cases hx
end Go.AB
namespace Go.AB
open Go Go.RowKit
open Go.AB.Enc (cells)
theorem zG {p : Prop} (h : p := by (try dsimp only); repeat (first | exact ma _ _ _ | assumption | rw [gt (by omega)] | rw [kg (by omega)])) : p := h
theorem zN {p : Prop} (h : p := by first | exact Nat.le_refl _ | omega | (simp; try omega)) : p := h
theorem zS {p : Prop} (h : p := by intro n o h; first | exact h | (have := hlt n o h; (try dsimp only); repeat (first | exact h | rw [gt (by omega)] | rw [kg (by omega)]))) : p := h
theorem zX {p : Prop} (h : p := by (repeat' (refine ue3 (by (try dsimp only); repeat (first | exact ma _ _ _ | assumption | rw [gt (by omega)] | rw [kg (by omega)])) ?_)); (intro n o h; first | exact h | (have := hlt n o h; (try dsimp only); repeat (first | exact h | rw [gt (by omega)] | rw [kg (by omega)])))) : p := h
theorem zL {p : Prop} (h : p := by (try dsimp only); repeat' (first | exact trivial | refine ⟨?_, ?_⟩ | exact .v | exact .any | refine .elem ?_ | exact bd _ _ | exact e8 _ _ | exact dz _ _ | exact fe _ (by (try dsimp only); omega) | exact .box (by (try dsimp only); omega) | exact em | exact cv | refine fg ?_ ?_ | exact .arr (by (try dsimp only); omega) | exact .own (by (try dsimp only); omega) | exact .map (by (try dsimp only); omega) | exact ec _ | refine bn ?_ ?_ | exact bd _ _)) : p := h
theorem zH {p : Prop} (h : p := by (repeat' (refine jt ?_ (by (try dsimp only); omega) ?_)); all_goals (first | exact ju (by intro n o h; first | exact h | (have := hlt n o h; (try dsimp only); repeat (first | exact h | rw [gt (by omega)] | rw [kg (by omega)]))) | (repeat' (first | exact trivial | refine ⟨?_, ?_⟩ | exact .v | exact .any | refine .elem ?_ | exact bd _ _ | exact e8 _ _ | exact dz _ _ | exact fe _ (by (try dsimp only); omega) | exact .box (by (try dsimp only); omega) | exact em | exact cv | refine fg ?_ ?_ | exact .arr (by (try dsimp only); omega) | exact .own (by (try dsimp only); omega) | exact .map (by (try dsimp only); omega) | exact ec _ | refine bn ?_ ?_ | exact bd _ _)))) : p := h
theorem zF {p : Prop} (h : p := by repeat' (first | exact trivial | refine ⟨?_, ?_⟩ | exact .inr rfl | exact .inl rfl | exact .inr (congrArg C.v (congrArg (Value.int _) (by simp; try omega))))) : p := h
theorem zB {p : Prop} (h : p := by first | exact .inl rfl | (refine .inr ?_; repeat' (first | exact trivial | refine ⟨?_, ?_⟩ | exact .inr rfl | exact .inl rfl | exact .inr (congrArg C.v (congrArg (Value.int _) (by simp; try omega)))))) : p := h
theorem zD {p : Prop} (h : p := by repeat (first | exact yz | refine y4 (by (try dsimp only [St.put]); exact (by (try dsimp only); repeat (first | exact ma _ _ _ | assumption | rw [gt (by omega)] | rw [kg (by omega)]))) (by (try dsimp only [St.put]); exact (by (try dsimp only); repeat (first | exact ma _ _ _ | assumption | rw [gt (by omega)] | rw [kg (by omega)]))) rfl ?_)) : p := h
theorem zA {p : Prop} (h : p := by first | omega | (simp only [List.length_take, List.length_cons, List.length_nil, List.length_append, List.length_map]; omega) | (simp; omega)) : p := h
theorem zO {p : Prop} (h : p := by first | (simp; done) | (simp; omega) | exact Nat.lt_of_lt_of_eq (by decide) (Enc.len _).symm) : p := h
theorem zE {p : Prop} (h : p := by first | rfl | simp) : p := h
theorem zC {p : Prop} (h : p := by first | exact List.cons_ne_nil _ _ | (simp; done) | (simp [putAt]; done)) : p := h
def rl : List Nat → List Bool
  | [] => []
  | [a] => List.replicate a true
  | a :: b :: r => List.replicate a true ++ (List.replicate b false ++ rl r)
theorem zQ {p q : Prop} (h : q) (e : p = q := by (simp only [firsts, ca, Nat.reduceAdd, List.getD_cons_zero, List.getD_cons_succ, List.getD_nil, uhw, Nat.reduceBEq, cond_true, cond_false]) <;> rfl) : p := e ▸ h
theorem zR {p : Prop} (h : p := by first | (simp; done) | (intro r hr; simp only [List.mem_cons, List.not_mem_nil, or_false] at hr; first | (subst hr; rfl) | (rcases hr with hr | hr <;> (subst hr; rfl)) | (rcases hr with hr | hr | hr <;> (subst hr; rfl)) | (rcases hr with hr | hr | hr | hr <;> (subst hr; rfl)))) : p := h
theorem zW {p : Prop} (h : p := by repeat' (first | exact Wk.refl _ | exact Wk.tok | refine Wk.agg ?_ | refine ⟨?_, ?_⟩ | exact trivial)) : p := h
section
variable {ρ : Option Nat} {P : Program} {ops : Array Oper} {K : St → Prop} {rest : List Oper} {o : Oper} {st : St} {Q : Exit → St → Prop} {x : Operand} {c : C}
theorem yM (ho : o.op = .move x) (hg : eo ops st o = some true) (h : fp ρ P ops K rest (st.put o.dst c)) (hx : Is (evC st x) c := by constructor) : fp ρ P ops K (o :: rest) st := aa hg (ar ho hx) h
theorem yA (ho : o.op = .assign x) (hg : eo ops st o = some true) (h : fp ρ P ops K rest (st.put o.dst c)) (hx : Is (evC st x) c := by constructor) : fp ρ P ops K (o :: rest) st := aa hg (bq ho hx) h
theorem yL {t : TypeId} {cs : List C} [Ty P t false 1] (ho : o.op = .load t x) (hg : eo ops st o = some true) (hx : evC st x = .elem (c :: cs)) (h : fp ρ P ops K rest (st.put o.dst c)) : fp ρ P ops K (o :: rest) st := ae hg (bw ho hx) h
theorem yE {α : Type} [Enc α] {t : TypeId} {a : α} [Ty P t true (Enc.n α)] (ho : o.op = .load t x) (hg : eo ops st o = some true) (hx : evC st x = .elem (cells a)) (h : fp ρ P ops K rest (st.put o.dst (.agg (cells a)))) : fp ρ P ops K (o :: rest) st := ae hg (bh ho hx (Enc.len a)) h
theorem yX {i : Nat} {cs : List C} (ho : o.op = .extract x i) (hg : eo ops st o = some true) (hx : evC st x = .tup cs) (hc : cs[i]? = some c) (h : fp ρ P ops K rest (st.put o.dst c)) : fp ρ P ops K (o :: rest) st := aa hg (gg ho hx hc) h
theorem yF {t : TypeId} {f off : Nat} {ft : TypeId} [Fld P t f off ft] {cs : List C} {d : C} {ds : List C} (ho : o.op = .fieldAddr t x f) (hg : eo ops st o = some true) (hx : evC st x = .elem cs) (hd : cs.drop off = d :: ds) (h : fp ρ P ops K rest (st.put o.dst (.elem (d :: ds)))) : fp ρ P ops K (o :: rest) st := aa hg (c6 ho hx hd) h
theorem yB {e : TypeId} {cs : List C} (ho : o.op = .box e x) (hg : eo ops st o = some true) (hx : i4 (evC st x) = some cs) (h : fp ρ P ops K rest (st.put o.dst (.elem cs))) (hne : cs ≠ [] := by simp) : fp ρ P ops K (o :: rest) st := ab hg (uco ho hx hne h)
theorem yK (hg : eo ops st o = some false) (h : fp ρ P ops K rest (st.put o.dst (.tup []))) : fp ρ P ops K (o :: rest) st := cz hg h
theorem yN (h : K st) : fp ρ P ops K [] st := bf h
theorem yR {id : Nat} {l : List Oper} (h : fp ρ P l.toArray (Q .normal) l st) : AW ρ P (.region id l.toArray false) Q st := bj h
theorem yS {x y : Code} (h : ∀ K : St → Prop, (∀ st', AW ρ P y Q st' → K st') → AW ρ P x (n4 K Q) st) : AW ρ P (.seq x y) Q st := br h
end
section
variable {P : Program} {ol : List Oper} {K : St → Prop} {D : List Nat} {late Ef N : Nat → Bool} {i : Nat} {π : List (Nat × Option Nat)} {o : Oper} {st : St} {c : C} {x : Operand}
theorem xM (ho : o.op = .move x) (hE : Ef i = false) (hN : N i = true) (hol : ol[i]? = some o) (hg : eo ol.toArray st o = some true) (h : iu P ol.toArray K D late Ef N π (st.put o.dst c)) (hx : Is (evC st x) c := by constructor) : iu P ol.toArray K D late Ef N ((i, none) :: π) st := ai hE hN hol hg (ar ho hx) h
end
end Go.AB
namespace Go.AB
open Go Go.RowKit
variable {p : Program}

def RGe {α : Type} (d : Nat) : Result α → Prop
 | .ok _ w => d ≤ w.drawn
 | .halt _ w => d ≤ w.drawn
theorem RGe.le {α : Type} {d e : Nat} {r : Result α} (h : RGe e r) (hde : d ≤ e) : RGe d r := by
 cases r <;> exact Nat.le_trans hde h

theorem x5 {α : Type} : ∀ (x : Ask α) (w : World), w.drawn ≤ (w.ask x).2.drawn
 | .done _, _ => Nat.le_refl _
 | .ask what range k, w => by
  unfold World.ask
  dsimp only
  split
  ·exact x5 (k 0) w
  ·exact Nat.le_trans (Nat.le_succ _) (x5 (k _) { w with drawn := w.drawn + 1 })
theorem ue2 (w : World) (c : Sys) : w.drawn ≤ (w.sys c).2.drawn := by
 unfold World.sys
 have h := x5 (Kernel.perform c w.os) w
 split
 ·exact Nat.le_refl _
 ·rename_i e
  rw [e] at h
  exact h
theorem uem {w w' : World} {at_ k : Addr} {u : TypeId} {v : Value} {b : Bool} {l : List Addr} (h : w.viewStore p at_ u k v b = .ok (w', l)) : w'.drawn = w.drawn := by
 unfold World.viewStore at h
 simp only [bind, Except.bind, pure, Except.pure, throw, throwThe, MonadExceptOf.throw] at h
 repeat' (first | (cases h; done) | split at h)
 all_goals (first | (cases h; rfl) | (simp only [Except.ok.injEq, Prod.mk.injEq] at h; obtain ⟨rfl, _⟩ := h; rfl))
theorem ujg {w w' : World} {a : Addr} {v : Value} {b : Bool} {l : List Addr} (h : w.farStore p a v b = .ok (w', l)) : w'.drawn = w.drawn := by
 unfold World.farStore at h
 split at h
 ·split at h
  ·rename_i e
   cases h
   exact uem e
  ·cases h
 ·cases h
theorem ui6 (w : World) (a : Addr) (n : Nat) : (w.freeze a n).drawn = w.drawn := by
 unfold World.freeze
 split <;> rfl

theorem tf {α : Type} (s : Sem α) : ∀ w : World, RGe w.drawn (s.run p w) := by
 induction s with
 | pure a => exact fun w => Nat.le_refl _
 | load m a k ih =>
  intro w
  simp only [Sem.run]
  split
  ·exact ih _ w
  ·split
   ·exact ih _ w
   ·exact Nat.le_refl _
 | store m a v k ih =>
  intro w
  cases v
  all_goals simp only [Sem.run]
  all_goals (first | exact Nat.le_refl _ | skip)
  all_goals split
  all_goals split
  all_goals (first | exact Nat.le_refl _ | exact ih (w.setCell a _) | (rename_i e; exact (ih _).le (Nat.le_of_eq (ujg e).symm)))
 | new o k ih => exact fun w => ih _ { w with heap := w.heap.push o }
 | shape r k ih => exact fun w => ih _ w
 | freeze a n k ih => exact fun w => (ih (w.freeze a n)).le (Nat.le_of_eq (ui6 w a n).symm)
 | frozen a k ih => exact fun w => ih _ w
 | getObj r k ih =>
  intro w
  simp only [Sem.run]
  split
  ·exact Nat.le_refl _
  ·exact ih _ w
  ·exact Nat.le_refl _
 | setObj r o k ih =>
  intro w
  simp only [Sem.run]
  split
  ·exact Nat.le_refl _
  ·exact ih { w with heap := w.heap.setIfInBounds r o }
  ·exact Nat.le_refl _
 | choose q k ih =>
  intro w
  simp only [Sem.run]
  split
  ·exact ih _ w
  ·exact (ih _ { w with drawn := w.drawn + 1 }).le (Nat.le_succ _)
 | sys c k ih => exact fun w => (ih _ (w.sys c).2).le (ue2 w c)
 | program k ih => exact fun w => ih p w
 | mark m k ih => exact fun w => ih w
 | halt h => exact fun w => Nat.le_refl _
theorem uf2 {α : Type} (s : Sem α) : ∀ (w : World) (es : Array Event), (s.runT p w es).1 = s.run p w := by
 induction s with
 | pure a => exact fun w es => rfl
 | load m a k ih =>
  intro w es
  simp only [Sem.run, Sem.runT]
  split
  ·exact ih _ _ _
  ·split
   ·exact ih _ _ _
   ·rfl
 | store m a v k ih =>
  intro w es
  cases v
  all_goals simp only [Sem.run, Sem.runT]
  all_goals (first | done | skip)
  all_goals split
  all_goals split
  all_goals (first | rfl | exact ih _ _)
 | new o k ih => exact fun w es => ih _ _ _
 | shape r k ih => exact fun w es => ih _ _ _
 | freeze a n k ih => exact fun w es => ih _ _
 | frozen a k ih => exact fun w es => ih _ _ _
 | getObj r k ih =>
  intro w es
  simp only [Sem.run, Sem.runT]
  split
  ·rfl
  ·exact ih _ _ _
  ·rfl
 | setObj r o k ih =>
  intro w es
  simp only [Sem.run, Sem.runT]
  split
  ·rfl
  ·exact ih _ _
  ·rfl
 | choose q k ih =>
  intro w es
  simp only [Sem.run, Sem.runT]
  split
  ·exact ih _ _ _
  ·exact ih _ _ _
 | sys c k ih => exact fun w es => ih _ _ _
 | program k ih => exact fun w es => ih _ _ _
 | mark m k ih => exact fun w es => ih _ _
 | halt h => exact fun w es => rfl
theorem mb {α : Type} (s : Sem α) (w : World) (es : Array Event) : RGe w.drawn (s.runT p w es).1 := by
 rw [uf2]; exact tf s w

theorem i7 {α : Type} {s : Sem α} {w w1 : World} {a : α} (h : s.run p w = .ok a w1) : w.drawn ≤ w1.drawn := by
 have := tf (p := p) s w
 rw [h] at this
 exact this
theorem rp {α : Type} {s : Sem α} {w w1 : World} {a : α} {es es' : Array Event} (h : s.runT p w es = (.ok a w1, es')) : w.drawn ≤ w1.drawn := by
 have := mb (p := p) s w es
 rw [h] at this
 exact this
theorem wr {α : Type} {s : Sem α} {w w1 : World} {a : Halt} {es es' : Array Event} (h : s.runT p w es = (.halt a w1, es')) : w.drawn ≤ w1.drawn := by
 have := mb (p := p) s w es
 rw [h] at this
 exact this

theorem tq {α : Type} {s : Sem α} {w w1 : World} {a : α} {es : Array Event} (h : (s.runT p w es).1 = .ok a w1) : w.drawn ≤ w1.drawn := by
 have := mb (p := p) s w es
 rw [h] at this
 exact this
theorem uho {α : Type} {s : Sem α} {w w1 : World} {a : Halt} {es : Array Event} (h : (s.runT p w es).1 = .halt a w1) : w.drawn ≤ w1.drawn := by
 have := mb (p := p) s w es
 rw [h] at this
 exact this

def GGe (d : Nat) : GStep → Prop
 | .go _ w _ | .comm _ _ _ _ w _ | .spawn _ _ w _ | .count _ w _ | .timer _ _ w _ | .alone _ _ w _ | .newcoro _ _ _ w _ | .coroswitch _ _ _ w _ | .collect _ w _ | .watch _ w _ => d ≤ w.drawn
 | .ended _ _ _ => True
theorem qk {d : Nat} {es : Array Event} {g : GStep} (h : GGe d g) : GGe d (GStep.after es g) := by cases g <;> exact h
theorem uiy {d : Nat} {c : Prop} [Decidable c] {a b : GStep} (ha : GGe d a) (hb : GGe d b) : GGe d (if c then a else b) := by split <;> assumption
theorem ujo {β : Type} {d : Nat} {o : Option β} {a : GStep} {f : β → GStep} (ha : GGe d a) (hf : ∀ x, GGe d (f x)) : GGe d (o.elim a f) := by
 cases o
 ·exact ha
 ·exact hf _
theorem ucb {d : Nat} {fr : Frame} {m : String} {w : World} (h : d ≤ w.drawn) : GGe d (endThrow fr m w) := h
theorem ucc {d : Nat} {fr : Frame} {v : Value} {w : World} (h : d ≤ w.drawn) : GGe d (endPrinting p fr v w) := by
 unfold endPrinting
 dsimp only
 split
 ·exact h
 ·trivial
theorem ucd {fr : Frame} {cs : List Frame} {dy : Option Dying} {m : String} {w : World} {d : Nat} (h : d ≤ w.drawn) : GGe d (endFatal p fr cs dy m w) := by
 unfold endFatal
 dsimp only
 split
 ·rename_i e
  exact Nat.le_trans h (i7 e)
 ·trivial
 ·trivial
theorem ujn {d : Nat} {fd : Nat} {text : ByteArray} {o : Outcome} {w : World} : GGe d (endWith w fd text o) := by
 unfold endWith
 dsimp only
 split
 ·split <;> trivial
 ·trivial
 ·trivial
theorem ud4 {fr : Frame} {dy : Dying} {f : Fatal} {w : World} : GGe w.drawn (writeOn p fr dy f w) := by
 unfold writeOn
 dsimp only
 split
 ·trivial
 ·split
  ·rename_i e
   first | exact rp e | exact wr e
  ·rename_i e
   first | exact rp e | exact wr e
  ·trivial
  ·trivial
theorem uj1 {fr : Frame} {dy : Dying} {w : World} : GGe w.drawn (die p fr dy w) := by
 unfold die
 dsimp only
 split
 ·exact ud4
 ·split
  ·split
   ·exact Nat.le_refl _
   ·exact ujn
  ·split
   ·exact Nat.le_refl _
   ·split
    ·rename_i e
     exact i7 e
    ·trivial
   ·refine qk ?_
    rename_i t recv name _
    have key := mb (p := p) (invoke (.fn (.method name) #[]) #[.iface t recv]) w #[]
    split <;> first | trivial | (rename_i e; rw [e] at key; first | exact key | exact ucc key)
   ·trivial
theorem uo {main : Bool} {fr : Frame} {cs : List Frame} {dy : Option Dying} {v : Value} {w : World} {d : Nat} (h : d ≤ w.drawn) : GGe d (doReturn p main fr cs dy v w) := by
 unfold doReturn
 dsimp only
 repeat' (first | exact h | trivial | split)
theorem ukj {fr : Frame} {cs : List Frame} {dy : Option Dying} {de : Deferred} {w : World} : GGe w.drawn (callDeferred p fr cs dy de w) := by
 unfold callDeferred
 dsimp only
 refine uiy trivial ?_
 ·refine qk ?_
  have key := mb (p := p) (invoke de.target de.args) w #[]
  generalize (invoke de.target de.args).runT p w #[] = r at key ⊢
  obtain ⟨r, es⟩ := r
  dsimp only at key ⊢
  split <;> first | exact key | trivial | exact ucd key | exact ucb key | (split <;> first | exact key | trivial)
theorem ueo {main : Bool} {fr : Frame} {cs : List Frame} {dy : Option Dying} {w : World} : GGe w.drawn (unwind p main fr cs dy w) := by
 unfold unwind
 split
 ·rename_i block _ ds _
  refine qk ?_
  have key := mb (p := p) (Instr.takeDeferred block) w #[]
  split <;> first | trivial | (rename_i e; rw [e] at key; exact key)
 ·exact ukj
 ·split
  ·trivial
  ·split
   ·trivial
   ·split
    ·exact Nat.le_refl _
    ·split
     ·split
      ·exact Nat.le_refl _
      ·split
       ·rename_i e
        exact i7 e
       ·trivial
       ·trivial
     ·split
      ·exact ucc (Nat.le_refl _)
      ·trivial
  ·split
   ·exact uo (Nat.le_refl _)
   ·rename_i fn _
    refine qk ?_
    have key := mb (p := p) (results fn fr.tmps) w #[]
    split <;> first | trivial | (rename_i e; rw [e] at key; exact uo key)
theorem ucf {fr : Frame} {cs : List Frame} {dy : Option Dying} {g : Nat} {w : World} {d : Nat} (h : d ≤ w.drawn) : GGe d (early p fr cs dy g w) := by
 unfold early
 dsimp only
 repeat' (first | exact h | trivial | split)
 all_goals (have key := tf (p := p) (choose (.early g)) w; simp only [*] at key; exact Nat.le_trans h key)
end Go.AB
namespace Go.AB
open Go Go.RowKit
variable {p : Program}

theorem sj {listen : Bool} {fr : Frame} {cs : List Frame} {dy : Option Dying} {s : Sem Next} {w : World} {d : Nat} (hd : d ≤ w.drawn) : GGe d (stepG.apply p listen fr cs dy s w) := by
 unfold stepG.apply
 have key : RGe d (if listen then s.runT p w #[] else (s.run p w, #[])).1 := by
  split
  ·exact (mb s w #[]).le hd
  ·exact (tf s w).le hd
 dsimp only
 generalize (if listen then s.runT p w #[] else (s.run p w, #[])) = r at key ⊢
 obtain ⟨r, es⟩ := r
 dsimp only at key ⊢
 refine qk ?_
 split <;> first | exact key | trivial | exact ucd key | exact ucb key | exact ucf key | (repeat' (first | exact key | exact ucf key | trivial | split))
theorem uhh {listen : Bool} {fr : Frame} {cs : List Frame} {dy : Option Dying} {w : World} : GGe w.drawn (stepG.oper p listen fr cs dy w) := by
 unfold stepG.oper
 split
 ·trivial
 ·split <;> exact sj (Nat.le_refl _)
theorem uji {main listen : Bool} {fr : Frame} {cs : List Frame} {dy : Option Dying} {w : World} : GGe w.drawn (stepG.exec p main listen fr cs dy w) := by
 unfold stepG.exec
 dsimp only
 repeat' (first | exact Nat.le_refl _ | trivial | exact sj (Nat.le_refl _) | exact sj (tq (by assumption)) | refine ujo ?_ (fun _ => ?_) | refine qk ?_ | exact uhh | split)
 all_goals (try subst_vars)
 all_goals (first | exact sj (tq (by assumption)) | exact uo (tq (by assumption)) | exact (tq (by assumption) : w.drawn ≤ _) | exact (uho (by assumption) : w.drawn ≤ _) | exact sj (rp (by assumption)) | exact uo (rp (by assumption)) | exact (rp (by assumption) : w.drawn ≤ _) | exact (wr (by assumption) : w.drawn ≤ _) | exact (i7 (by assumption) : w.drawn ≤ _))
theorem ufc {main listen : Bool} {g : Goroutine} {w : World} : GGe w.drawn (stepG p main g w listen) := by
 unfold stepG
 dsimp only
 split
 ·exact uj1
 ·exact uji
 ·exact ueo

/-! ### The machine -/
def SGe (d : Nat) : Stepped → Prop
 | .next m => d ≤ m.world.drawn
 | .ended _ _ => True
theorem w8 {gs : Array Goroutine} {rest : Rest} {w : World} {d : Nat} (h : d ≤ w.drawn) : SGe d (look p gs rest w) := by
 unfold look
 dsimp only
 split
 ·split
  ·trivial
  ·split
   ·trivial
   ·split
    ·rename_i e
     first
     | exact h
     | (have h2 := Nat.le_trans h (i7 e); exact h2)
    ·first | trivial | exact h | (rename_i e; exact Nat.le_trans h (i7 e))
    ·trivial
 ·trivial
theorem uel {rest : Rest} {cases : Array CommCase} {w w1 : World} (h : waitingAt rest cases w = some w1) : w1.drawn = w.drawn := by
 unfold waitingAt at h
 split at h
 ·split at h
  ·cases h; rfl
  ·cases h
 ·cases h; rfl
theorem uj2 {rest : Rest} {gs : Array Goroutine} {i : Nat} {g : Goroutine} {cases : Array CommCase} {blocking : Bool} {shape : CommShape} {w : World} {d : Nat} (h : d ≤ w.drawn) : SGe d (communicate p rest gs i g cases blocking shape w).1 := by
 unfold communicate
 dsimp only
 split
 ·trivial
 ·split
  ·split
   ·split
    ·rename_i e
     exact Nat.le_trans h (Nat.le_of_eq (uel e).symm)
    ·trivial
   ·exact h
  ·split
   ·trivial
   ·rename_i e
    have h2 := Nat.le_trans h (i7 e)
    repeat' (first | exact h2 | trivial | split)
    all_goals (have h3 := Nat.le_trans h2 (i7 (p := p) (by assumption)); exact h3)
theorem ujz (w : World) (c : Nat) : (drain w c).2.drawn = w.drawn := by
 unfold drain
 split <;> rfl
theorem zd (m : Machine) (k : Nat) (t : Timer) (x y : Nat) : (retime m k t x y).2.world.drawn = m.world.drawn := by
 unfold retime
 dsimp only
 split
 ·exact ujz _ _
 ·rfl
theorem ueu {m m1 : Machine} {op : TimerOp} {v : Value} (h : timerOp m op = .ok (v, m1)) : m1.world.drawn = m.world.drawn := by
 have named : ∀ (m0 : Machine) (var : Addr) (f : Nat → Timer → Value × Machine) (D : Nat), (∀ k t, (f k t).2.world.drawn = D) → timerOp.named m0 var f = .ok (v, m1) → m1.world.drawn = D := by
  intro m0 var f D hf h
  unfold timerOp.named at h
  split at h
  ·simp only [Except.ok.injEq] at h
   have := congrArg (fun z => z.2.world.drawn) h
   rw [← this]
   exact hf _ _
  ·cases h
 unfold timerOp at h
 dsimp only at h
 split at h
 ·split at h
  ·cases h; rfl
  ·split at h
   ·split at h
    ·cases h
    ·cases h; rfl
   ·cases h
 ·exact named _ _ _ _ (fun k t => zd _ _ _ _ _) h
 ·split at h
  ·rename_i e
   have h2 := named _ _ _ _ (fun k t => zd _ _ _ _ _) h
   rw [h2]
   unfold timerOp.opened at e
   split at e
   ·split at e
    ·cases e; rfl
    ·cases e
   ·cases e; rfl
  ·cases h
 ·cases h; rfl
theorem uf1 {m : Machine} {i : Nat} {listen : Bool} : SGe m.world.drawn (runT p m i listen).1 := by
 unfold runT
 have key := ufc (p := p) (main := i == 0) (listen := listen) (g := (m.gs.swapAt! i { (default : Goroutine) with status := .finished }).1) (w := m.world)
 dsimp only
 revert key
 generalize stepG p (i == 0) (m.gs.swapAt! i { (default : Goroutine) with status := .finished }).1 m.world listen = s
 intro key
 cases s <;> (try exact key)
 all_goals dsimp only
 all_goals (first | exact key | trivial | exact uj2 key | exact w8 key | skip)
 all_goals (repeat' (first | exact key | trivial | split))
 all_goals (first | (rename_i e; exact Nat.le_trans key (Nat.le_of_eq (ueu e).symm)) | (rename_i e; cases e; exact key))

def MGe (d : Nat) : Move → Prop
 | .goroutine m _ => d ≤ m.world.drawn
 | .machine s _ => SGe d s
theorem ufv {m : Machine} {k d : Nat} (h : d ≤ m.world.drawn) : SGe d (serve p m k) := by
 unfold serve
 dsimp only
 repeat' (first | exact h | trivial | split)
theorem x6 {m : Machine} {d : Nat} (h : d ≤ m.world.drawn) : MGe d (askOn p m) := by
 unfold askOn
 dsimp only
 split
 ·trivial
 ·rename_i e0
  have h0 := Nat.le_trans h (i7 e0)
  split
  ·exact ufv h0
  ·split
   ·split
    ·exact h0
    ·split
     ·exact h0
     ·split <;> trivial
   ·split
    ·split
     ·trivial
     ·rename_i e1
      have h1 := Nat.le_trans h0 (i7 e1)
      split
      ·exact h1
      ·split
       ·trivial
       ·rename_i e2
        have q := i7 e2
        exact Nat.le_trans h1 q
    ·split
     ·trivial
     all_goals (rename_i e1; have h1 := Nat.le_trans h0 (i7 e1))
     all_goals (first | exact h1 | skip)
     all_goals split
     all_goals (first | trivial | skip)
     all_goals (rename_i e2; have q2 := i7 e2; have h2 := Nat.le_trans h1 q2)
     all_goals split
     all_goals (first | exact h2 | skip)
     all_goals split
     all_goals (first | trivial | (rename_i e3; have q3 := i7 e3; exact Nat.le_trans h2 q3))
theorem udk {m : Machine} {d : Nat} (h : d ≤ m.world.drawn) : MGe d (ask p m) := by
 unfold ask
 split
 ·split
  ·trivial
  ·rename_i e
   have h1 := Nat.le_trans h (i7 e)
   split
   ·rename_i e2
    have := w8 (p := p) (gs := m.gs) (rest := m.rest) h1
    rw [e2] at this
    exact x6 this
   ·exact w8 h1
  ·rename_i e
   exact x6 (Nat.le_trans h (i7 e))
 ·exact x6 h
theorem uh2 {m : Machine} {d : Nat} (h : d ≤ m.world.drawn) : MGe d (move p m) := by
 unfold move
 split
 ·split
  ·exact h
  ·trivial
 ·split
  ·split
   ·exact h
   ·exact udk h
  ·exact udk h
theorem ufa {m : Machine} {d : Nat} (h : d ≤ m.world.drawn) : SGe d (step p m) := by
 unfold step stepT
 have key := uh2 (p := p) h
 generalize move p m = v at key ⊢
 cases v with
 | goroutine m1 i =>
  have k2 := uf1 (p := p) (m := m1) (i := i) (listen := true)
  dsimp only
  generalize (runT p m1 i true).1 = s at k2 ⊢
  cases s with
  | next m2 => exact Nat.le_trans key k2
  | ended => trivial
 | machine s ops => exact key
theorem za {d : Nat} : ∀ (n : Nat) (m m1 : Machine), d ≤ m.world.drawn → runN p n m = .next m1 → d ≤ m1.world.drawn
 | 0, m, m1, h, e => by simp only [runN, Stepped.next.injEq] at e; exact e ▸ h
 | n + 1, m, m1, h, e => by
  have key := ufa (p := p) h
  simp only [runN] at e
  split at e
  ·rename_i e2
   rw [e2] at key
   exact za n _ m1 key e
  ·rename_i h2
   exact (h2 _ e).elim
theorem ue9 {m m1 : Machine} (h : Steps p m m1) : m.world.drawn ≤ m1.world.drawn := by
 obtain ⟨n, hn⟩ := h
 exact za n m m1 (Nat.le_refl _) hn
/-- A call that comes back never takes back what was drawn. -/
theorem ukh {P : Program} {f : FuncId} {args : Array Value} {w : World} {R : Ending → World → Prop} (hr : ∀ e w', R e w' → ∃ v, e = .returned v) (h : Calls P f args w R) : Calls P f args w fun e w' => R e w' ∧ w.drawn ≤ w'.drawn := by
 intro cs
 obtain ⟨e, w', fr, h1, h2, h3, h4⟩ := h cs
 refine ⟨e, w', fr, ⟨h1, ?_⟩, h2, h3, h4⟩
 obtain ⟨v, rfl⟩ := hr e w' h1
 exact ue9 (p := P) h2
end Go.AB
namespace Go.PB
structure aq where
 id : Int
 lines : List (List ByteArray)
 deriving DecidableEq
abbrev ah := List aq
structure PlaceD where
 ch : Int
 ln : Int
 wd : Int
 deriving DecidableEq
structure av where
 pl : PlaceD
 kind : Int
 word : ByteArray
 deriving DecidableEq
structure ax where
 id : Int
 rs : List av
 deriving DecidableEq
/-- How lines may go on: a kind of readings; how many words of each are used. -/
structure aw where
 kind : Int
 one : Nat
 two : Nat
 deriving DecidableEq
end Go.PB
namespace Go.AB
open Go Go.RowKit
open Go.AB.Enc (cells)
open Go.PB (aq ah PlaceD av ax aw)


instance : Enc aq := ⟨fun x => [.v (.int .i64 x.id), lst x.lines], 2, fun _ => rfl, fun m x c h => by
 simp only [List.mem_cons, List.not_mem_nil, or_false] at h; rcases h with rfl | rfl; exact .v; exact bd m _, fun x c h => by
 simp only [List.mem_cons, List.not_mem_nil, or_false] at h; rcases h with rfl | rfl <;> rfl⟩
instance : Enc PlaceD := ⟨fun x => [.v (.int .i64 x.ch), .v (.int .i64 x.ln), .v (.int .i64 x.wd)], 3, fun _ => rfl, fun m x c h => by
 simp only [List.mem_cons, List.not_mem_nil, or_false] at h; rcases h with rfl | rfl | rfl <;> exact .v, fun x c h => by
 simp only [List.mem_cons, List.not_mem_nil, or_false] at h; rcases h with rfl | rfl | rfl <;> rfl⟩
/-- A struct by value. -/
def val {α : Type} [Enc α] (x : α) : C := .agg (cells x)
abbrev oe (t : ah) : C := .agg [lst t]

def I64 (n : Int) : Prop := -9223372036854775808 ≤ n ∧ n ≤ 9223372036854775807
theorem ui1 {n : Int} (h : (C.v (.int .i64 n)).fit) : I64 n := uaj (fit_v.1 h)
/-- lengths and numbers of a text that is read out of memory -/
structure udv (t : ah) : Prop where
 len : t.length ≤ 9223372036854775807
 id : ∀ c ∈ t, I64 c.id
 lines : ∀ c ∈ t, c.lines.length ≤ 9223372036854775807
 words : ∀ c ∈ t, ∀ l ∈ c.lines, l.length ≤ 9223372036854775807
 size : ∀ c ∈ t, ∀ l ∈ c.lines, ∀ s ∈ l, s.size ≤ 9223372036854775807
theorem yf {l : List ByteArray} (h : (lst l).fit) : l.length ≤ 9223372036854775807 ∧ ∀ s ∈ l, s.size ≤ 9223372036854775807 := by
 obtain ⟨h1, h2⟩ := fit_lst.1 h
 exact ⟨h1, fun s hs => okV_str.1 (fit_v.1 (h2 s hs _ (List.mem_cons_self ..)))⟩
theorem uev {t : ah} (h : (lst t).fit) : udv t := by
 obtain ⟨h1, h2⟩ := fit_lst.1 h
 have h3 : ∀ c ∈ t, (lst c.lines).fit := fun c hc => h2 c hc _ (List.mem_cons_of_mem _ (List.mem_cons_self ..))
 have h4 : ∀ c ∈ t, ∀ l ∈ c.lines, (lst l).fit := fun c hc l hl => (fit_lst.1 (h3 c hc)).2 l hl _ (List.mem_cons_self ..)
 exact ⟨h1, fun c hc => ui1 (h2 c hc _ (List.mem_cons_self ..)), fun c hc => (fit_lst.1 (h3 c hc)).1, fun c hc l hl => (yf (h4 c hc l hl)).1, fun c hc l hl => (yf (h4 c hc l hl)).2⟩
theorem uew {t : ah} (h : (oe t).fit) : udv t := uev (fit_agg.1 h _ (List.mem_cons_self ..))
/-! ### Lists -/
theorem jh {α : Type} {l : List α} {k : Nat} {x : α} (h : l[k]? = some x) : x ∈ l := List.mem_of_getElem? h
theorem iy {α : Type} {l : List α} {k : Nat} (h : l.length ≤ k) : l.take k = l := List.take_of_length_le h
theorem udn {α : Type} {l : List α} {k : Nat} {x : α} {p : α → Bool} (hx : l[k]? = some x) : (l.take (k + 1)).all p = ((l.take k).all p && p x) := by
 rw [List.take_add_one, hx]; simp
theorem uw {α : Type} {l : List α} {k : Nat} {x : α} {p : α → Bool} (hx : l[k]? = some x) (hp : p x = false) : l.all p = false :=
 List.all_eq_false.2 ⟨x, List.mem_of_getElem? hx, by simp [hp]⟩
theorem yk {α : Type} {a b : List α} {k : Nat} {x : α} (h : a.take k = b.take k) (ha : a[k]? = some x) (hb : b[k]? = some x) : a.take (k + 1) = b.take (k + 1) := by
 rw [List.take_add_one, List.take_add_one, h, ha, hb]
theorem uam {α : Type} {a b : List α} {k : Nat} {x y : α} (ha : a[k]? = some x) (hb : b[k]? = some y) (h : x ≠ y) : a ≠ b := fun e => by
 subst e; rw [ha] at hb; exact h (by simpa using hb)
theorem pt {α β : Type} {l : List α} {k : Nat} {x : α} {f : α → β} (hx : l[k]? = some x) : (l.take (k + 1)).map f = (l.take k).map f ++ [f x] := by
 rw [List.take_add_one, hx]; simp
theorem uhq {α β : Type} {l : List α} {j k : Nat} {x y : α} {f : α → β} (hj : l[j]? = some x) (hk : l[k]? = some y) (hlt : j < k) (hf : f x = f y) : ¬ (l.map f).Nodup := by
 intro h
 rw [List.Nodup, List.pairwise_iff_getElem] at h
 have h1 : (l.map f)[j]? = some (f x) := by simp [hj]
 have h2 : (l.map f)[k]? = some (f y) := by simp [hk]
 obtain ⟨hj', e1⟩ := List.getElem?_eq_some_iff.1 h1
 obtain ⟨hk', e2⟩ := List.getElem?_eq_some_iff.1 h2
 exact h j k hj' hk' hlt (by rw [e1, e2, hf])
theorem uhr {α : Type} {l : List α} {x : α} (h : l.Nodup) (hx : x ∉ l) : (l ++ [x]).Nodup := by
 rw [List.nodup_append]
 exact ⟨h, by simp, fun a ha b hb => by simp at hb; subst hb; exact fun e => hx (e ▸ ha)⟩
theorem w5 {α β : Type} {f : Nat → α → β} {l : List α} {k : Nat} {x : α} (h : l[k]? = some x) : (l.take (k + 1)).mapIdx f = (l.take k).mapIdx f ++ [f k x] := by
 have hlt := (List.getElem?_eq_some_iff.1 h).1
 rw [List.take_add_one, h, List.mapIdx_append]
 simp [List.length_take, Nat.min_eq_left (Nat.le_of_lt hlt)]
theorem w6 {α β : Type} (f : Nat → α → β) (l : List α) (k : Nat) : (l.take k).mapIdx f <+: l.mapIdx f := by
 refine ⟨(l.drop k).mapIdx fun i => f (i + (l.take k).length), ?_⟩
 rw [← List.mapIdx_append, List.take_append_drop]
theorem ubw {α : Type} {a b : List (List α)} (h : a <+: b) : a.flatten <+: b.flatten := by
 obtain ⟨r, rfl⟩ := h
 exact ⟨r.flatten, by simp⟩
/-! ### What the functions compute -/
/-- from lo to hi -/
def inB (n lo hi : Int) : Bool := decide (lo ≤ n) && decide (n ≤ hi)
theorem inB_true {n lo hi : Int} : inB n lo hi = true ↔ lo ≤ n ∧ n ≤ hi := by simp [inB]
def okc (c : UInt8) : Bool := decide (97 ≤ c.toNat) && decide (c.toNat ≤ 122)
def n9 (s : ByteArray) : Bool := inB s.size 1 12 && s.data.toList.all okc
def ne (l : List ByteArray) : Bool := inB l.length 1 10 && l.all n9
def nw (c : aq) : Bool := inB c.id 0 9999 && inB c.lines.length 1 10 && c.lines.all ne
def ff (t : ah) : Bool := inB t.length 1 6 && t.all nw && decide (t.map (·.id)).Nodup
end Go.AB
namespace Go.AB
open Go Go.RowKit
open Go.AB.Enc (cells)
open Go.PB (aq ah PlaceD av ax aw)

section
variable {E : Env} {w : World}
end

/-! ### All places, with their words -/
abbrev PW := PlaceD × ByteArray
def jv (k n : Nat) (l : List ByteArray) : List PW := l.mapIdx fun w s => (⟨k, n, w⟩, s)
def kh (k : Nat) (ls : List (List ByteArray)) : List PW := (ls.mapIdx fun n l => jv k n l).flatten
def ib (t : ah) : List PW := (t.mapIdx fun k c => kh k c.lines).flatten
theorem ucv (k : Nat) {ls : List (List ByteArray)} {n : Nat} {l : List ByteArray} (h : ls[n]? = some l) : kh k (ls.take (n + 1)) = kh k (ls.take n) ++ jv k n l := by
 unfold kh
 rw [w5 h, List.flatten_append]; simp
theorem udp {t : ah} {k : Nat} {c : aq} (h : t[k]? = some c) : ib (t.take (k + 1)) = ib (t.take k) ++ kh k c.lines := by
 unfold ib
 rw [w5 h, List.flatten_append]; simp
theorem uk8 (t : ah) (k : Nat) : ib (t.take k) <+: ib t := ubw (w6 _ _ _)
theorem uke (k : Nat) (ls : List (List ByteArray)) (n : Nat) : kh k (ls.take n) <+: kh k ls := ubw (w6 _ _ _)
theorem uig (k n : Nat) (l : List ByteArray) (w : Nat) : jv k n (l.take w) <+: jv k n l := w6 _ _ _
theorem uen {t : ah} {k n : Nat} {c : aq} {l : List ByteArray} (hc : t[k]? = some c) (hl : c.lines[n]? = some l) (w : Nat) : ib (t.take k) ++ kh k (c.lines.take n) ++ jv k n (l.take w) <+: ib t := by
 refine List.IsPrefix.trans ?_ (uk8 t (k + 1))
 rw [udp hc, List.append_assoc]
 refine (List.prefix_append_right_inj _).2 (List.IsPrefix.trans ?_ (uke k c.lines (n + 1)))
 rw [ucv k hl]
 exact (List.prefix_append_right_inj _).2 (uig k n l w)
end Go.AB
namespace Go.Proofs.YtgffhbbcpgdjjaaDoor
open Go Go.AB
instance : Ty Tryd.prog 3 false 1 := ⟨by kernel_rfl⟩
instance : ZeroC Tryd.prog 3 [.v (.int .i64 0)] := ⟨(.int .i64 0), by kernel_rfl, by rfl⟩
instance : Ty Tryd.prog 4 false 1 := ⟨by kernel_rfl⟩
instance : Zero Tryd.prog 4 (.bool false) := ⟨by kernel_rfl⟩
instance : ZeroC Tryd.prog 4 [.v (.bool false)] := ⟨(.bool false), by kernel_rfl, by rfl⟩
instance : Ty Tryd.prog 5 false 1 := ⟨by kernel_rfl⟩
instance : Ty Tryd.prog 9 false 1 := ⟨by kernel_rfl⟩
instance : StrT Tryd.prog 9 := ⟨by kernel_rfl⟩
instance : Ty Tryd.prog 22 false 1 := ⟨by kernel_rfl⟩
instance : Elt Tryd.prog 22 121 := ⟨by kernel_rfl⟩
instance : AppT Tryd.prog 22 121 2 32 := ⟨by kernel_rfl⟩
instance : Ty Tryd.prog 24 true 1 := ⟨by kernel_rfl⟩
instance : ZeroC Tryd.prog 24 [.list [] .nil] := ⟨(.agg #[(.slice none 0 0)]), by kernel_rfl, by rfl⟩
instance : Bld Tryd.prog 24 [(0, 1)] := ⟨by kernel_rfl⟩
instance : Fld Tryd.prog 24 0 0 22 := ⟨by kernel_rfl⟩
instance : Ty Tryd.prog 25 false 1 := ⟨by kernel_rfl⟩
instance : Elt Tryd.prog 25 71 := ⟨by kernel_rfl⟩
instance : AppT Tryd.prog 25 71 2 16 := ⟨by kernel_rfl⟩
instance : Ty Tryd.prog 26 false 1 := ⟨by kernel_rfl⟩
instance : Elt Tryd.prog 26 69 := ⟨by kernel_rfl⟩
instance : AppT Tryd.prog 26 69 6 80 := ⟨by kernel_rfl⟩
instance : Ty Tryd.prog 28 true 4 := ⟨by kernel_rfl⟩
instance : ZeroC Tryd.prog 28 [.list [] .nil, .list [] .nil, .list [] .nil, .list [] .nil] := ⟨(.agg #[(.slice none 0 0), (.slice none 0 0), (.slice none 0 0), (.slice none 0 0)]), by kernel_rfl, by rfl⟩
instance : Bld Tryd.prog 28 [(0, 1), (1, 1), (2, 1), (3, 1)] := ⟨by kernel_rfl⟩
instance : Fld Tryd.prog 28 0 0 24 := ⟨by kernel_rfl⟩
instance : Fld Tryd.prog 28 1 1 25 := ⟨by kernel_rfl⟩
instance : Fld Tryd.prog 28 2 2 25 := ⟨by kernel_rfl⟩
instance : Fld Tryd.prog 28 3 3 26 := ⟨by kernel_rfl⟩
instance : Ty Tryd.prog 36 false 1 := ⟨by kernel_rfl⟩
instance : Elt Tryd.prog 36 54 := ⟨by kernel_rfl⟩
instance : AppT Tryd.prog 36 54 3 24 := ⟨by kernel_rfl⟩
instance : Ty Tryd.prog 47 true 2 := ⟨by kernel_rfl⟩
instance : ZeroC Tryd.prog 47 [.v (.int .i64 0), .v (.int .i64 0)] := ⟨(.agg #[(.int .i64 0), (.int .i64 0)]), by kernel_rfl, by rfl⟩
instance : Bld Tryd.prog 47 [(0, 1), (1, 1)] := ⟨by kernel_rfl⟩
instance : Ty Tryd.prog 52 false 1 := ⟨by kernel_rfl⟩
instance : Elt Tryd.prog 52 36 := ⟨by kernel_rfl⟩
instance : AppT Tryd.prog 52 36 1 24 := ⟨by kernel_rfl⟩
instance : Ty Tryd.prog 54 true 3 := ⟨by kernel_rfl⟩
instance : ZeroC Tryd.prog 54 [.v (.int .i64 0), .v (.int .i64 0), .v (.int .i64 0)] := ⟨(.agg #[(.int .i64 0), (.int .i64 0), (.int .i64 0)]), by kernel_rfl, by rfl⟩
instance : Bld Tryd.prog 54 [(0, 1), (1, 1), (2, 1)] := ⟨by kernel_rfl⟩
instance : Fld Tryd.prog 54 0 0 3 := ⟨by kernel_rfl⟩
instance : Fld Tryd.prog 54 1 1 3 := ⟨by kernel_rfl⟩
instance : Fld Tryd.prog 54 2 2 3 := ⟨by kernel_rfl⟩
instance : Ty Tryd.prog 57 false 1 := ⟨by kernel_rfl⟩
instance : ZeroC Tryd.prog 57 [.list [] .nil] := ⟨(.slice none 0 0), by kernel_rfl, by rfl⟩
instance : Elt Tryd.prog 57 3 := ⟨by kernel_rfl⟩
instance : AppT Tryd.prog 57 3 1 8 := ⟨by kernel_rfl⟩
instance : Ty Tryd.prog 69 true 6 := ⟨by kernel_rfl⟩
instance : ZeroC Tryd.prog 69 [.v (.int .i64 0), .v (.int .i64 0), .v (.int .i64 0), .v (.int .i64 0), .list [] .nil, .list [] .nil] := ⟨(.agg #[(.int .i64 0), (.int .i64 0), (.int .i64 0), (.int .i64 0), (.slice none 0 0), (.slice none 0 0)]), by kernel_rfl, by rfl⟩
instance : Bld Tryd.prog 69 [(0, 1), (1, 1), (2, 1), (3, 1), (4, 1), (5, 1)] := ⟨by kernel_rfl⟩
instance : Fld Tryd.prog 69 0 0 3 := ⟨by kernel_rfl⟩
instance : Fld Tryd.prog 69 1 1 3 := ⟨by kernel_rfl⟩
instance : Fld Tryd.prog 69 2 2 3 := ⟨by kernel_rfl⟩
instance : Fld Tryd.prog 69 3 3 3 := ⟨by kernel_rfl⟩
instance : Fld Tryd.prog 69 4 4 36 := ⟨by kernel_rfl⟩
instance : Fld Tryd.prog 69 5 5 36 := ⟨by kernel_rfl⟩
instance : Ty Tryd.prog 71 true 2 := ⟨by kernel_rfl⟩
instance : ZeroC Tryd.prog 71 [.v (.int .i64 0), .v (.int .i64 0)] := ⟨(.agg #[(.int .i64 0), (.int .i64 0)]), by kernel_rfl, by rfl⟩
instance : Bld Tryd.prog 71 [(0, 1), (1, 1)] := ⟨by kernel_rfl⟩
instance : Fld Tryd.prog 71 0 0 3 := ⟨by kernel_rfl⟩
instance : Fld Tryd.prog 71 1 1 3 := ⟨by kernel_rfl⟩
instance : Ty Tryd.prog 78 false 1 := ⟨by kernel_rfl⟩
instance : ZeroC Tryd.prog 82 [.list [] .nil, .list [] .nil, .list [] .nil, .list [] .nil, .list [] .nil, .list [] .nil, .list [] .nil] := ⟨(.agg #[(.slice none 0 0), (.slice none 0 0), (.slice none 0 0), (.slice none 0 0), (.slice none 0 0), (.slice none 0 0), (.slice none 0 0)]), by kernel_rfl, by rfl⟩
instance : Bld Tryd.prog 82 [(0, 4), (4, 1), (5, 1), (6, 1)] := ⟨by kernel_rfl⟩
instance : Fld Tryd.prog 82 0 0 28 := ⟨by kernel_rfl⟩
instance : Fld Tryd.prog 82 1 4 57 := ⟨by kernel_rfl⟩
instance : Fld Tryd.prog 82 2 5 52 := ⟨by kernel_rfl⟩
instance : Fld Tryd.prog 82 3 6 52 := ⟨by kernel_rfl⟩
instance : Ty Tryd.prog 87 false 1 := ⟨by kernel_rfl⟩
instance : Ty Tryd.prog 88 false 1 := ⟨by kernel_rfl⟩
instance : Ty Tryd.prog 89 false 1 := ⟨by kernel_rfl⟩
instance : Ty Tryd.prog 91 true 3 := ⟨by kernel_rfl⟩
instance : ZeroC Tryd.prog 91 [.v .nilFunc, .v .nilFunc, .v .nilFunc] := ⟨(.agg #[.nilFunc, .nilFunc, .nilFunc]), by kernel_rfl, by rfl⟩
instance : Fld Tryd.prog 91 0 0 87 := ⟨by kernel_rfl⟩
instance : Fld Tryd.prog 91 1 1 88 := ⟨by kernel_rfl⟩
instance : Fld Tryd.prog 91 2 2 89 := ⟨by kernel_rfl⟩
instance : Ty Tryd.prog 92 true 6 := ⟨by kernel_rfl⟩
instance : ArrT Tryd.prog 92 2 91 := ⟨by kernel_rfl⟩
instance : Ty Tryd.prog 97 false 1 := ⟨by kernel_rfl⟩
instance : Elt Tryd.prog 97 57 := ⟨by kernel_rfl⟩
instance : AppT Tryd.prog 97 57 1 24 := ⟨by kernel_rfl⟩
instance : Ty Tryd.prog 99 true 3 := ⟨by kernel_rfl⟩
instance : ZeroC Tryd.prog 99 [.list [] .nil, .list [] .nil, .list [] .nil] := ⟨(.agg #[(.slice none 0 0), (.slice none 0 0), (.slice none 0 0)]), by kernel_rfl, by rfl⟩
instance : Bld Tryd.prog 99 [(0, 1), (1, 1), (2, 1)] := ⟨by kernel_rfl⟩
instance : Fld Tryd.prog 99 0 0 57 := ⟨by kernel_rfl⟩
instance : Fld Tryd.prog 99 1 1 57 := ⟨by kernel_rfl⟩
instance : Fld Tryd.prog 99 2 2 97 := ⟨by kernel_rfl⟩
instance : Ty Tryd.prog 108 false 1 := ⟨by kernel_rfl⟩
instance : Ty Tryd.prog 109 false 1 := ⟨by kernel_rfl⟩
instance : Ty Tryd.prog 118 false 1 := ⟨by kernel_rfl⟩
instance : Elt Tryd.prog 118 9 := ⟨by kernel_rfl⟩
instance : AppT Tryd.prog 118 9 1 16 := ⟨by kernel_rfl⟩
instance : Ty Tryd.prog 119 false 1 := ⟨by kernel_rfl⟩
instance : Elt Tryd.prog 119 118 := ⟨by kernel_rfl⟩
instance : AppT Tryd.prog 119 118 1 24 := ⟨by kernel_rfl⟩
instance : Ty Tryd.prog 121 true 2 := ⟨by kernel_rfl⟩
instance : ZeroC Tryd.prog 121 [.v (.int .i64 0), .list [] .nil] := ⟨(.agg #[(.int .i64 0), (.slice none 0 0)]), by kernel_rfl, by rfl⟩
instance : Bld Tryd.prog 121 [(0, 1), (1, 1)] := ⟨by kernel_rfl⟩
instance : Fld Tryd.prog 121 0 0 3 := ⟨by kernel_rfl⟩
instance : Fld Tryd.prog 121 1 1 119 := ⟨by kernel_rfl⟩
instance : MapT Tryd.prog 128 3 4 := ⟨by kernel_rfl⟩
instance : MapT Tryd.prog 145 54 4 := ⟨by kernel_rfl⟩
instance : Elt Tryd.prog 157 5 := ⟨by kernel_rfl⟩
instance : Fun Tryd.prog 8 := ⟨by kernel_rfl⟩
instance : Fun Tryd.prog 10 := ⟨by kernel_rfl⟩
instance : Fun Tryd.prog 12 := ⟨by kernel_rfl⟩
instance : Fun Tryd.prog 14 := ⟨by kernel_rfl⟩
instance : Fun Tryd.prog 15 := ⟨by kernel_rfl⟩
instance : Fun Tryd.prog 17 := ⟨by kernel_rfl⟩
instance : Fun Tryd.prog 19 := ⟨by kernel_rfl⟩
instance : Fun Tryd.prog 22 := ⟨by kernel_rfl⟩
instance : Fun Tryd.prog 24 := ⟨by kernel_rfl⟩
instance : Fun Tryd.prog 25 := ⟨by kernel_rfl⟩
instance : Fun Tryd.prog 26 := ⟨by kernel_rfl⟩
instance : Fun Tryd.prog 27 := ⟨by kernel_rfl⟩
instance : Fun Tryd.prog 28 := ⟨by kernel_rfl⟩
instance : Fun Tryd.prog 29 := ⟨by kernel_rfl⟩
instance : Fun Tryd.prog 30 := ⟨by kernel_rfl⟩
instance : Fun Tryd.prog 31 := ⟨by kernel_rfl⟩
instance : Fun Tryd.prog 32 := ⟨by kernel_rfl⟩
instance : Fun Tryd.prog 35 := ⟨by kernel_rfl⟩
instance : Fun Tryd.prog 39 := ⟨by kernel_rfl⟩
instance : Fun Tryd.prog 42 := ⟨by kernel_rfl⟩
instance : Fun Tryd.prog 43 := ⟨by kernel_rfl⟩
instance : Fun Tryd.prog 47 := ⟨by kernel_rfl⟩
instance : Fun Tryd.prog 48 := ⟨by kernel_rfl⟩
instance : Fun Tryd.prog 49 := ⟨by kernel_rfl⟩
instance : Fun Tryd.prog 50 := ⟨by kernel_rfl⟩
instance : Fun Tryd.prog 51 := ⟨by kernel_rfl⟩
instance : Fun Tryd.prog 52 := ⟨by kernel_rfl⟩
instance : Fun Tryd.prog 53 := ⟨by kernel_rfl⟩
instance : Fun Tryd.prog 58 := ⟨by kernel_rfl⟩
instance : Fun Tryd.prog 59 := ⟨by kernel_rfl⟩
instance : Fun Tryd.prog 60 := ⟨by kernel_rfl⟩
instance : Fun Tryd.prog 61 := ⟨by kernel_rfl⟩
instance : Fun Tryd.prog 62 := ⟨by kernel_rfl⟩
instance : Fun Tryd.prog 66 := ⟨by kernel_rfl⟩
instance : Fun Tryd.prog 67 := ⟨by kernel_rfl⟩
instance : Fun Tryd.prog 68 := ⟨by kernel_rfl⟩
instance : Fun Tryd.prog 69 := ⟨by kernel_rfl⟩
instance : Fun Tryd.prog 70 := ⟨by kernel_rfl⟩
instance : Fun Tryd.prog 74 := ⟨by kernel_rfl⟩
instance : Fun Tryd.prog 75 := ⟨by kernel_rfl⟩
instance : Fun Tryd.prog 78 := ⟨by kernel_rfl⟩
instance : Fun Tryd.prog 79 := ⟨by kernel_rfl⟩
instance : Fun Tryd.prog 80 := ⟨by kernel_rfl⟩
instance : Fun Tryd.prog 81 := ⟨by kernel_rfl⟩
instance : Fun Tryd.prog 82 := ⟨by kernel_rfl⟩
instance : Fun Tryd.prog 85 := ⟨by kernel_rfl⟩
instance : Fun Tryd.prog 86 := ⟨by kernel_rfl⟩
instance : Fun Tryd.prog 87 := ⟨by kernel_rfl⟩
instance : Fun Tryd.prog 88 := ⟨by kernel_rfl⟩
instance : Fun Tryd.prog 89 := ⟨by kernel_rfl⟩
instance : Fun Tryd.prog 90 := ⟨by kernel_rfl⟩
instance : Fun Tryd.prog 91 := ⟨by kernel_rfl⟩
instance : Fun Tryd.prog 97 := ⟨by kernel_rfl⟩
instance : Fun Tryd.prog 98 := ⟨by kernel_rfl⟩
instance : Fun Tryd.prog 99 := ⟨by kernel_rfl⟩
instance : Fun Tryd.prog 102 := ⟨by kernel_rfl⟩
instance : Fun Tryd.prog 103 := ⟨by kernel_rfl⟩
instance : Fun Tryd.prog 104 := ⟨by kernel_rfl⟩
instance : Fun Tryd.prog 105 := ⟨by kernel_rfl⟩
instance : Fun Tryd.prog 106 := ⟨by kernel_rfl⟩
instance : Fun Tryd.prog 110 := ⟨by kernel_rfl⟩
instance : Fun Tryd.prog 111 := ⟨by kernel_rfl⟩
instance : Fun Tryd.prog 145 := ⟨by kernel_rfl⟩
instance : Fun Tryd.prog 146 := ⟨by kernel_rfl⟩
instance : Fun Tryd.prog 147 := ⟨by kernel_rfl⟩
instance : Fun Tryd.prog 148 := ⟨by kernel_rfl⟩
instance : Fun Tryd.prog 149 := ⟨by kernel_rfl⟩
instance : Fun Tryd.prog 150 := ⟨by kernel_rfl⟩
end Go.Proofs.YtgffhbbcpgdjjaaDoor
namespace Go.Proofs.YtgffhbbcpgdjjaaDoor
set_option maxRecDepth 10000
open Go.RowKit Go.AB
open Go.PB (aq ah PlaceD av ax aw)

end Go.Proofs.YtgffhbbcpgdjjaaDoor
namespace Go.AB
open Go Go.RowKit
open Go.AB.Enc (cells)
open Go.PB (aq ah PlaceD av ax aw)
structure jm where
 ch : Int
 fr : Int
 tt : Int
 au : Int
 fi : Int
 deriving DecidableEq
structure ult where
 id : Int
 ss : List jm
 deriving DecidableEq
structure RowD where
 ch : Int
 ln : Int
 au : Int
 nu : Int
 ws : Int
 deriving DecidableEq
/-- numbers of an edition that is read out of memory -/
structure SFit (s : jm) : Prop where
 ch : I64 s.ch
 fr : I64 s.fr
 tt : I64 s.tt
 au : I64 s.au
 fi : I64 s.fi
structure EFit (e : ult) : Prop where
 id : I64 e.id
 len : e.ss.length ≤ 9223372036854775807
 ss : ∀ s ∈ e.ss, SFit s
/-! ### What the functions compute -/
/-- so many lines has a chapter -/
def kp (t : ah) (c : Int) : Nat := match t[c.toNat]? with
 | some x => x.lines.length
 | none => 0
/-- the error of a text -/
def jn (t : ah) : Int := bif ff t then 0 else 10
/-- what is so of a valid stretch -/
structure SOk (s : jm) : Prop where
 fr : 0 ≤ s.fr
 lt : s.fr < s.tt
 tt : s.tt ≤ 10
 ch : 0 ≤ s.ch ∧ s.ch ≤ 5
 au : 1 ≤ s.au ∧ s.au ≤ 999
 fi : 1 ≤ s.fi ∧ s.fi + (s.tt - s.fr) ≤ 1000
theorem m5 {t : ah} (h : ff t = true) : 1 ≤ t.length ∧ t.length ≤ 6 ∧ ∀ c ∈ t, 1 ≤ c.lines.length ∧ c.lines.length ≤ 10 ∧ ∀ l ∈ c.lines, 1 ≤ l.length ∧ l.length ≤ 10 := by
 simp only [ff, Bool.and_eq_true, inB_true, List.all_eq_true, nw, ne] at h
 refine ⟨by omega, by omega, fun c hc => ?_⟩
 have := h.1.2 c hc
 refine ⟨by omega, by omega, fun l hl => ?_⟩
 have := this.2 l hl
 omega
theorem ual {t : ah} {c : Int} {k : Nat} {x : aq} (hc : c = (k : Int)) (hx : t[k]? = some x) : kp t c = x.lines.length := by
 subst hc; simp [kp, hx]
end Go.AB
namespace Go.AB
/-- where the first one stands of which it is so; -1 if there is none -/
def mo {α : Type} (p : α → Bool) (xs : List α) : Int := match xs.findIdx? p with
 | some n => (n : Int)
 | none => -1
theorem xb {α : Type} {p : α → Bool} {xs : List α} (h : ∀ x ∈ xs, p x = false) : mo p xs = -1 := by
 have : xs.findIdx? p = none := List.findIdx?_eq_none_iff.2 h
 simp [mo, this]
theorem xa {α : Type} {p : α → Bool} {xs : List α} {k : Nat} {x : α} (hx : xs[k]? = some x) (hp : p x = true) (h : ∀ y ∈ xs.take k, p y = false) : mo p xs = k := by
 have : xs.findIdx? p = some k := by
  rw [List.findIdx?_eq_some_iff_getElem]
  obtain ⟨hlt, rfl⟩ := List.getElem?_eq_some_iff.1 hx
  refine ⟨hlt, hp, fun j hj => ?_⟩
  have := h xs[j] (List.mem_of_getElem? (i := j) (by rw [List.getElem?_take, if_pos hj, List.getElem?_eq_getElem (by omega)]))
  simp [this]
 simp [mo, this]
theorem xc {α : Type} {p : α → Bool} {xs : List α} : decide (0 ≤ mo p xs) = xs.any p := by
 unfold mo
 cases h : xs.findIdx? p with
 | none =>
  have h1 := List.findIdx?_eq_none_iff.1 h
  have : xs.any p = false := by rw [List.any_eq_false]; intro x hx; simp [h1 x hx]
  rw [this]; simp
 | some n =>
  rw [List.findIdx?_eq_some_iff_getElem] at h
  obtain ⟨hlt, hp, _⟩ := h
  have : xs.any p = true := List.any_eq_true.2 ⟨_, List.getElem_mem hlt, hp⟩
  rw [this]; simp
def ko (n lo hi : Int) : Bool := decide (n < lo) || decide (hi < n)
def uc (lo hi : Int) (xs : List Int) : Bool := !xs.any fun n => ko n lo hi
theorem uhd (n lo hi : Int) : (!ko n lo hi) = inB n lo hi := by
 simp only [ko, inB, Bool.not_or]
 rw [← decide_not, ← decide_not]
 congr 1 <;> (congr 1; simp)
theorem fw {lo hi n : Int} : uc lo hi [n] = inB n lo hi := by rw [← uhd]; simp [uc]
end Go.AB
namespace Go.Proofs.YtgffhbbcpgdjjaaDoor
set_option maxRecDepth 10000
open Go.RowKit Go.AB
open Go.AB.Enc (cells)
open Go.PB (aq ah PlaceD av ax aw)

theorem ulr (xs : List Int) (p : Int → Bool) (k : Nat) (caps : List C) [Fun Tryd.prog k] (hp : ∀ x ∈ xs, Pure Tryd.prog k (.v (.int .i64 x) :: caps) (.v (.bool (p x)))) : Pure Tryd.prog 97 [lst xs, .fn (.func k) caps] (.v (.int .i64 (mo p xs))) := by
 refine dr Tryd.func97 rfl (fun m => .v) fun G nx => ?_
 simp only [Tryd.ntmps97, List.length_cons, List.length_nil, Nat.reduceAdd, Nat.reduceSub]
 refine bv fun hlt => ?_
 dsimp only at hlt
 refine n1 0 (fun hf => ?_)
 replace hf := (fit_lst.1 hf).1
 refine yS fun _ K1 => ?_
 refine yR ?_
 refine yA rfl rfl ?_
 refine yN ?_
 dsimp only [St.put]
 refine K1 _ ?_
 refine yS fun _ K2 => ?_
 refine yS fun _ K3 => ?_
 refine yR ?_
 refine yM rfl rfl ?_
 refine aa rfl (cc rfl rfl (List.length_map _)) ?_
 refine yM rfl rfl ?_
 refine yN ?_
 dsimp only [St.put]
 refine K3 _ ?_
 refine cd ?_
 refine du 9 ?_
 refine zQ ?_
 refine fa (G) zX ?_
 dsimp only
 refine et (X := Nat) (fun k => k ≤ xs.length ∧ ∀ y ∈ xs.take k, p y = false) (fun k => xs.length - k) (fun k => [(4, .any), (5, .any), (8, .v (.int .i64 (k : Int)))]) (fun k G' => G') 0 rfl ?_ ?_ (fun _ _ h => h) ?_ ?_ ?_
 ·exact ⟨by simp, by simp⟩
 ·exact zF
 ·rintro k hI
  exact zL
 ·exact fun _ _ _ _ h => .inl h
 rintro k hI
 dsimp only at hI ⊢
 refine yS fun _ K4 => ?_
 refine yR ?_
 refine aa rfl (dp rfl rfl rfl) ?_
 refine yN ?_
 dsimp only [St.put]
 refine K4 _ ?_
 refine yS fun _ K5 => ?_
 refine bc rfl (fun hc => ?_) (fun hc => ?_)
 ·replace hc := of_decide_eq_true hc
  obtain ⟨x, hx⟩ : ∃ x, xs[k]? = some x := fl (by omega)
  refine bi ?_
  refine K5 _ ?_
  refine yS fun _ K6 => ?_
  refine cd ?_
  refine yS fun _ K7 => ?_
  refine yR ?_
  refine yM rfl rfl ?_
  refine yA rfl rfl ?_
  refine yN ?_
  dsimp only [St.put]
  refine K7 _ ?_
  refine yS fun _ K8 => ?_
  refine yR ?_
  refine yM rfl rfl ?_
  refine yM rfl rfl ?_
  refine yM rfl rfl ?_
  refine aa rfl (c5 rfl rfl rfl rfl (c7 (by assumption)) (Enc.len _)) ?_
  refine yL rfl rfl rfl ?_
  try dsimp only [St.put]
  refine ab rfl (az rfl rfl rfl (hp x (jh hx)) ?_)
  refine yN ?_
  dsimp only [St.put]
  refine K8 _ ?_
  refine bc rfl (fun hc => ?_) (fun hc => ?_)
  ·skip
   refine yS fun _ K9 => ?_
   refine yR ?_
   refine yM rfl rfl ?_
   refine yA rfl rfl ?_
   refine yN ?_
   dsimp only [St.put]
   refine K9 _ ?_
   refine ay ?_
   refine cg rfl (by constructor) zN zS ?_
   exact vi (xa hx hc hI.2).symm
  skip
  refine bi ?_
  refine K6 _ ?_
  refine yR ?_
  refine aa rfl (ct rfl rfl rfl (by omega)) ?_
  refine yM rfl rfl ?_
  refine yN ?_
  dsimp only [St.put]
  exact ⟨k + 1, by omega, ⟨by omega, fun y hy => by
    rw [List.take_add_one, hx] at hy
    simp only [Option.toList_some, List.mem_append, List.mem_singleton] at hy
    rcases hy with hy | rfl
    ·exact hI.2 y hy
    simpa using hc⟩, ⟨⟨rfl, rfl⟩, zF, zB, zN, zX⟩⟩
 try replace hc := of_decide_eq_false hc
 refine el ?_
 refine K2 _ ?_
 refine yS fun _ K10 => ?_
 refine yR ?_
 refine yA rfl rfl ?_
 refine yN ?_
 dsimp only [St.put]
 refine K10 _ ?_
 refine ay ?_
 refine cg rfl (by constructor) zN zS ?_
 exact vi (by
  rw [xb]
  have := hI.2
  rwa [iy (by omega)] at this)

theorem u6 (xs : List Int) (p : Int → Bool) (k : Nat) (caps : List C) [Fun Tryd.prog k] (hp : ∀ x ∈ xs, Pure Tryd.prog k (.v (.int .i64 x) :: caps) (.v (.bool (p x)))) : Pure Tryd.prog 74 [lst xs, .fn (.func k) caps] (.v (.bool (xs.any p))) := by
 refine dr Tryd.func74 rfl (fun m => .v) fun G nx => ?_
 simp only [Tryd.ntmps74, List.length_cons, List.length_nil, Nat.reduceAdd, Nat.reduceSub]
 refine bv fun hlt => ?_
 dsimp only at hlt
 refine yS fun _ K1 => ?_
 refine yR ?_
 refine yA rfl rfl ?_
 refine yN ?_
 dsimp only [St.put]
 refine K1 _ ?_
 refine yS fun _ K2 => ?_
 refine yR ?_
 refine yM rfl rfl ?_
 refine yM rfl rfl ?_
 try dsimp only [St.put]
 refine ab rfl (az rfl rfl rfl (ulr xs p k caps hp) ?_)
 refine aa rfl (pq rfl rfl rfl) ?_
 refine yA rfl rfl ?_
 refine yN ?_
 dsimp only [St.put]
 refine K2 _ ?_
 refine ay ?_
 refine cg rfl (by constructor) zN zS ?_
 exact vb xc

end Go.Proofs.YtgffhbbcpgdjjaaDoor
namespace Go.Proofs.YtgffhbbcpgdjjaaDoor
set_option maxRecDepth 10000
open Go.RowKit Go.AB
open Go.PB (aq ah PlaceD av ax aw)

end Go.Proofs.YtgffhbbcpgdjjaaDoor
namespace Go.AB
open Go Go.RowKit
open Go.AB.Enc (cells)
open Go.PB (aq ah PlaceD av ax aw)
/-- Data that are read as they are. -/
class FlatV (α : Type) [Enc α] where
 vals : α → List Value
 eq : ∀ x, cells x = (vals x).map C.v
theorem FlatV.agg {α : Type} [Enc α] [FlatV α] {E : Env} {w : World} {x : α} {v : Value} (h : R E w (.agg (cells x)) v) : v = .agg (FlatV.vals x).toArray := by
 rw [FlatV.eq] at h
 obtain ⟨vs, rfl, h1, _⟩ := h.agg_inv
 congr 2
 apply List.ext_getElem?
 intro j
 have hl := h1.1
 simp only [List.length_map] at hl
 by_cases hj : j < (FlatV.vals x).length
 ·have h2 := h1.2 j (.v (FlatV.vals x)[j]) vs[j] (by rw [List.getElem?_map, List.getElem?_eq_getElem hj]; rfl) (List.getElem?_eq_getElem (by omega))
  rw [List.getElem?_eq_getElem (by omega), List.getElem?_eq_getElem hj, h2.v_inv]
 ·rw [List.getElem?_eq_none (by omega), List.getElem?_eq_none (by omega)]
class EqT (P : Program) (t : TypeId) (α : Type) [Enc α] [FlatV α] [DecidableEq α] : Prop where
 guard : ∀ (op : BinOp) (w : World) (X Y : Operand) (xs ys : Array Value), (eqGuard op t X Y (.agg xs) (.agg ys)).run P w = .ok () w
 same : ∀ (w : World) (x y : α), (Op.equalIn 10000 t (.agg (FlatV.vals x).toArray) (.agg (FlatV.vals y).toArray)).run P w = .ok (decide (x = y)) w
section
variable {P : Program} {o : Oper} {st : St}
theorem kd {α : Type} [Enc α] [FlatV α] [DecidableEq α] {t t' : TypeId} [EqT P t α] {X Y : Operand} {x y : α} (ho : o.op = .binOp .eql t X Y t') (hx : evC st X = .agg (cells x)) (hy : evC st Y = .agg (cells y)) : NStep P o st (.v (.bool (decide (x = y)))) := fun E w a hs => by
 have e1 := (hx ▸ hs.ev X).agg_inv
 have e1 := FlatV.agg (hx ▸ hs.ev X)
 have e2 := FlatV.agg (hy ▸ hs.ev Y)
 refine ⟨_, .v rfl, fun w' => ?_⟩
 have hg := EqT.guard (P := P) (t := t) (α := α) .eql w' X Y (FlatV.vals x).toArray (FlatV.vals y).toArray
 have hq := EqT.same (P := P) (t := t) w' x y
 have hb : binOp .eql t (.agg (FlatV.vals x).toArray) (.agg (FlatV.vals y).toArray) = (do pure (.bool (← Op.equal t (.agg (FlatV.vals x).toArray) (.agg (FlatV.vals y).toArray))) : Sem Value) := rfl
 simp only [execOp, ho, e1, e2, Sem.run_bind, hg, Result.andThen_ok, hb, Op.equal, Op.maxDepth, hq]
 rfl
theorem uau {α : Type} [Enc α] [FlatV α] [DecidableEq α] {t t' : TypeId} [EqT P t α] {X Y : Operand} {x y : α} (ho : o.op = .binOp .neq t X Y t') (hx : evC st X = .agg (cells x)) (hy : evC st Y = .agg (cells y)) : NStep P o st (.v (.bool (!decide (x = y)))) := fun E w a hs => by
 have e1 := FlatV.agg (hx ▸ hs.ev X)
 have e2 := FlatV.agg (hy ▸ hs.ev Y)
 refine ⟨_, .v rfl, fun w' => ?_⟩
 have hg := EqT.guard (P := P) (t := t) (α := α) .neq w' X Y (FlatV.vals x).toArray (FlatV.vals y).toArray
 have hq := EqT.same (P := P) (t := t) w' x y
 have hb : binOp .neq t (.agg (FlatV.vals x).toArray) (.agg (FlatV.vals y).toArray) = (do pure (.bool (!(← Op.equal t (.agg (FlatV.vals x).toArray) (.agg (FlatV.vals y).toArray)))) : Sem Value) := rfl
 simp only [execOp, ho, e1, e2, Sem.run_bind, hg, Result.andThen_ok, hb, Op.equal, Op.maxDepth, hq]
 rfl
end
instance : FlatV PlaceD := ⟨fun x => [.int .i64 x.ch, .int .i64 x.ln, .int .i64 x.wd], fun _ => rfl⟩
end Go.AB

namespace Go.Proofs.YtgffhbbcpgdjjaaDoor
open Go Go.RowKit Go.AB
open Go.AB.Enc (cells)
open Go.PB (aq ah PlaceD av ax aw)
theorem ueq : Tryd.prog.underlying 54 = some (.struct (Tryd.prog.fieldsOf 54)) := by kernel_rfl
theorem uft : Tryd.prog.stoodInHeld 54 = false := by kernel_rfl
instance : EqT Tryd.prog 54 PlaceD where
 guard op w x y xs ys := run_eqGuard_agg w op _ x y xs ys (by kernel_rfl)
 same w x y := by
  obtain ⟨a, b, c⟩ := x
  obtain ⟨a', b', c'⟩ := y
  simp only [FlatV.vals]
  rw [run_equalIn_agg _ _ _ _ _ ueq uft]
  by_cases h1 : a = a' <;> by_cases h2 : b = b' <;> by_cases h3 : c = c' <;> simp [go_sem, h1, h2, h3]
end Go.Proofs.YtgffhbbcpgdjjaaDoor
namespace Go.Proofs.YtgffhbbcpgdjjaaDoor
set_option maxRecDepth 10000
open Go.RowKit Go.AB
open Go.PB (aq ah PlaceD av ax aw)



structure Small (t : ah) : Prop where
 len : t.length ≤ 10
 lines : ∀ c ∈ t, c.lines.length ≤ 15
 words : ∀ c ∈ t, ∀ l ∈ c.lines, l.length ≤ 15
 size : ∀ c ∈ t, ∀ l ∈ c.lines, ∀ s ∈ l, s.size ≤ 40
end Go.Proofs.YtgffhbbcpgdjjaaDoor
namespace Go.Proofs.YtgffhbbcpgdjjaaDoor
set_option maxRecDepth 10000
open Go.RowKit Go.AB
open Go.PB (aq ah PlaceD av ax aw)

end Go.Proofs.YtgffhbbcpgdjjaaDoor
namespace Go.Proofs.YtgffhbbcpgdjjaaDoor
set_option maxRecDepth 10000
open Go.RowKit Go.AB
open Go.PB (aq ah PlaceD av ax aw)

end Go.Proofs.YtgffhbbcpgdjjaaDoor
namespace Go.Proofs.YtgffhbbcpgdjjaaDoor
set_option maxRecDepth 10000
open Go.RowKit Go.AB
open Go.AB.Enc (cells)
open Go.PB (aq ah PlaceD av ax aw)

end Go.Proofs.YtgffhbbcpgdjjaaDoor
namespace Go.AB
open Go Go.RowKit
open Go.PB (aq ah PlaceD)
end Go.AB
namespace Go.Proofs.YtgffhbbcpgdjjaaDoor
set_option maxRecDepth 10000
open Go.RowKit Go.AB
open Go.AB.Enc (cells)
open Go.PB (aq ah PlaceD av ax aw)
end Go.Proofs.YtgffhbbcpgdjjaaDoor
namespace Go.AB
open Go Go.RowKit
open Go.AB.Enc (cells)
open Go.PB (aq ah PlaceD av ax aw)
abbrev L2 := Int × Int
/-- a stretch has a line of the base; of the edition -/
def hasB (s : jm) (p : L2) : Bool := decide (s.ch = p.1) && (decide (s.fr ≤ p.2) && decide (p.2 < s.tt))
def toE (s : jm) (p : L2) : L2 := (s.au, s.fi + (p.2 - s.fr))
/-- as which line a line of the base is numbered: by the first stretch that has it; and back -/
def asOf (ss : List jm) (p : L2) : Option L2 := (ss.find? fun s => hasB s p).map fun s => toE s p
/-! ### Stretches that clash -/
/-! ### The lines of a text -/
def ml (t : ah) : List L2 := (t.mapIdx fun k c => c.lines.mapIdx fun n _ => ((k : Int), (n : Int))).flatten
/-- a line of the base, with the numbers that it has by some stretches -/
def vz (ss : List jm) (p : L2) (w : Int) : RowD := ⟨p.1, p.2, ((asOf ss p).getD (0, 0)).1, ((asOf ss p).getD (0, 0)).2, w⟩
def li (t : ah) (ss : List jm) : List RowD := (t.mapIdx fun k c => c.lines.mapIdx fun n l => vz ss (k, n) l.length).flatten
theorem ov {α β γ : Type} (l : List α) (f : Nat → α → β) (g : β → γ) : (l.mapIdx f).map g = l.mapIdx fun i a => g (f i a) := by
 apply List.ext_getElem?
 intro i
 rw [List.getElem?_map, List.getElem?_mapIdx, List.getElem?_mapIdx, Option.map_map]
 rfl
theorem zb (t : ah) (ss : List jm) : (li t ss).map (fun r => ((r.ch, r.ln) : L2)) = ml t := by
 unfold li ml
 rw [List.map_flatten, ov]
 congr 2
 funext k c
 rw [ov]
 rfl
/-- the rows of a chapter's lines -/
def rowL (ss : List jm) (k : Nat) (ls : List (List ByteArray)) : List RowD := ls.mapIdx fun n l => vz ss (k, n) l.length
theorem uf3 (ss : List jm) {t : ah} {k : Nat} {c : aq} (h : t[k]? = some c) : li (t.take (k + 1)) ss = li (t.take k) ss ++ rowL ss k c.lines := by
 unfold li
 rw [w5 h, List.flatten_append]; simp [rowL]
theorem uf7 (ss : List jm) (k : Nat) (ls : List (List ByteArray)) : (rowL ss k ls).length = ls.length := by simp [rowL]
theorem uf4 {t : ah} (ht : ff t = true) (ss : List jm) (k : Nat) : (li (t.take k) ss).length ≤ 10 * k := by
 induction k with
 | zero => simp [li]
 | succ k ih =>
  cases hk : t[k]? with
  | none =>
   have h1 : t.take (k + 1) = t.take k := by rw [List.take_add_one, hk]; simp
   rw [h1]; omega
  | some c =>
   rw [uf3 ss hk, List.length_append, uf7]
   have := ((m5 ht).2.2 c (List.mem_of_getElem? hk)).2.1
   omega
theorem uf5 {t : ah} (ht : ff t = true) (ss : List jm) : (li t ss).length ≤ 60 := by
 have h1 := uf4 ht ss t.length
 rw [List.take_length] at h1
 have := (m5 ht).2.1
 omega
end Go.AB
namespace Go.AB
open Go Go.RowKit
open Go.PB (aq ah PlaceD)
end Go.AB
namespace Go.Proofs.YtgffhbbcpgdjjaaDoor
set_option maxRecDepth 10000
open Go.RowKit Go.AB
open Go.AB.Enc (cells)
open Go.PB (aq ah PlaceD av ax aw)

end Go.Proofs.YtgffhbbcpgdjjaaDoor
namespace Go.AB
open Go Go.RowKit
open Go.PB (aq ah PlaceD)
end Go.AB
namespace Go.Proofs.YtgffhbbcpgdjjaaDoor
set_option maxRecDepth 10000
open Go.RowKit Go.AB
open Go.AB.Enc (cells)
open Go.PB (aq ah PlaceD av ax aw)
end Go.Proofs.YtgffhbbcpgdjjaaDoor
namespace Go.AB
open Go Go.RowKit
open Go.PB (aq ah PlaceD)
end Go.AB
namespace Go.Proofs.YtgffhbbcpgdjjaaDoor
set_option maxRecDepth 10000
open Go.RowKit Go.AB
open Go.AB.Enc (cells)
open Go.PB (aq ah PlaceD av ax aw)
theorem ulo (a b : List PlaceD) : Pure Tryd.prog 14 [lst a, lst b] (.v (.bool (decide (a = b)))) := by
 refine dr Tryd.func14 rfl (fun m => .v) fun G nx => ?_
 simp only [Tryd.ntmps14, List.length_cons, List.length_nil, Nat.reduceAdd, Nat.reduceSub]
 refine bv fun hlt => ?_
 dsimp only at hlt
 refine n1 0 (fun hf => ?_)
 have hf' : a.length ≤ 9223372036854775807 := (fit_lst.1 hf).1
 clear hf
 refine yS fun _ K1 => ?_
 refine yR ?_
 refine yA rfl rfl ?_
 refine yN ?_
 dsimp only [St.put]
 refine K1 _ ?_
 refine yS fun _ K2 => ?_
 refine yS fun _ K3 => ?_
 refine yR ?_
 refine yM rfl rfl ?_
 refine aa rfl (cc rfl rfl (List.length_map _)) ?_
 refine yM rfl rfl ?_
 refine aa rfl (cc rfl rfl (List.length_map _)) ?_
 refine aa rfl (f8 rfl rfl rfl) ?_
 refine yN ?_
 dsimp only [St.put]
 refine K3 _ ?_
 refine bc rfl (fun hc => ?_) (fun hc => ?_)
 ·try replace hc := of_decide_eq_true hc
  refine yS fun _ K4 => ?_
  refine yR ?_
  refine yA rfl rfl ?_
  refine yN ?_
  dsimp only [St.put]
  refine K4 _ ?_
  refine ay ?_
  refine cg rfl (by constructor) zN zS ?_
  exact vb (by
   have : a ≠ b := fun e => by subst e; simp at hc
   simp [this])
 have hab := g6 hc
 refine bi ?_
 refine K2 _ ?_
 refine yS fun _ K5 => ?_
 refine yS fun _ K6 => ?_
 refine yR ?_
 refine yA rfl rfl ?_
 refine yN ?_
 dsimp only [St.put]
 refine K6 _ ?_
 refine cd ?_
 refine du 6 ?_
 refine zQ ?_
 refine fa (G) zX ?_
 dsimp only
 refine et (X := Nat) (fun k => k ≤ a.length ∧ a.take k = b.take k) (fun k => a.length - k) (fun k => [(5, .v (.int .i64 (k : Int)))]) (fun k G' => G') 0 rfl ?_ ?_ (fun _ _ h => h) ?_ ?_ ?_
 ·exact ⟨by simp, by simp⟩
 ·exact zF
 ·rintro k hI
  exact zL
 ·exact fun _ _ _ _ h => .inl h
 rintro k hI
 dsimp only at hI ⊢
 refine yS fun _ K7 => ?_
 refine yS fun _ K8 => ?_
 refine yR ?_
 refine yM rfl rfl ?_
 refine yM rfl rfl ?_
 refine aa rfl (cc rfl rfl (List.length_map _)) ?_
 refine aa rfl (dp rfl rfl rfl) ?_
 refine yN ?_
 dsimp only [St.put]
 refine K8 _ ?_
 refine bc rfl (fun hc => ?_) (fun hc => ?_)
 ·replace hc := of_decide_eq_true hc
  obtain ⟨x, hx⟩ : ∃ x, a[k]? = some x := fl (by omega)
  obtain ⟨y, hy⟩ : ∃ y, b[k]? = some y := fl (by omega)
  refine bi ?_
  refine K7 _ ?_
  refine yS fun _ K9 => ?_
  refine cd ?_
  refine yS fun _ K10 => ?_
  refine ia [(0, none), (1, none), (2, none), (3, none), (4, none), (5, none), (6, none), (7, none), (8, none)] (fun i => [].contains i) (fun i => [].contains i) (fun i => [0, 1, 2, 4, 5, 6, 8].contains i) [] (by kernel_rfl) (by kernel_rfl) ?_
  refine xM rfl rfl rfl rfl rfl ?_
  refine xM rfl rfl rfl rfl rfl ?_
  try dsimp only [St.put]
  refine ai rfl rfl rfl rfl (c5 rfl rfl rfl rfl (c7 (by assumption)) (Enc.len _)) ?_
  try dsimp only [St.put]
  refine ak rfl rfl rfl rfl (bh rfl rfl (Enc.len _)) ?_
  refine xM rfl rfl rfl rfl rfl ?_
  refine xM rfl rfl rfl rfl rfl ?_
  try dsimp only [St.put]
  refine ai rfl rfl rfl rfl (c5 rfl rfl rfl rfl (c7 (by assumption)) (Enc.len _)) ?_
  try dsimp only [St.put]
  refine ak rfl rfl rfl rfl (bh rfl rfl (Enc.len _)) ?_
  refine ai rfl rfl rfl rfl (uau (x := x) (y := y) rfl rfl rfl) ?_
  refine fm ?_
  dsimp only [St.put]
  refine K10 _ ?_
  refine bc rfl (fun hc => ?_) (fun hc => ?_)
  ·try replace hc := of_decide_eq_true hc
   refine yS fun _ K11 => ?_
   refine yR ?_
   refine yA rfl rfl ?_
   refine yN ?_
   dsimp only [St.put]
   refine K11 _ ?_
   refine ay ?_
   refine cg rfl (by constructor) zN zS ?_
   exact vb (by
    have := uam hx hy (j2 hc)
    simp [this])
  have hxy := g6 hc
  refine bi ?_
  refine K9 _ ?_
  refine yR ?_
  refine yM rfl rfl ?_
  refine aa rfl (ct rfl rfl rfl (by omega)) ?_
  refine yA rfl rfl ?_
  refine yN ?_
  dsimp only [St.put]
  exact ⟨k + 1, by omega, ⟨by omega, yk hI.2 hx (hxy ▸ hy)⟩, ⟨⟨rfl, rfl⟩, zF, zB, zN, zX⟩⟩
 try replace hc := of_decide_eq_false hc
 refine el ?_
 refine K5 _ ?_
 refine yS fun _ K12 => ?_
 refine yR ?_
 refine yA rfl rfl ?_
 refine yN ?_
 dsimp only [St.put]
 refine K12 _ ?_
 refine ay ?_
 refine cg rfl (by constructor) zN zS ?_
 exact vb (by
  have h1 := hI.2
  rw [iy (by omega), iy (by omega)] at h1
  simp [h1])
/-! ### What a stretch is checked by -/
end Go.Proofs.YtgffhbbcpgdjjaaDoor
namespace Go.Proofs.YtgffhbbcpgdjjaaDoor
set_option maxRecDepth 10000
open Go Go.RowKit Go.AB
theorem uiw : laidOutB Tryd.prog = true := by kernel_rfl
theorem uib : ∃ m, Tryd.prog.types.size = m + 3 := ⟨Tryd.prog.types.size - 3, by have : 3 ≤ Tryd.prog.types.size := of_decide_eq_true (by kernel_rfl); omega⟩
theorem vf : Tryd.prog.underlying 3 = some (.int .i64) := by kernel_rfl
instance : KeyT Tryd.prog 3 Int where
 keyed := Go.Maps.int_keyed vf
 has {E w x v} h := ⟨.int .i64 x, by
  have h1 := tz (ua h)
  simp [keyOf, mapKey, vf, KeyV.kv, h1]⟩
end Go.Proofs.YtgffhbbcpgdjjaaDoor
namespace Go.AB
open Go Go.RowKit
open Go.PB (aq ah PlaceD)
def o1 (n : Int) : Bool := decide (n < 97) || decide (122 < n)
theorem ukz (s : ByteArray) : (u8s s).any (fun x => o1 x.v) = !s.data.toList.all okc := by
 unfold u8s
 rw [List.any_map]
 induction s.data.toList with
 | nil => rfl
 | cons b l ih =>
  simp only [List.any_cons, List.all_cons, ih, Function.comp, okc, o1, Bool.not_and]
  congr 1
  have e1 : decide (((b.toNat : Nat) : Int) < 97) = !decide (97 ≤ b.toNat) := by by_cases h : 97 ≤ b.toNat <;> simp [h] <;> omega
  have e2 : decide ((122 : Int) < ((b.toNat : Nat) : Int)) = !decide (b.toNat ≤ 122) := by by_cases h : b.toNat ≤ 122 <;> simp [h] <;> omega
  rw [e1, e2]
theorem yi (s : ByteArray) : n9 s = (inB s.size 1 12 && !(u8s s).any fun x => o1 x.v) := by rw [ukz]; simp [n9]
theorem ua7 (l : List ByteArray) : ne l = (inB l.length 1 10 && !l.any fun s => !n9 s) := by
 unfold ne
 congr 1
 rw [Bool.eq_iff_iff]; simp
/-- the numbers of some chapters -/
def gm (xs : List Int) : Int → Option C := fun x => bif decide (x ∈ xs) then some (.v (.bool true)) else none
theorem ubm (xs : List Int) (x : Int) : (gm xs x).getD (mr (.bool false)) = .v (.bool (decide (x ∈ xs))) := by
 unfold gm
 cases decide (x ∈ xs) <;> rfl
theorem ubl : gm [] = fun _ => none := by funext x; simp [gm]
theorem uiz {t : ah} {k : Nat} {c : aq} (h : t[k]? = some c) : jg (gm ((t.take k).map (·.id))) c.id (.v (.bool true)) = gm ((t.take (k + 1)).map (·.id)) := by
 funext x
 rw [pt (f := (·.id)) h]
 unfold jg gm
 by_cases hx : x = c.id
 ·simp [hx]
 simp [hx]
theorem i3 (xs : List Int) (n : Nat) : ∀ x c, gm xs x = some c → C.low n c := by
 intro x c h
 unfold gm at h
 cases hd : decide (x ∈ xs) <;> rw [hd] at h
 ·cases h
 cases h; exact .v
theorem uey {t : ah} (h : inB t.length 1 6 = false) : jn t = 10 := by simp [jn, ff, h]
theorem vh {t : ah} (h : t.all nw = false) : jn t = 10 := by simp [jn, ff, h]
theorem uex {t : ah} (h : ¬ (t.map (·.id)).Nodup) : jn t = 10 := by simp [jn, ff, h]
end Go.AB
namespace Go.Proofs.YtgffhbbcpgdjjaaDoor
set_option maxRecDepth 10000
open Go.RowKit Go.AB
open Go.AB.Enc (cells)
open Go.PB (aq ah PlaceD av ax aw)
theorem ulq (xs : List ByteArray) (p : ByteArray → Bool) (k : Nat) (caps : List C) [Fun Tryd.prog k] (hp : ∀ x ∈ xs, Pure Tryd.prog k (.v (.string x) :: caps) (.v (.bool (p x)))) : Pure Tryd.prog 103 [lst xs, .fn (.func k) caps] (.v (.int .i64 (mo p xs))) := by
 refine dr Tryd.func103 rfl (fun m => .v) fun G nx => ?_
 simp only [Tryd.ntmps103, List.length_cons, List.length_nil, Nat.reduceAdd, Nat.reduceSub]
 refine bv fun hlt => ?_
 dsimp only at hlt
 refine n1 0 (fun hf => ?_)
 replace hf := (fit_lst.1 hf).1
 refine yS fun _ K1 => ?_
 refine yR ?_
 refine yA rfl rfl ?_
 refine yN ?_
 dsimp only [St.put]
 refine K1 _ ?_
 refine yS fun _ K2 => ?_
 refine yS fun _ K3 => ?_
 refine yR ?_
 refine yM rfl rfl ?_
 refine aa rfl (cc rfl rfl (List.length_map _)) ?_
 refine yM rfl rfl ?_
 refine yN ?_
 dsimp only [St.put]
 refine K3 _ ?_
 refine cd ?_
 refine du 9 ?_
 refine zQ ?_
 refine fa (G) zX ?_
 dsimp only
 refine et (X := Nat) (fun k => k ≤ xs.length ∧ ∀ y ∈ xs.take k, p y = false) (fun k => xs.length - k) (fun k => [(4, .any), (5, .any), (8, .v (.int .i64 (k : Int)))]) (fun k G' => G') 0 rfl ?_ ?_ (fun _ _ h => h) ?_ ?_ ?_
 ·exact ⟨by simp, by simp⟩
 ·exact zF
 ·rintro k hI
  exact zL
 ·exact fun _ _ _ _ h => .inl h
 rintro k hI
 dsimp only at hI ⊢
 refine yS fun _ K4 => ?_
 refine yR ?_
 refine aa rfl (dp rfl rfl rfl) ?_
 refine yN ?_
 dsimp only [St.put]
 refine K4 _ ?_
 refine yS fun _ K5 => ?_
 refine bc rfl (fun hc => ?_) (fun hc => ?_)
 ·replace hc := of_decide_eq_true hc
  obtain ⟨x, hx⟩ : ∃ x, xs[k]? = some x := fl (by omega)
  refine bi ?_
  refine K5 _ ?_
  refine yS fun _ K6 => ?_
  refine cd ?_
  refine yS fun _ K7 => ?_
  refine yR ?_
  refine yM rfl rfl ?_
  refine yA rfl rfl ?_
  refine yN ?_
  dsimp only [St.put]
  refine K7 _ ?_
  refine yS fun _ K8 => ?_
  refine yR ?_
  refine yM rfl rfl ?_
  refine yM rfl rfl ?_
  refine yM rfl rfl ?_
  refine aa rfl (c5 rfl rfl rfl rfl (c7 (by assumption)) (Enc.len _)) ?_
  refine yL rfl rfl rfl ?_
  try dsimp only [St.put]
  refine ab rfl (az rfl rfl rfl (hp x (jh hx)) ?_)
  refine yN ?_
  dsimp only [St.put]
  refine K8 _ ?_
  refine bc rfl (fun hc => ?_) (fun hc => ?_)
  ·skip
   refine yS fun _ K9 => ?_
   refine yR ?_
   refine yM rfl rfl ?_
   refine yA rfl rfl ?_
   refine yN ?_
   dsimp only [St.put]
   refine K9 _ ?_
   refine ay ?_
   refine cg rfl (by constructor) zN zS ?_
   exact vi (xa hx hc hI.2).symm
  skip
  refine bi ?_
  refine K6 _ ?_
  refine yR ?_
  refine aa rfl (ct rfl rfl rfl (by omega)) ?_
  refine yM rfl rfl ?_
  refine yN ?_
  dsimp only [St.put]
  exact ⟨k + 1, by omega, ⟨by omega, fun y hy => by
    rw [List.take_add_one, hx] at hy
    simp only [Option.toList_some, List.mem_append, List.mem_singleton] at hy
    rcases hy with hy | rfl
    ·exact hI.2 y hy
    simpa using hc⟩, ⟨⟨rfl, rfl⟩, zF, zB, zN, zX⟩⟩
 try replace hc := of_decide_eq_false hc
 refine el ?_
 refine K2 _ ?_
 refine yS fun _ K10 => ?_
 refine yR ?_
 refine yA rfl rfl ?_
 refine yN ?_
 dsimp only [St.put]
 refine K10 _ ?_
 refine ay ?_
 refine cg rfl (by constructor) zN zS ?_
 exact vi (by
  rw [xb]
  have := hI.2
  rwa [iy (by omega)] at this)
theorem uls (xs : List U8) (p : U8 → Bool) (k : Nat) (caps : List C) [Fun Tryd.prog k] (hp : ∀ x ∈ xs, Pure Tryd.prog k (.v (.int .u8 x.v) :: caps) (.v (.bool (p x)))) : Pure Tryd.prog 111 [lst xs, .fn (.func k) caps] (.v (.int .i64 (mo p xs))) := by
 refine dr Tryd.func111 rfl (fun m => .v) fun G nx => ?_
 simp only [Tryd.ntmps111, List.length_cons, List.length_nil, Nat.reduceAdd, Nat.reduceSub]
 refine bv fun hlt => ?_
 dsimp only at hlt
 refine n1 0 (fun hf => ?_)
 replace hf := (fit_lst.1 hf).1
 refine yS fun _ K1 => ?_
 refine yR ?_
 refine yA rfl rfl ?_
 refine yN ?_
 dsimp only [St.put]
 refine K1 _ ?_
 refine yS fun _ K2 => ?_
 refine yS fun _ K3 => ?_
 refine yR ?_
 refine yM rfl rfl ?_
 refine aa rfl (cc rfl rfl (List.length_map _)) ?_
 refine yM rfl rfl ?_
 refine yN ?_
 dsimp only [St.put]
 refine K3 _ ?_
 refine cd ?_
 refine du 9 ?_
 refine zQ ?_
 refine fa (G) zX ?_
 dsimp only
 refine et (X := Nat) (fun k => k ≤ xs.length ∧ ∀ y ∈ xs.take k, p y = false) (fun k => xs.length - k) (fun k => [(4, .any), (5, .any), (8, .v (.int .i64 (k : Int)))]) (fun k G' => G') 0 rfl ?_ ?_ (fun _ _ h => h) ?_ ?_ ?_
 ·exact ⟨by simp, by simp⟩
 ·exact zF
 ·rintro k hI
  exact zL
 ·exact fun _ _ _ _ h => .inl h
 rintro k hI
 dsimp only at hI ⊢
 refine yS fun _ K4 => ?_
 refine yR ?_
 refine aa rfl (dp rfl rfl rfl) ?_
 refine yN ?_
 dsimp only [St.put]
 refine K4 _ ?_
 refine yS fun _ K5 => ?_
 refine bc rfl (fun hc => ?_) (fun hc => ?_)
 ·replace hc := of_decide_eq_true hc
  obtain ⟨x, hx⟩ : ∃ x, xs[k]? = some x := fl (by omega)
  refine bi ?_
  refine K5 _ ?_
  refine yS fun _ K6 => ?_
  refine cd ?_
  refine yS fun _ K7 => ?_
  refine yR ?_
  refine yM rfl rfl ?_
  refine yA rfl rfl ?_
  refine yN ?_
  dsimp only [St.put]
  refine K7 _ ?_
  refine yS fun _ K8 => ?_
  refine yR ?_
  refine yM rfl rfl ?_
  refine yM rfl rfl ?_
  refine yM rfl rfl ?_
  refine aa rfl (c5 rfl rfl rfl rfl (c7 (by assumption)) (Enc.len _)) ?_
  refine yL rfl rfl rfl ?_
  try dsimp only [St.put]
  refine ab rfl (az rfl rfl rfl (hp x (jh hx)) ?_)
  refine yN ?_
  dsimp only [St.put]
  refine K8 _ ?_
  refine bc rfl (fun hc => ?_) (fun hc => ?_)
  ·skip
   refine yS fun _ K9 => ?_
   refine yR ?_
   refine yM rfl rfl ?_
   refine yA rfl rfl ?_
   refine yN ?_
   dsimp only [St.put]
   refine K9 _ ?_
   refine ay ?_
   refine cg rfl (by constructor) zN zS ?_
   exact vi (xa hx hc hI.2).symm
  skip
  refine bi ?_
  refine K6 _ ?_
  refine yR ?_
  refine aa rfl (ct rfl rfl rfl (by omega)) ?_
  refine yM rfl rfl ?_
  refine yN ?_
  dsimp only [St.put]
  exact ⟨k + 1, by omega, ⟨by omega, fun y hy => by
    rw [List.take_add_one, hx] at hy
    simp only [Option.toList_some, List.mem_append, List.mem_singleton] at hy
    rcases hy with hy | rfl
    ·exact hI.2 y hy
    simpa using hc⟩, ⟨⟨rfl, rfl⟩, zF, zB, zN, zX⟩⟩
 try replace hc := of_decide_eq_false hc
 refine el ?_
 refine K2 _ ?_
 refine yS fun _ K10 => ?_
 refine yR ?_
 refine yA rfl rfl ?_
 refine yN ?_
 dsimp only [St.put]
 refine K10 _ ?_
 refine ay ?_
 refine cg rfl (by constructor) zN zS ?_
 exact vi (by
  rw [xb]
  have := hI.2
  rwa [iy (by omega)] at this)
theorem ulu (xs : List ByteArray) (p : ByteArray → Bool) (k : Nat) (caps : List C) [Fun Tryd.prog k] (hp : ∀ x ∈ xs, Pure Tryd.prog k (.v (.string x) :: caps) (.v (.bool (p x)))) : Pure Tryd.prog 87 [lst xs, .fn (.func k) caps] (.v (.bool (xs.any p))) := by
 refine dr Tryd.func87 rfl (fun m => .v) fun G nx => ?_
 simp only [Tryd.ntmps87, List.length_cons, List.length_nil, Nat.reduceAdd, Nat.reduceSub]
 refine bv fun hlt => ?_
 dsimp only at hlt
 refine yS fun _ K1 => ?_
 refine yR ?_
 refine yA rfl rfl ?_
 refine yN ?_
 dsimp only [St.put]
 refine K1 _ ?_
 refine yS fun _ K2 => ?_
 refine yR ?_
 refine yM rfl rfl ?_
 refine yM rfl rfl ?_
 try dsimp only [St.put]
 refine ab rfl (az rfl rfl rfl (ulq xs p k caps hp) ?_)
 refine aa rfl (pq rfl rfl rfl) ?_
 refine yA rfl rfl ?_
 refine yN ?_
 dsimp only [St.put]
 refine K2 _ ?_
 refine ay ?_
 refine cg rfl (by constructor) zN zS ?_
 exact vb xc
theorem ulv (xs : List U8) (p : U8 → Bool) (k : Nat) (caps : List C) [Fun Tryd.prog k] (hp : ∀ x ∈ xs, Pure Tryd.prog k (.v (.int .u8 x.v) :: caps) (.v (.bool (p x)))) : Pure Tryd.prog 104 [lst xs, .fn (.func k) caps] (.v (.bool (xs.any p))) := by
 refine dr Tryd.func104 rfl (fun m => .v) fun G nx => ?_
 simp only [Tryd.ntmps104, List.length_cons, List.length_nil, Nat.reduceAdd, Nat.reduceSub]
 refine bv fun hlt => ?_
 dsimp only at hlt
 refine yS fun _ K1 => ?_
 refine yR ?_
 refine yA rfl rfl ?_
 refine yN ?_
 dsimp only [St.put]
 refine K1 _ ?_
 refine yS fun _ K2 => ?_
 refine yR ?_
 refine yM rfl rfl ?_
 refine yM rfl rfl ?_
 try dsimp only [St.put]
 refine ab rfl (az rfl rfl rfl (uls xs p k caps hp) ?_)
 refine aa rfl (pq rfl rfl rfl) ?_
 refine yA rfl rfl ?_
 refine yN ?_
 dsimp only [St.put]
 refine K2 _ ?_
 refine ay ?_
 refine cg rfl (by constructor) zN zS ?_
 exact vb xc
theorem uip (n lo hi : Int) : Pure Tryd.prog 102 [.v (.int .i64 n), .elem [.v (.int .i64 lo)], .elem [.v (.int .i64 hi)]] (.v (.bool (ko n lo hi))) := by
 refine dr Tryd.func102 rfl (fun m => .v) fun G nx => ?_
 simp only [Tryd.ntmps102, List.length_cons, List.length_nil, Nat.reduceAdd, Nat.reduceSub]
 refine bv fun hlt => ?_
 dsimp only at hlt
 refine yS fun _ K1 => ?_
 refine yR ?_
 refine yA rfl rfl ?_
 refine yN ?_
 dsimp only [St.put]
 refine K1 _ ?_
 refine yS fun _ K2 => ?_
 refine yR ?_
 refine yM rfl rfl ?_
 refine yL rfl rfl rfl ?_
 refine aa rfl (dp rfl rfl rfl) ?_
 refine yM rfl rfl ?_
 refine ir (fun hs => ?_) (fun hs => ?_)
 ·try replace hs := of_decide_eq_true hs
  refine yK rfl ?_
  refine yK rfl ?_
  refine yK rfl ?_
  refine aa rfl (bz rfl rfl (by constructor)) ?_
  refine yA rfl rfl ?_
  refine yN ?_
  dsimp only [St.put]
  refine K2 _ ?_
  refine ay ?_
  refine cg rfl (by constructor) zN zS ?_
  exact vb (by simp [ko, hs]; try omega)
 try replace hs := of_decide_eq_false hs
 refine yM rfl rfl ?_
 refine yL rfl rfl rfl ?_
 refine aa rfl (ot rfl rfl rfl) ?_
 refine aa rfl (cj rfl rfl (by constructor)) ?_
 refine yA rfl rfl ?_
 refine yN ?_
 dsimp only [St.put]
 refine K2 _ ?_
 refine ay ?_
 refine cg rfl (by constructor) zN zS ?_
 exact vb (by simp [ko, hs]; try omega)
theorem r0 (lo hi : Int) (xs : List Int) : Pure Tryd.prog 86 [.v (.int .i64 lo), .v (.int .i64 hi), lst xs] (.v (.bool (uc lo hi xs))) := by
 refine dr Tryd.func86 rfl (fun m => .v) fun G nx => ?_
 simp only [Tryd.ntmps86, List.length_cons, List.length_nil, Nat.reduceAdd, Nat.reduceSub]
 refine bv fun hlt => ?_
 dsimp only at hlt
 refine yS fun _ K1 => ?_
 refine yR ?_
 try dsimp only [St.put]
 refine yB rfl rfl rfl ?_
 try dsimp only [St.put]
 refine yB rfl rfl rfl ?_
 refine yA rfl rfl ?_
 refine yN ?_
 dsimp only [St.put]
 refine K1 _ ?_
 refine yS fun _ K2 => ?_
 refine yR ?_
 refine yM rfl rfl ?_
 refine aa rfl (oq rfl rfl) ?_
 try dsimp only [St.put]
 refine ab rfl (az rfl rfl rfl (u6 xs (fun n => ko n lo hi) _ _ fun x _ => uip x lo hi) ?_)
 refine aa rfl (ge rfl rfl) ?_
 refine yA rfl rfl ?_
 refine yN ?_
 dsimp only [St.put]
 refine K2 _ ?_
 refine ay ?_
 refine cg rfl (by constructor) zN zS ?_
 rfl
theorem uef (n : Int) : Pure Tryd.prog 105 [.v (.int .u8 n)] (.v (.bool (o1 n))) := by
 refine dr Tryd.func105 rfl (fun m => .v) fun G nx => ?_
 simp only [Tryd.ntmps105, List.length_cons, List.length_nil, Nat.reduceAdd, Nat.reduceSub]
 refine bv fun hlt => ?_
 dsimp only at hlt
 refine yS fun _ K1 => ?_
 refine yR ?_
 refine yA rfl rfl ?_
 refine yN ?_
 dsimp only [St.put]
 refine K1 _ ?_
 refine yS fun _ K2 => ?_
 refine yR ?_
 refine yM rfl rfl ?_
 refine aa rfl (dp rfl rfl rfl) ?_
 refine yM rfl rfl ?_
 refine ir (fun hs => ?_) (fun hs => ?_)
 ·try replace hs := of_decide_eq_true hs
  refine yK rfl ?_
  refine yK rfl ?_
  refine aa rfl (bz rfl rfl (by constructor)) ?_
  refine yA rfl rfl ?_
  refine yN ?_
  dsimp only [St.put]
  refine K2 _ ?_
  refine ay ?_
  refine cg rfl (by constructor) zN zS ?_
  exact vb (by simp [o1, hs]; try omega)
 try replace hs := of_decide_eq_false hs
 refine yM rfl rfl ?_
 refine aa rfl (ot rfl rfl rfl) ?_
 refine aa rfl (cj rfl rfl (by constructor)) ?_
 refine yA rfl rfl ?_
 refine yN ?_
 dsimp only [St.put]
 refine K2 _ ?_
 refine ay ?_
 refine cg rfl (by constructor) zN zS ?_
 exact vb (by simp [o1, hs]; try omega)
theorem uee (s : ByteArray) : Pure Tryd.prog 89 [.v (.string s)] (.v (.bool (n9 s))) := by
 refine dr Tryd.func89 rfl (fun m => .v) fun G nx => ?_
 simp only [Tryd.ntmps89, List.length_cons, List.length_nil, Nat.reduceAdd, Nat.reduceSub]
 refine bv fun hlt => ?_
 dsimp only at hlt
 refine yS fun _ K1 => ?_
 refine yR ?_
 refine yA rfl rfl ?_
 refine yN ?_
 dsimp only [St.put]
 refine K1 _ ?_
 refine yS fun _ K2 => ?_
 refine yR ?_
 refine yM rfl rfl ?_
 refine aa rfl (lu rfl rfl) ?_
 try dsimp only [St.put]
 refine ab rfl (cy rfl rfl rfl (by decide) (by decide) zR (by decide) ?_)
 try dsimp only [St.put]
 refine ab rfl (az rfl rfl rfl (r0 _ _ [(s.size : Int)]) ?_)
 refine yM rfl rfl ?_
 refine ir (fun hs => ?_) (fun hs => ?_)
 ·rw [fw] at hs
  refine yM rfl rfl ?_
  try dsimp only [St.put]
  refine ab rfl (uju (by kernel_rfl) rfl rfl ?_)
  try dsimp only [St.put]
  refine ab rfl (az rfl rfl rfl (ulv (u8s s) (fun x => o1 x.v) _ _ fun x _ => uef x.v) ?_)
  refine aa rfl (ge rfl rfl) ?_
  refine aa rfl (bz rfl rfl (by constructor)) ?_
  refine yA rfl rfl ?_
  refine yN ?_
  dsimp only [St.put]
  refine K2 _ ?_
  refine ay ?_
  refine cg rfl (by constructor) zN zS ?_
  exact vb (by rw [yi, hs]; rfl)
 rw [fw] at hs
 refine yK rfl ?_
 refine yK rfl ?_
 refine yK rfl ?_
 refine yK rfl ?_
 refine aa rfl (cj rfl rfl (by constructor)) ?_
 refine yA rfl rfl ?_
 refine yN ?_
 dsimp only [St.put]
 refine K2 _ ?_
 refine ay ?_
 refine cg rfl (by constructor) zN zS ?_
 exact vb (by rw [yi, hs]; rfl)
theorem uir (s : ByteArray) : Pure Tryd.prog 88 [.v (.string s)] (.v (.bool (!n9 s))) := by
 refine dr Tryd.func88 rfl (fun m => .v) fun G nx => ?_
 simp only [Tryd.ntmps88, List.length_cons, List.length_nil, Nat.reduceAdd, Nat.reduceSub]
 refine bv fun hlt => ?_
 dsimp only at hlt
 refine yS fun _ K1 => ?_
 refine yR ?_
 refine yA rfl rfl ?_
 refine yN ?_
 dsimp only [St.put]
 refine K1 _ ?_
 refine yS fun _ K2 => ?_
 refine yR ?_
 refine yM rfl rfl ?_
 try dsimp only [St.put]
 refine ab rfl (az rfl rfl rfl (uee _) ?_)
 refine aa rfl (ge rfl rfl) ?_
 refine yA rfl rfl ?_
 refine yN ?_
 dsimp only [St.put]
 refine K2 _ ?_
 refine ay ?_
 refine cg rfl (by constructor) zN zS ?_
 rfl
theorem uiq (t : ah) : Pure Tryd.prog 66 [oe t] (.v (.int .i64 (jn t))) := by
 refine dr Tryd.func66 rfl (fun m => .v) fun G nx => ?_
 simp only [Tryd.ntmps66, List.length_cons, List.length_nil, Nat.reduceAdd, Nat.reduceSub]
 refine bv fun hlt => ?_
 dsimp only at hlt
 refine n1 0 (fun hf => ?_)
 replace hf := uew hf
 have hf0 := hf.len
 refine yS fun _ K1 => ?_
 refine yR ?_
 try dsimp only [St.put]
 refine yB rfl rfl rfl ?_
 refine yA rfl rfl ?_
 refine yN ?_
 dsimp only [St.put]
 refine K1 _ ?_
 refine udc ?_
 refine yS fun _ K2 => ?_
 refine yS fun _ K3 => ?_
 refine yR ?_
 refine yF rfl rfl rfl rfl ?_
 refine yL rfl rfl rfl ?_
 refine aa rfl (cc rfl rfl (List.length_map _)) ?_
 try dsimp only [St.put]
 refine ab rfl (cy rfl rfl rfl (by decide) (by decide) zR (by decide) ?_)
 try dsimp only [St.put]
 refine ab rfl (az rfl rfl rfl (r0 _ _ [(t.length : Int)]) ?_)
 refine aa rfl (ge rfl rfl) ?_
 refine yN ?_
 dsimp only [St.put]
 refine K3 _ ?_
 refine bc rfl (fun hc => ?_) (fun hc => ?_)
 ·have hin : inB t.length 1 6 = false := by rw [fw] at hc; simpa using hc
  refine yS fun _ K4 => ?_
  refine yR ?_
  refine yA rfl rfl ?_
  refine yN ?_
  dsimp only [St.put]
  refine K4 _ ?_
  refine ay ?_
  refine cg rfl (by constructor) zN zS ?_
  exact vi (uey hin).symm
 have hin : inB t.length 1 6 = true := by rw [fw] at hc; simpa using hc
 refine bi ?_
 refine K2 _ ?_
 refine yS fun _ K5 => ?_
 refine yR ?_
 refine yA rfl rfl ?_
 refine yN ?_
 dsimp only [St.put]
 refine K5 _ ?_
 refine yS fun _ K6 => ?_
 refine yR ?_
 try dsimp only [St.put]
 refine ab rfl (xo (α := Int) rfl ?_)
 refine yA rfl rfl ?_
 refine yN ?_
 dsimp only [St.put]
 refine K6 _ ?_
 refine yS fun _ K7 => ?_
 refine udf ?_
 refine K7 _ ?_
 refine yS fun _ K8 => ?_
 refine yS fun _ K9 => ?_
 refine yR ?_
 refine yF rfl rfl rfl rfl ?_
 refine yL rfl rfl rfl ?_
 refine aa rfl (cc rfl rfl (List.length_map _)) ?_
 refine yM rfl rfl ?_
 refine yN ?_
 dsimp only [St.put]
 refine K9 _ ?_
 refine cd ?_
 refine du 20 ?_
 refine zQ ?_
 refine fa (aj G nx (gp Tryd.prog 3 0 fun _ => none)) zX ?_
 dsimp only
 refine et (X := Nat) (fun k => k ≤ t.length ∧ (t.take k).all nw = true ∧ ((t.take k).map (·.id)).Nodup) (fun k => t.length - k) (fun k => [(2, .v (.int .i64 0)), (3, .v (.int .i64 0)), (5, .any), (6, .any), (7, .any), (8, .any), (19, .v (.int .i64 (k : Int)))]) (fun k G' => aj G nx (gp Tryd.prog 3 k (gm ((t.take k).map (·.id))))) 0 rfl ?_ ?_ ?_ ?_ ?_ ?_
 ·exact ⟨by simp, by simp, by simp⟩
 ·exact zF
 ·rw [show gm ((t.take 0).map (·.id)) = fun _ => none from ubl]
  exact zX
 ·rintro k hI
  exact (by (try dsimp only); repeat' (first | exact trivial | refine ⟨?_, ?_⟩ | exact .v | exact .any | refine .elem ?_ | exact bd _ _ | exact e8 _ _ | exact dz _ _ | exact fe _ (by (try dsimp only); omega) | exact .box (by (try dsimp only); omega) | exact em | exact cv | exact gn (i3 _ _) | refine fg ?_ ?_ | exact .arr (by (try dsimp only); omega) | exact .own (by (try dsimp only); omega) | exact .map (by (try dsimp only); omega) | exact ec _ | refine bn ?_ ?_ | exact bd _ _))
 ·rintro k hI
  exact (by (repeat' (refine jt ?_ (by (try dsimp only); omega) ?_)); all_goals (first | exact ju zS | (repeat' (first | exact trivial | refine ⟨?_, ?_⟩ | exact .v | exact .any | refine .elem ?_ | exact bd _ _ | exact e8 _ _ | exact dz _ _ | exact fe _ (by (try dsimp only); omega) | exact .box (by (try dsimp only); omega) | exact em | exact cv | exact gn (i3 _ _) | refine fg ?_ ?_ | exact .arr (by (try dsimp only); omega) | exact .own (by (try dsimp only); omega) | exact .map (by (try dsimp only); omega) | exact ec _ | refine bn ?_ ?_ | exact bd _ _))))
 rintro k hI
 dsimp only at hI ⊢
 refine yS fun _ K10 => ?_
 refine yR ?_
 refine aa rfl (dp rfl rfl rfl) ?_
 refine yN ?_
 dsimp only [St.put]
 refine K10 _ ?_
 refine yS fun _ K11 => ?_
 refine bc rfl (fun hc => ?_) (fun hc => ?_)
 ·replace hc := of_decide_eq_true hc
  obtain ⟨c, hx⟩ : ∃ x, t[k]? = some x := fl (by omega)
  have hf1 := hf.lines c (jh hx)
  refine bi ?_
  refine K11 _ ?_
  refine yS fun _ K12 => ?_
  refine cd ?_
  refine yS fun _ K13 => ?_
  refine yR ?_
  refine aa rfl (c5 rfl rfl rfl rfl (c7 (by assumption)) (Enc.len _)) ?_
  refine yE rfl rfl rfl ?_
  try dsimp only [St.put]
  refine ab rfl (dg rfl ?_)
  try dsimp only [St.put]
  refine ab rfl (cn rfl rfl rfl zG rfl rfl (by rfl) ?_)
  refine yN ?_
  dsimp only [St.put]
  refine K13 _ ?_
  refine fj (i := 6) rfl zG zC ?_
  dsimp only
  refine yS fun _ K14 => ?_
  refine du 20 ?_
  refine zQ ?_
  refine n2 (X := Bool) (fun b => (b = true → inB c.id 0 9999 = false ∨ c.id ∈ (t.take k).map (·.id) ∨ inB c.lines.length 1 10 = false) ∧ (b = false → inB c.id 0 9999 = true ∧ ¬ c.id ∈ (t.take k).map (·.id) ∧ inB c.lines.length 1 10 = true)) (fun b => [(41, .v (.bool b))]) (fun b G' => G') rfl ?_ (fun _ _ _ _ h => .inl h) ?_ ?_
  ·rintro b hI
   exact (by (try dsimp only); repeat' (first | exact trivial | refine ⟨?_, ?_⟩ | exact .v | exact .any | refine .elem ?_ | exact bd _ _ | exact e8 _ _ | exact dz _ _ | exact fe _ (by (try dsimp only); omega) | exact .box (by (try dsimp only); omega) | exact em | exact cv | exact gn (i3 _ _) | refine fg ?_ ?_ | exact .arr (by (try dsimp only); omega) | exact .own (by (try dsimp only); omega) | exact .map (by (try dsimp only); omega) | exact ec _ | refine bn ?_ ?_ | exact bd _ _))
  ·refine yR ?_
   refine yF rfl rfl rfl rfl ?_
   refine yL rfl rfl rfl ?_
   try dsimp only [St.put]
   refine ab rfl (cy rfl rfl rfl (by decide) (by decide) zR (by decide) ?_)
   try dsimp only [St.put]
   refine ab rfl (az rfl rfl rfl (r0 _ _ [c.id]) ?_)
   refine aa rfl (ge rfl rfl) ?_
   refine yM rfl rfl ?_
   refine ir (fun hs => ?_) (fun hs => ?_)
   ·have h5 : inB c.id 0 9999 = false := by rw [fw] at hs; simpa using hs
    refine yK rfl ?_
    refine yK rfl ?_
    refine yK rfl ?_
    refine yK rfl ?_
    refine aa rfl (bz rfl rfl (by constructor)) ?_
    refine yM rfl rfl ?_
    refine yK rfl ?_
    refine yK rfl ?_
    refine yK rfl ?_
    refine yK rfl ?_
    refine yK rfl ?_
    refine yK rfl ?_
    refine aa rfl (bz rfl rfl (by constructor)) ?_
    refine yN ?_
    dsimp only [St.put]
    refine ⟨_, ?_, ⟨⟨rfl, rfl⟩, zF, zB, zN, zX⟩⟩
    first
     | (exact ⟨fun _ => .inl h5, fun h => by cases h⟩)
     | (exact ⟨fun _ => .inr (.inl h11), fun h => by cases h⟩)
     | (rw [fw]; exact ⟨fun h => .inr (.inr (by simpa using h)), fun h => ⟨h5, h11, by simpa using h⟩⟩)
   have h5 : inB c.id 0 9999 = true := by rw [fw] at hs; simpa using hs
   refine yM rfl rfl ?_
   refine yF rfl rfl rfl rfl ?_
   refine yL rfl rfl rfl ?_
   try dsimp only [St.put]
   refine ae rfl (td c.id rfl rfl zG trivial rfl (ubm _ _)) ?_
   refine aa rfl (cj rfl rfl (by constructor)) ?_
   refine yM rfl rfl ?_
   refine ir (fun hs => ?_) (fun hs => ?_)
   ·have h11 := of_decide_eq_true hs
    refine yK rfl ?_
    refine yK rfl ?_
    refine yK rfl ?_
    refine yK rfl ?_
    refine yK rfl ?_
    refine yK rfl ?_
    refine aa rfl (bz rfl rfl (by constructor)) ?_
    refine yN ?_
    dsimp only [St.put]
    refine ⟨_, ?_, ⟨⟨rfl, rfl⟩, zF, zB, zN, zX⟩⟩
    first
     | (exact ⟨fun _ => .inl h5, fun h => by cases h⟩)
     | (exact ⟨fun _ => .inr (.inl h11), fun h => by cases h⟩)
     | (rw [fw]; exact ⟨fun h => .inr (.inr (by simpa using h)), fun h => ⟨h5, h11, by simpa using h⟩⟩)
   have h11 := of_decide_eq_false hs
   refine yF rfl rfl rfl rfl ?_
   refine yL rfl rfl rfl ?_
   refine aa rfl (cc rfl rfl (List.length_map _)) ?_
   try dsimp only [St.put]
   refine ab rfl (cy rfl rfl rfl (by decide) (by decide) zR (by decide) ?_)
   try dsimp only [St.put]
   refine ab rfl (az rfl rfl rfl (r0 _ _ [(c.lines.length : Int)]) ?_)
   refine aa rfl (ge rfl rfl) ?_
   refine aa rfl (cj rfl rfl (by constructor)) ?_
   refine yN ?_
   dsimp only [St.put]
   refine ⟨_, ?_, ⟨⟨rfl, rfl⟩, zF, zB, zN, zX⟩⟩
   first
    | (exact ⟨fun _ => .inl h5, fun h => by cases h⟩)
    | (exact ⟨fun _ => .inr (.inl h11), fun h => by cases h⟩)
    | (rw [fw]; exact ⟨fun h => .inr (.inr (by simpa using h)), fun h => ⟨h5, h11, by simpa using h⟩⟩)
  rintro b hst
  dsimp only at hst ⊢
  refine bc rfl (fun hc => ?_) (fun hc => ?_)
  ·replace hst := hst.1 hc
   refine yS fun _ K16 => ?_
   refine yR ?_
   refine yA rfl rfl ?_
   refine yN ?_
   dsimp only [St.put]
   refine K16 _ ?_
   refine ay ?_
   refine cg rfl (by constructor) zN zS ?_
   exact vi (by
    rcases hst with h | h | h
    ·exact (vh (uw hx (by simp [nw, h]))).symm
    ·refine (uex fun hn => ?_).symm
     have h2 : ((t.take (k + 1)).map (·.id)).Nodup := hn.sublist (List.Sublist.map _ (List.take_sublist _ _))
     rw [pt (f := (·.id)) hx, List.nodup_append] at h2
     exact h2.2.2 _ h _ (List.mem_singleton.2 rfl) rfl
    exact (vh (uw hx (by simp [nw, h]))).symm)
  replace hst := hst.2 hc
  refine bi ?_
  refine K14 _ ?_
  refine yS fun _ K17 => ?_
  refine yR ?_
  refine yM rfl rfl ?_
  refine yF rfl rfl rfl rfl ?_
  refine yL rfl rfl rfl ?_
  try dsimp only [St.put]
  refine ab rfl (se (c.id) rfl rfl rfl zG rfl (uiz hx) ?_)
  refine yN ?_
  dsimp only [St.put]
  refine K17 _ ?_
  refine yS fun _ K18 => ?_
  refine yR ?_
  refine yF rfl rfl rfl rfl ?_
  refine yL rfl rfl rfl ?_
  refine aa rfl (cc rfl rfl (List.length_map _)) ?_
  refine yM rfl rfl ?_
  refine yN ?_
  dsimp only [St.put]
  refine K18 _ ?_
  refine cd ?_
  refine du 49 ?_
  refine zQ ?_
  refine fa (aj G nx (gp Tryd.prog 3 (k + 1) (gm ((t.take (k + 1)).map (·.id))))) zX ?_
  dsimp only
  refine et (X := Nat) (fun n => n ≤ c.lines.length ∧ (c.lines.take n).all ne = true) (fun n => c.lines.length - n) (fun n => [(8, .any), (48, .v (.int .i64 (n : Int)))]) (fun n G' => G') 0 rfl ?_ ?_ (fun _ _ h => h) ?_ ?_ ?_
  ·exact ⟨by simp, by simp⟩
  ·exact zF
  ·rintro n hI
   exact (by (try dsimp only); repeat' (first | exact trivial | refine ⟨?_, ?_⟩ | exact .v | exact .any | refine .elem ?_ | exact bd _ _ | exact e8 _ _ | exact dz _ _ | exact fe _ (by (try dsimp only); omega) | exact .box (by (try dsimp only); omega) | exact em | exact cv | exact gn (i3 _ _) | refine fg ?_ ?_ | exact .arr (by (try dsimp only); omega) | exact .own (by (try dsimp only); omega) | exact .map (by (try dsimp only); omega) | exact ec _ | refine bn ?_ ?_ | exact bd _ _))
  ·exact fun _ _ _ _ h => .inl h
  rintro n hJ
  dsimp only at hJ ⊢
  refine yS fun _ K19 => ?_
  refine yR ?_
  refine aa rfl (dp rfl rfl rfl) ?_
  refine yN ?_
  dsimp only [St.put]
  refine K19 _ ?_
  refine yS fun _ K20 => ?_
  refine bc rfl (fun hc => ?_) (fun hc => ?_)
  ·replace hc := of_decide_eq_true hc
   obtain ⟨l, hl⟩ : ∃ x, c.lines[n]? = some x := fl (by omega)
   have hf2 := hf.words c (jh hx) l (jh hl)
   refine bi ?_
   refine K20 _ ?_
   refine yS fun _ K21 => ?_
   refine cd ?_
   refine yS fun _ K22 => ?_
   refine yR ?_
   refine aa rfl (c5 rfl rfl rfl rfl (c7 (by assumption)) (Enc.len _)) ?_
   refine yL rfl rfl rfl ?_
   refine yA rfl rfl ?_
   refine yN ?_
   dsimp only [St.put]
   refine K22 _ ?_
   refine du 49 ?_
   refine zQ ?_
   refine n2 (X := Bool) (fun b => b = !ne l) (fun b => [(60, .v (.bool b))]) (fun b G' => G') rfl ?_ (fun _ _ _ _ h => .inl h) ?_ ?_
   ·rintro b hI
    exact (by (try dsimp only); repeat' (first | exact trivial | refine ⟨?_, ?_⟩ | exact .v | exact .any | refine .elem ?_ | exact bd _ _ | exact e8 _ _ | exact dz _ _ | exact fe _ (by (try dsimp only); omega) | exact .box (by (try dsimp only); omega) | exact em | exact cv | exact gn (i3 _ _) | refine fg ?_ ?_ | exact .arr (by (try dsimp only); omega) | exact .own (by (try dsimp only); omega) | exact .map (by (try dsimp only); omega) | exact ec _ | refine bn ?_ ?_ | exact bd _ _))
   ·refine yR ?_
    refine yM rfl rfl ?_
    refine aa rfl (cc rfl rfl (List.length_map _)) ?_
    try dsimp only [St.put]
    refine ab rfl (cy rfl rfl rfl (by decide) (by decide) zR (by decide) ?_)
    try dsimp only [St.put]
    refine ab rfl (az rfl rfl rfl (r0 _ _ [(l.length : Int)]) ?_)
    refine aa rfl (ge rfl rfl) ?_
    refine yM rfl rfl ?_
    refine ir (fun hs => ?_) (fun hs => ?_)
    ·have h5 : inB l.length 1 10 = false := by rw [fw] at hs; simpa using hs
     refine yK rfl ?_
     refine yK rfl ?_
     refine aa rfl (bz rfl rfl (by constructor)) ?_
     refine yN ?_
     dsimp only [St.put]
     refine ⟨_, ?_, ⟨⟨rfl, rfl⟩, zF, zB, zN, zX⟩⟩
     rw [ua7, h5]
     simp
    have h5 : inB l.length 1 10 = true := by rw [fw] at hs; simpa using hs
    refine yM rfl rfl ?_
    try dsimp only [St.put]
    refine ab rfl (az rfl rfl rfl (ulu l (fun s => !n9 s) _ _ fun s _ => uir s) ?_)
    refine aa rfl (cj rfl rfl (by constructor)) ?_
    refine yN ?_
    dsimp only [St.put]
    refine ⟨_, ?_, ⟨⟨rfl, rfl⟩, zF, zB, zN, zX⟩⟩
    rw [ua7, h5]
    simp
   rintro b hst2
   dsimp only at hst2 ⊢
   refine bc rfl (fun hc => ?_) (fun hc => ?_)
   ·have hln : ne l = false := by rw [hc] at hst2; simpa using hst2.symm
    have her : jn t = 10 := vh (uw hx (by simp [nw, uw hl hln]))
    refine yS fun _ K24 => ?_
    refine yR ?_
    refine yA rfl rfl ?_
    refine yN ?_
    dsimp only [St.put]
    refine K24 _ ?_
    refine el ?_
    refine K8 _ ?_
    refine yS fun _ K25 => ?_
    refine yR ?_
    refine yM rfl rfl ?_
    refine yA rfl rfl ?_
    refine yN ?_
    dsimp only [St.put]
    refine K25 _ ?_
    refine ay ?_
    refine cg rfl (by constructor) zN zS ?_
    exact vi her.symm
   have hln : ne l = true := by rw [hc] at hst2; simpa using hst2.symm
   refine bi ?_
   refine K21 _ ?_
   refine yR ?_
   refine aa rfl (ct rfl rfl rfl (by omega)) ?_
   refine yM rfl rfl ?_
   refine yN ?_
   dsimp only [St.put]
   exact ⟨n + 1, by omega, ⟨by omega, by rw [udn hl, hJ.2, hln]; rfl⟩, ⟨⟨rfl, rfl⟩, zF, zB, zN, zX⟩⟩
  try replace hc := of_decide_eq_false hc
  refine el ?_
  refine K12 _ ?_
  refine yR ?_
  refine aa rfl (ct rfl rfl rfl (by omega)) ?_
  refine yM rfl rfl ?_
  refine yN ?_
  dsimp only [St.put]
  exact ⟨k + 1, by omega, ⟨by omega, by
    rw [udn hx, hI.2.1]
    have h1 := hJ.2
    rw [iy (by omega)] at h1
    simp [nw, hst.1, hst.2.2, h1], by
    rw [pt (f := (·.id)) hx]
    exact uhr hI.2.2 hst.2.1⟩, ⟨⟨rfl, rfl⟩, zF, zB, zN, zX⟩⟩
 have hk : t.length ≤ k := by have := of_decide_eq_false hc; omega
 have her : jn t = 0 := by
  have h1 := hI.2
  rw [iy hk] at h1
  simp [jn, ff, hin, h1.1, h1.2]
 refine el ?_
 refine K8 _ ?_
 refine yS fun _ K26 => ?_
 refine yR ?_
 refine yM rfl rfl ?_
 refine yA rfl rfl ?_
 refine yN ?_
 dsimp only [St.put]
 refine K26 _ ?_
 refine ay ?_
 refine cg rfl (by constructor) zN zS ?_
 exact vi her.symm
end Go.Proofs.YtgffhbbcpgdjjaaDoor
namespace Go.AB
open Go Go.RowKit
open Go.AB.Enc (cells)
open Go.PB (aq ah PlaceD)
end Go.AB
namespace Go.Proofs.YtgffhbbcpgdjjaaDoor
set_option maxRecDepth 10000
open Go.RowKit Go.AB
open Go.AB.Enc (cells)
open Go.PB (aq ah PlaceD av ax aw)
end Go.Proofs.YtgffhbbcpgdjjaaDoor
namespace Go.AB
open Go Go.RowKit
open Go.AB.Enc (cells)
open Go.PB (aq ah PlaceD av ax aw)
end Go.AB
namespace Go.Proofs.YtgffhbbcpgdjjaaDoor
set_option maxRecDepth 10000
open Go.RowKit Go.AB
open Go.AB.Enc (cells)
open Go.PB (aq ah PlaceD av ax aw)
end Go.Proofs.YtgffhbbcpgdjjaaDoor
namespace Go.AB
open Go Go.RowKit
open Go.AB.Enc (cells)
open Go.PB (aq ah PlaceD av ax aw)
theorem uie {t : ah} (ht : ff t = true) : (ml t).length ≤ 60 := by
 rw [← zb t [], List.length_map]
 exact uf5 ht []
end Go.AB
namespace Go.Proofs.YtgffhbbcpgdjjaaDoor
set_option maxRecDepth 10000
open Go.RowKit Go.AB
open Go.AB.Enc (cells)
open Go.PB (aq ah PlaceD av ax aw)
end Go.Proofs.YtgffhbbcpgdjjaaDoor
namespace Go.AB
open Go Go.RowKit
open Go.PB (aq ah PlaceD av ax aw)
/-! ### Lines and numbers of a sound edition -/
/-! ### Lines that are moved -/
/-! ### Splitting and joining -/
end Go.AB
namespace Go.AB
open Go Go.RowKit
open Go.AB.Enc (cells)
open Go.PB (aq ah PlaceD av ax aw)
structure udw where
 ch : Int
 ln : Int
 tc : Int
 tl : Int
 n : Int
 deriving DecidableEq
/-! ### The words of a line -/
def io (t : ah) (p : L2) : Option (List ByteArray) := bif inB p.1 0 ((t.length : Int) - 1) && inB p.2 0 ((kp t p.1 : Int) - 1) then (t[p.1.toNat]?).bind (fun c => c.lines[p.2.toNat]?) else none
def ga (t : ah) (p : PlaceD) : Bool := match io t (p.ch, p.ln) with
 | some l => inB p.wd 0 ((l.length : Int) - 1)
 | none => false
theorem ve {t : ah} {k n : Nat} {c : aq} {l : List ByteArray} (hc : t[k]? = some c) (hl : c.lines[n]? = some l) : io t ((k : Int), (n : Int)) = some l := by
 have h1 := (List.getElem?_eq_some_iff.1 hc).1
 have h2 := (List.getElem?_eq_some_iff.1 hl).1
 have h3 : kp t (k : Int) = c.lines.length := ual rfl hc
 have e1 : inB (k : Int) 0 ((t.length : Int) - 1) = true := inB_true.2 (by omega)
 have e2 : inB (n : Int) 0 ((kp t (k : Int) : Int) - 1) = true := inB_true.2 (by omega)
 simp only [io, e1, e2, Bool.and_self, cond_true, Int.toNat_natCast, hc, Option.bind_some, hl]
theorem sx {t : ah} {p : L2} {l : List ByteArray} (h : io t p = some l) : ∃ (k n : Nat) (c : aq), p = ((k : Int), (n : Int)) ∧ t[k]? = some c ∧ c.lines[n]? = some l := by
 unfold io at h
 cases h1 : inB p.1 0 ((t.length : Int) - 1) with
 | false => rw [h1] at h; cases h
 | true =>
  cases h2 : inB p.2 0 ((kp t p.1 : Int) - 1) with
  | false => rw [h1, h2] at h; cases h
  | true =>
   rw [h1, h2] at h
   simp only [Bool.and_self, cond_true] at h
   rw [inB_true] at h1 h2
   cases hc : t[p.1.toNat]? with
   | none => rw [hc] at h; cases h
   | some c =>
    rw [hc, Option.bind_some] at h
    exact ⟨p.1.toNat, p.2.toNat, c, by rw [Prod.ext_iff]; constructor <;> (dsimp only; omega), hc, h⟩
theorem placeB_true {t : ah} {p : PlaceD} : ga t p = true ↔ ∃ l, io t (p.ch, p.ln) = some l ∧ 0 ≤ p.wd ∧ p.wd < l.length := by
 unfold ga
 cases h : io t (p.ch, p.ln) with
 | none => simp
 | some l =>
  simp only [inB_true, Option.some.injEq]
  constructor
  ·exact fun h => ⟨l, rfl, by omega, by omega⟩
  ·rintro ⟨l', rfl, h1, h2⟩; omega
theorem vc {t : ah} (ht : ff t = true) {p : L2} {l : List ByteArray} (h : io t p = some l) : 0 ≤ p.1 ∧ p.1 ≤ 5 ∧ 0 ≤ p.2 ∧ p.2 ≤ 9 ∧ 1 ≤ l.length ∧ l.length ≤ 10 := by
 obtain ⟨k, n, c, rfl, hc, hl⟩ := sx h
 obtain ⟨h1, h2, h3⟩ := m5 ht
 obtain ⟨h4, h5, h6⟩ := h3 c (List.mem_of_getElem? hc)
 have h7 := h6 l (List.mem_of_getElem? hl)
 have h8 := (List.getElem?_eq_some_iff.1 hc).1
 have h9 := (List.getElem?_eq_some_iff.1 hl).1
 dsimp only
 omega
theorem mem_rows {t : ah} {ss : List jm} {r : RowD} : r ∈ li t ss ↔ ∃ p l, io t p = some l ∧ r = vz ss p l.length := by
 unfold li
 constructor
 ·intro h
  obtain ⟨l, hl, hr⟩ := List.mem_flatten.1 h
  obtain ⟨k, hk, rfl⟩ := List.mem_mapIdx.1 hl
  obtain ⟨n, hn, rfl⟩ := List.mem_mapIdx.1 hr
  exact ⟨_, _, ve (List.getElem?_eq_getElem hk) (List.getElem?_eq_getElem hn), rfl⟩
 ·rintro ⟨p, l, hw, rfl⟩
  obtain ⟨k, n, c, rfl, hc, hl⟩ := sx hw
  have h8 := (List.getElem?_eq_some_iff.1 hc)
  have h9 := (List.getElem?_eq_some_iff.1 hl)
  refine List.mem_flatten.2 ⟨_, List.mem_mapIdx.2 ⟨k, h8.1, rfl⟩, List.mem_mapIdx.2 ⟨n, by rw [h8.2]; exact h9.1, ?_⟩⟩
  congr 2
  simp only [h8.2, h9.2]
theorem mem_lines {t : ah} {p : L2} : p ∈ ml t ↔ ∃ l, io t p = some l := by
 rw [← zb t [], List.mem_map]
 constructor
 ·rintro ⟨r, hr, rfl⟩
  obtain ⟨q, l, hw, rfl⟩ := mem_rows.1 hr
  exact ⟨l, hw⟩
 ·rintro ⟨l, hw⟩
  exact ⟨_, mem_rows.2 ⟨p, l, hw, rfl⟩, rfl⟩
/-! ### References -/
/-! ### Where they lead -/
/-! ### Two editions -/
/-! ### Lines in order -/
def ltL (a b : L2) : Prop := a.1 < b.1 ∨ a.1 = b.1 ∧ a.2 < b.2
/-- numbers of a line that leads -/
structure PBd (m : Int) (x : udw) : Prop where
 ch : 0 ≤ x.ch ∧ x.ch ≤ 999
 ln : 0 ≤ x.ln ∧ x.ln ≤ 999
 tc : 0 ≤ x.tc ∧ x.tc ≤ 999
 tl : 0 ≤ x.tl ∧ x.tl ≤ 999
 n : 1 ≤ x.n ∧ x.n ≤ m
theorem PBd.mono {m m' : Int} {x : udw} (h : PBd m x) (hm : m ≤ m') : PBd m' x := ⟨h.ch, h.ln, h.tc, h.tl, h.n.1, by have := h.n.2; omega⟩
/-! ### A list into which one is put -/
theorem uid (t : ah) : (ml t).Pairwise ltL := by
 unfold ml
 rw [List.pairwise_flatten]
 constructor
 ·intro l hl
  obtain ⟨k, hk, rfl⟩ := List.mem_mapIdx.1 hl
  rw [List.pairwise_iff_getElem]
  intro i j hi hj hij
  simp only [List.getElem_mapIdx]
  right
  exact ⟨rfl, by dsimp only; omega⟩
 ·rw [List.pairwise_iff_getElem]
  intro i j hi hj hij x hx y hy
  simp only [List.getElem_mapIdx] at hx hy
  obtain ⟨a, ha, rfl⟩ := List.mem_mapIdx.1 hx
  obtain ⟨b, hb, rfl⟩ := List.mem_mapIdx.1 hy
  left
  dsimp only
  omega
theorem yh {t : ah} {p : L2} : (io t p).isSome = (inB p.1 0 ((t.length : Int) - 1) && inB p.2 0 ((kp t p.1 : Int) - 1)) := by
 unfold io
 cases h1 : inB p.1 0 ((t.length : Int) - 1) with
 | false => rfl
 | true =>
  cases h2 : inB p.2 0 ((kp t p.1 : Int) - 1) with
  | false => rfl
  | true =>
   simp only [Bool.and_self, cond_true]
   rw [inB_true] at h1 h2
   have hk : p.1.toNat < t.length := by omega
   have hn : kp t p.1 = t[p.1.toNat].lines.length := ual (k := p.1.toNat) (by omega) (List.getElem?_eq_getElem hk)
   rw [List.getElem?_eq_getElem hk, Option.bind_some, List.getElem?_eq_getElem (by omega)]
   rfl
/-! ### What is found first -/
end Go.AB
namespace Go.AB
open Go Go.RowKit
open Go.PB (aq ah PlaceD av ax aw)
end Go.AB
namespace Go.Proofs.YtgffhbbcpgdjjaaDoor
set_option maxRecDepth 10000
open Go.RowKit Go.AB
open Go.AB.Enc (cells)
open Go.PB (aq ah PlaceD av ax aw)
end Go.Proofs.YtgffhbbcpgdjjaaDoor
namespace Go.AB
open Go Go.RowKit
open Go.AB.Enc (cells)
open Go.PB (aq ah PlaceD av ax aw)
end Go.AB
namespace Go.Proofs.YtgffhbbcpgdjjaaDoor
set_option maxRecDepth 10000
open Go.RowKit Go.AB
open Go.AB.Enc (cells)
open Go.PB (aq ah PlaceD av ax aw)
/-! ### Plain editions -/
end Go.Proofs.YtgffhbbcpgdjjaaDoor
namespace Go.AB
open Go Go.RowKit
open Go.AB.Enc (cells)
open Go.PB (aq ah PlaceD av ax aw)
end Go.AB
namespace Go.Proofs.YtgffhbbcpgdjjaaDoor
set_option maxRecDepth 10000
open Go.RowKit Go.AB
open Go.AB.Enc (cells)
open Go.PB (aq ah PlaceD av ax aw)
/-! ### Books -/
end Go.Proofs.YtgffhbbcpgdjjaaDoor
namespace Go.AB
open Go Go.RowKit
open Go.AB.Enc (cells)
open Go.PB (aq ah PlaceD av ax aw)
end Go.AB
namespace Go.Proofs.YtgffhbbcpgdjjaaDoor
set_option maxRecDepth 10000
open Go.RowKit Go.AB
open Go.AB.Enc (cells)
open Go.PB (aq ah PlaceD av ax aw)
end Go.Proofs.YtgffhbbcpgdjjaaDoor
namespace Go.AB
open Go Go.RowKit Go.Proofs
open Go.AB.Enc (cells)

/-! ### Some names alone -/
def Env.only (E : Env) (p : Nat → Bool) : Env := { E with T := fun k => if p k then E.T k else none }
theorem Env.only_of {E : Env} {p : Nat → Bool} {n : Nat} {t : Nat × Nat × Value} (h : (E.only p).T n = some t) : E.T n = some t ∧ p n = true := by
 simp only [Env.only] at h
 split at h
 ·rename_i hp; exact ⟨h, hp⟩
 ·cases h
theorem Env.only_same {E : Env} {p : Nat → Bool} {n : Nat} (h : p n = true) : (E.only p).T n = E.T n := by simp only [Env.only]; rw [if_pos h]
theorem EvR.only (E : Env) (p : Nat → Bool) {w w' : World} (hc : ∀ b i, i < E.L b → w'.cell? ⟨b, i, none⟩ = w.cell? ⟨b, i, none⟩) : EvR E w (E.only p) w' :=
 ⟨rfl, fun _ => Nat.le_refl _, hc, Nat.le_refl _, fun _ _ ver wv val ht => ⟨ver, wv, val, (Env.only_of ht).1, Nat.le_refl _, fun _ => rfl⟩⟩
theorem SimG.move {E E' : Env} {w w' : World} {G G' : Nat → Option GObj} {nx : Nat} (h : SimG E w G nx) (he : EvR E w E' w') (hnx : E'.nx = E.nx) (hsz : w.heap.size ≤ w'.heap.size) (hL : E'.L = E.L)
  (hT : ∀ n t, E'.T n = some t → E.T n = some t) (hG : ∀ n o, G' n = some o → G n = some o ∧ E'.T n = E.T n) (hh : ∀ n t b, E'.T n = some t → blk t.2.2 = some b → w'.heap[b]? = w.heap[b]?) : SimG E' w' G' nx := by
 have hB := he.B
 refine ⟨hnx.trans h.nx, fun n o ho => ?_, fun n t ht => hnx ▸ h.lt n t (hT n t ht), fun n ver wv val b h1 h2 => ?_, fun n m t t' b h1 h2 => h.ap n m t t' b (hT _ _ h1) (hT _ _ h2), fun b hb => ?_, ?_⟩
 ·obtain ⟨h1, h2⟩ := hG n o ho
  exact (h.obj n o h1).keepr he h2 fun ver wv val b h3 h4 => ⟨hh n _ b (h2.trans h3) h4, by rw [hL]⟩
 ·have := h.tb n ver wv val b (hT n _ h1) h2
  rw [hB]
  exact ⟨this.1, Nat.lt_of_lt_of_le this.2 hsz⟩
 ·rw [hL]; exact h.fresh b (Nat.le_trans hsz hb)
 ·rw [hB]; exact Nat.le_trans h.base hsz
theorem ObjOk.tags {E E' : Env} {w w' : World} {n : Nat} {o : GObj} {ver wv : Nat} {val : Value} (h : ObjOk E w n o) (ht : E.T n = some (ver, wv, val)) (h' : ObjOk E' w' n o) : ∃ val', E'.T n = some (ver, wv, val') := by
 cases o with
 | fact v c => have := h.1; rw [ht] at this; cases this; exact ⟨_, h'.1⟩
 | raw wv o => obtain ⟨b, q, _⟩ := h; obtain ⟨b', q', _⟩ := h'; rw [ht] at q; cases q; exact ⟨_, q'⟩
 | map wv ok f => obtain ⟨b, _, _, q, _⟩ := h; obtain ⟨b', _, _, q', _⟩ := h'; rw [ht] at q; cases q; exact ⟨_, q'⟩
 | box wv cs => obtain ⟨b, _, _, q, _⟩ := h; obtain ⟨b', _, _, q', _⟩ := h'; rw [ht] at q; cases q; exact ⟨_, q'⟩
 | arr v wv tt sz len cs => obtain ⟨b, _, q, _⟩ := h; obtain ⟨b', _, q', _⟩ := h'; rw [ht] at q; cases q; exact ⟨_, q'⟩
 | tip len tt sz => obtain ⟨b, _, q, _⟩ := h; obtain ⟨b', _, q', _⟩ := h'; rw [ht] at q; cases q; exact ⟨_, q'⟩

/-! ### The world behind what only reads -/
theorem ui4 {w w' : World} (h1 : w'.os = w.os) (h2 : w'.tape = w.tape) (h3 : w'.output = w.output) (hd : w.drawn ≤ w'.drawn) (hh : ∀ (b : Nat) (o : Obj), w.heap[b]? = some o → w'.heap[b]? = some o) : ∃ q os, w' = Sort.grow (w.drewN q) os := by
 have hsz : w.heap.size ≤ w'.heap.size := by
  rcases Nat.eq_zero_or_pos w.heap.size with h | h
  ·omega
  ·have h4 := hh (w.heap.size - 1) _ (Array.getElem?_eq_getElem (by omega))
   have := (Array.getElem?_eq_some_iff.1 h4).1
   omega
 have e : w'.heap = w.heap ++ (w'.heap.toList.drop w.heap.size).toArray := by
  apply Array.ext_getElem?
  intro k
  rw [Array.getElem?_append]
  split
  ·rename_i hk
   rw [Array.getElem?_eq_getElem hk]
   exact hh k _ (Array.getElem?_eq_getElem hk)
  ·rename_i hk
   have e3 : (w'.heap.toList.drop w.heap.size).toArray[k - w.heap.size]? = w'.heap[k]? := by
    rw [List.getElem?_toArray, List.getElem?_drop, Array.getElem?_toList]
    congr 1
    omega
   exact e3.symm
 refine ⟨w'.drawn - w.drawn, (w'.heap.toList.drop w.heap.size).toArray, ?_⟩
 cases w with
 | mk heap tape drawn os output =>
 cases w' with
 | mk heap' tape' drawn' os' output' =>
  simp only at h1 h2 h3 hd e
  subst h1; subst h2; subst h3
  simp only [Sort.grow, World.drewN, World.mk.injEq]
  exact ⟨e, trivial, by omega, trivial, trivial⟩

theorem ujm {P : Program} {g : FuncId} {cs : List C} {G : Nat → Option GObj} {nx : Nat} {r : C} (hp : PC P g cs G nx fun r' G' nx' => r' = r ∧ G' = G ∧ nx' = nx) {E : Env} {w : World} {vs : List Value} (hr : Rs E w cs vs) (hg : SimG E w G nx) :
  Calls P g vs.toArray w fun e w' => ∃ v E', e = .returned v ∧ R E' w' r v ∧ ∃ q os, w' = Sort.grow (w.drewN q) os := by
 have he : EvR E w (E.only fun n => (G n).isSome) w := EvR.only E _ fun _ _ _ => rfl
 have hg2 : SimG (E.only fun n => (G n).isSome) w G nx := hg.move he rfl (Nat.le_refl _) rfl (fun n t ht => (Env.only_of ht).1) (fun n o ho => ⟨ho, Env.only_same (by rw [ho]; rfl)⟩) (fun _ _ _ _ _ => rfl)
 refine (ukh (fun e w' ⟨_, v, _, _, _, h, _⟩ => ⟨v, h⟩) (hp _ w vs (hr.evr he) hg2)).mono ?_
 rintro e w' ⟨⟨r', v, E', G', nx', rfl, hev, hrv, hg', h5, h6, h7⟩, hd⟩
 subst h5; subst h6; subst h7
 refine ⟨v, E', rfl, hrv, ui4 hev.below.os hev.below.tape hev.below.output hd fun b o hb => ?_⟩
 by_cases ht : ∃ n t, (E.only fun n => (G' n).isSome).T n = some t ∧ blk t.2.2 = some b
 ·obtain ⟨n, ⟨ver, wv, val⟩, ht, hbl⟩ := ht
  obtain ⟨o', ho'⟩ := Option.isSome_iff_exists.1 (Env.only_of ht).2
  obtain ⟨val', hT'⟩ := (hg2.obj n o' ho').tags ht (hg'.obj n o' ho')
  obtain ⟨ver0, wv0, val0, q1, q2, q3⟩ := hev.T n (hg2.lt n _ ht) _ _ _ hT'
  rw [ht] at q1
  cases q1
  exact ((q3 rfl).2 rfl b hbl).trans hb
 ·exact hev.x.oth b o hb fun n t ht' hbl => ht ⟨n, t, ht', hbl⟩

/-! ### Cells that are values -/
def oh : C → Value
 | .v x => x
 | _ => undef
def Plain (cs : List C) : Prop := ∀ c ∈ cs, ∃ x, c = .v x ∧ okV x = true
theorem Plain.rs {E : Env} {w : World} {cs : List C} (h : Plain cs) : Rs E w cs (cs.map oh) := by
 refine ⟨by simp, fun j c v h1 h2 => ?_⟩
 rw [List.getElem?_map, h1] at h2
 cases h2
 obtain ⟨x, rfl, hx⟩ := h c (List.mem_of_getElem? h1)
 exact .v hx
theorem Plain.eq {E : Env} {w : World} {cs : List C} {vs : List Value} (h : Plain cs) (hr : Rs E w cs vs) : vs = cs.map oh := by
 apply List.ext_getElem?
 intro j
 rw [List.getElem?_map]
 cases hc : cs[j]? with
 | none =>
  have := List.getElem?_eq_none_iff.1 hc
  rw [List.getElem?_eq_none (by rw [hr.1]; exact this)]; rfl
 | some c =>
  have hj : j < vs.length := by rw [hr.1]; exact (List.getElem?_eq_some_iff.1 hc).1
  obtain ⟨x, rfl, hx⟩ := h c (List.mem_of_getElem? hc)
  rw [List.getElem?_eq_getElem hj, (hr.2 j _ _ hc (List.getElem?_eq_getElem hj)).v_inv]
  rfl
theorem Plain.one {cs : List C} (h : Plain cs) : ∀ v ∈ cs.map oh, v.oneCell' = true := fun v hv => by
 obtain ⟨c, hc, rfl⟩ := List.mem_map.1 hv
 obtain ⟨x, rfl, hx⟩ := h c hc
 exact uah hx

theorem ui9 {α : Type} [Inhabited α] (enc : α → List Value) (k : Nat) (hk : ∀ x, (enc x).length = k) (d : Array α) : (Sort.flatK enc k d).toList = (d.toList.map enc).flatten := by
 have hl : ∀ r ∈ d.toList.map enc, r.length = k := fun r hr => by
  obtain ⟨x, _, rfl⟩ := List.mem_map.1 hr
  exact hk x
 have hlen : (d.toList.map enc).flatten.length = d.size * k := by rw [ly hl, List.length_map, Array.length_toList]
 apply List.ext_getElem?
 intro t
 by_cases ht : t < d.size * k
 ·have hkp : 0 < k := Nat.pos_of_ne_zero fun e => by subst e; simp at ht
  have hq : t / k < d.size := by rw [Nat.div_lt_iff_lt_mul hkp]; exact ht
  have hm : t % k < k := Nat.mod_lt _ hkp
  have h1 : d.toList[t / k]? = some d[t / k]! := by rw [Array.getElem?_toList, Array.getElem?_eq_getElem hq, getElem!_pos d _ hq]
  have hlt2 : t % k < (enc d[t / k]!).length := by rw [hk]; exact hm
  have h2 : (enc d[t / k]!)[t % k]? = some (enc d[t / k]!)[t % k]! := by rw [List.getElem?_eq_getElem hlt2, getElem!_pos (enc d[t / k]!) (t % k) hlt2]
  have h3 := uj hl (c7 (f := enc) h1) h2
  rw [Nat.div_add_mod'] at h3
  rw [h3, Array.getElem?_toList, Array.getElem?_eq_getElem (by rw [Sort.size_flatK]; exact ht), ← getElem!_pos (Sort.flatK enc k d) t (by rw [Sort.size_flatK]; exact ht), Sort.get_flatK _ _ _ _ ht]
 ·rw [List.getElem?_eq_none (by rw [Array.length_toList, Sort.size_flatK]; omega), List.getElem?_eq_none (by omega)]

theorem ubn {w : World} {g n : Nat} {os : Array Obj} {cur : Array Value} {e : TypeId} {fr : Nat × Nat} (F : Array Value) (hb : w.heap[g]? = some (.cells cur e fr)) :
  (Sort.grow (Sort.putRow id (Sort.ahead w n) g 0 F) os).heap[g]? = some (.cells (Sort.putCells id 0 F cur) e fr) := by
 have hg : g < w.heap.size := (Array.getElem?_eq_some_iff.1 hb).1
 rw [Sort.heap_grow_old _ _ (by simpa using hg)]
 simp [Sort.putRow, Sort.mapBlock, Sort.ahead, Array.getElem?_modify, hb, Sort.onCells]
theorem xd {w : World} {g n k : Nat} {os : Array Obj} (F : Array Value) (hk : k < w.heap.size) (hne : k ≠ g) : (Sort.grow (Sort.putRow id (Sort.ahead w n) g 0 F) os).heap[k]? = w.heap[k]? := by
 rw [Sort.heap_grow_old _ _ (by simpa using hk)]
 simp [Sort.putRow, Sort.mapBlock, Sort.ahead, Array.getElem?_modify, Ne.symm hne]
theorem ym (cur F : Array Value) (m : Nat) (hm : m = F.size) (h : F.size ≤ cur.size) : (Sort.putCells id 0 F cur).toList.take m = F.toList := by
 subst hm
 apply List.ext_getElem?
 intro j
 by_cases hj : j < F.size
 ·rw [List.getElem?_take_of_lt hj, Array.getElem?_toList, Array.getElem?_toList]
  simp [Sort.putCells, hj, show j < cur.size by omega]
 ·rw [List.getElem?_take_eq_none (by omega), List.getElem?_eq_none (by simp; omega)]

/-- An order of what p holds of. -/
structure Ord3 {β : Type} (p : β → Prop) (cf : β → β → Int) : Prop where
 irrefl : ∀ x, p x → ¬ cf x x < 0
 trans : ∀ x y z, p x → p y → p z → cf x y < 0 → cf y z < 0 → cf x z < 0
 ntrans : ∀ x y z, p x → p y → p z → ¬ cf x y < 0 → ¬ cf y z < 0 → ¬ cf x z < 0

/-- slices.SortFunc of what is the frame's own, by what only reads. -/
theorem uch {β : Type} [Enc β] {P : Program} {o : Oper} {st : St} {K : St → Prop} {q : Go.Shelf.Ren} (L : SlLaysF0.n6 P q) [Ty P (q.t 24) true (Enc.n β)] {n ver wv m : Nat} {e : TypeId} {xs : List β} {cs : List C} (p : β → Prop) (cf : β → β → Int) {f g : FuncId} [Fun P g] {caps : List C} {fv s x : Operand} {ats : Array TypeId}
  (ho : o.op = .call { callee := .value fv, args := #[s, x], argTypes := ats }) (hf : evC st fv = .fn (.func f) []) (hfq : f = q.f 6) (hs : evC st s = .own n ver m) (hG : st.G n = some (.arr ver wv e (Enc.n β) m cs)) (hcs : cs = cp xs) (hm : m = xs.length) (hx : evC st x = .fn (.func g) caps)
  (hpl : ∀ y, p y → Plain (cells y)) (hxs : ∀ y ∈ xs, p y) (hlen : xs.length < 4611686018427387904)
  (hcf : ∀ a b, p a → p b → PC P g (.agg (cells a) :: .agg (cells b) :: caps) (kw st.G n) st.nx fun r G' nx' => r = .v (.int .i64 (cf a b)) ∧ G' = kw st.G n ∧ nx' = st.nx) (hO : Ord3 p cf)
  (h : ∀ ys : List β, ys.Perm xs → ys.Pairwise (fun a b => ¬ cf b a < 0) → K (St.put { st with G := aj st.G n (.arr ver (wv + 1) e (Enc.n β) m (cp ys)) } o.dst (.tup []))) : EStep P o st K := by
 subst hfq; subst hcs; subst hm
 intro E w a hsim Kr Q hq
 obtain ⟨fs, e1, hfs⟩ := (hf ▸ hsim.ev fv).fn_inv
 have hfs0 : fs = [] := List.eq_nil_of_length_eq_zero hfs.1
 subst hfs0
 obtain ⟨vs, e2, hvs⟩ := (hx ▸ hsim.ev x).fn_inv
 obtain ⟨val, us, hT, hown, hcone, hrs, hL, hsz1⟩ := hsim.g.obj n _ hG
 obtain ⟨e3, q1, ad, cap, e4, h6, h7⟩ := ti (hs ▸ hsim.ev s) hT hown
 unfold Oper.wp
 have hrun : (execOp a.eval o).run P w = .ok (.enter (q.f 6) #[a.eval s, a.eval x]) w := by
  simp only [execOp, ho, resolve, e1]
  have hcf6 := L.f6.enters rfl #[a.eval s, a.eval x] w
  simpa [Deferred.ofValue, invoke] using hcf6
 rw [hrun, e2, e4]
 -- what is changed
 have fin : ∀ (w' : World) (ys : List β), ys.Perm xs → ys.Pairwise (fun a b => ¬ cf b a < 0) → Below E.B w w' → (∀ k, k < w.heap.size → blk val ≠ some k → w'.heap[k]? = w.heap[k]?) →
   (∀ b (o : Obj), blk val = some b → w.heap[b]? = some o → ∃ o' : Obj, w'.heap[b]? = some o' ∧ o'.isCells = o.isCells) → (∃ us', w'.ownsRow E.B e (Enc.n β) val xs.length us' ∧ us' = (cp ys).map oh ∧ Plain (cp ys)) →
   Kr (a.put o.dst (.tuple #[])) w' := by
  intro w' ys hp1 hp2 hb hold hic ⟨us', how', hus, hpy⟩
  have hchg : Chg E w w' ver wv val ver (wv + 1) val 0 := ⟨hb, hold, fun b hb => .inl ⟨hb, by rw [hL b hb]; exact Nat.le_refl _⟩, fun b i hb hi => by rw [hL b hb] at hi; omega, .inr ⟨rfl, rfl, by omega⟩, hic, fun hv => absurd hv (Nat.lt_irrefl _), fun b _ hl => absurd hl (Nat.not_lt_zero _)⟩
  have hev := Ev.chg hsim.g hT hchg
  have hobj : ObjOk (E.chg n (ver, wv + 1, val) 0) w' n (.arr ver (wv + 1) e (Enc.n β) xs.length (cp ys)) :=
   ⟨val, us', by simp [Env.chg], how', fun c hc => by obtain ⟨v, rfl, _⟩ := hpy c hc; rfl, hus ▸ hpy.rs, fun b hb => by simp [Env.chg, hb], hsz1⟩
  exact hq _ _ _ _ hev ((hsim.evd hev (SimG.chg hsim.g hT hchg hobj)).put o.dst (R.undef _ _)) (h ys hp1 hp2)
 by_cases h0 : xs = []
 ·subst h0
  refine (AnyF.slices_SortFunc_none L ad cap _ w).mono ?_
  rintro e' w' ⟨rfl, rfl⟩
  refine fin w' [] List.Perm.nil List.Pairwise.nil (Below.refl _ _) (fun _ _ _ => rfl) (fun b o _ ho => ⟨o, ho, rfl⟩) ⟨us, hown, ?_, fun c hc => by simp [cp] at hc⟩
  exact List.eq_nil_of_length_eq_zero (by rw [hrs.1]; rfl)
 ·obtain ⟨y0, hy0⟩ := List.exists_mem_of_ne_nil xs h0
  letI : Inhabited { y : β // p y } := ⟨⟨y0, hxs y0 hy0⟩⟩
  have hn1 : 1 ≤ xs.length := by cases xs with | nil => exact absurd rfl h0 | cons => simp
  obtain ⟨gb, cap', cur, hval, hgB, hh, hc1, hc2, hc3, hc4⟩ : ∃ gb cap' cur, val = .slice (some ⟨gb, 0, none⟩) xs.length cap' ∧ E.B ≤ gb ∧ w.heap[gb]? = some (.cells cur e (0, 0)) ∧ xs.length ≤ cap' ∧ cap' ≤ maxLen ∧ cur.size = cap' * Enc.n β ∧ us = cur.toList.take (xs.length * Enc.n β) := by
   rcases hown.2 with ⟨_, q0⟩ | ⟨g', c', cu, q2, q3, q4, q5, q6, q7, q8⟩
   ·omega
   ·exact ⟨g', c', cu, q2, q3, q4, q5, q6, q7, q8.symm⟩
  have e5 : ad = some ⟨gb, 0, none⟩ ∧ cap = cap' := by
   have := e4.symm.trans (e3.trans hval)
   simp only [Value.slice.injEq] at this
   exact ⟨this.1, this.2.2⟩
  obtain ⟨rfl, rfl⟩ := e5
  have hgb := (Array.getElem?_eq_some_iff.1 hh).1
  have hpx : Plain (cp xs) := fun c hc => by
   obtain ⟨r, hr, hc⟩ := List.mem_flatten.1 hc
   obtain ⟨y, hy, rfl⟩ := List.mem_map.1 hr
   exact hpl y (hxs y hy) c hc
  have hus := hpx.eq hrs
  -- the row of the elements
  let enc : { y : β // p y } → List Value := fun y => (cells y.1).map oh
  have hk : ∀ y, (enc y).length = Enc.n β := fun y => by simp only [enc, List.length_map, Enc.len]
  have hfl : ∀ ds : List { y : β // p y }, (ds.map enc).flatten = (cp (ds.map (·.1))).map oh := fun ds => by
   induction ds with
   | nil => rfl
   | cons y ds ih =>
    simp only [List.map_cons, List.flatten_cons, ih]
    simp [cp, enc]
  let d : Array { y : β // p y } := (xs.attachWith p hxs).toArray
  have hd : d.toList.map (·.1) = xs := by simp [d]
  have hds : d.size = xs.length := by simp [d]
  have hF : ∀ d' : Array { y : β // p y }, (Sort.flatK enc (Enc.n β) d').toList = (cp (d'.toList.map (·.1))).map oh := fun d' => (ui9 enc _ hk d').trans (hfl _)
  have hcur : xs.length * Enc.n β ≤ cur.size := by rw [hc3]; exact Nat.mul_le_mul_right _ hc1
  have hH : Sort.HoldsK enc (Enc.n β) w gb 0 d := by
   intro j hj
   rw [Sort.size_flatK, hds] at hj
   have h8 : (Sort.flatK enc (Enc.n β) d).toList = us := by rw [hF, hd, hus]
   have h9 : us[j]? = some (Sort.flatK enc (Enc.n β) d)[j]! := by
    rw [← h8, Array.getElem?_toList, getElem!_pos _ j (by rw [Sort.size_flatK, hds]; exact hj), Array.getElem?_eq_getElem]
   rw [hc4, List.getElem?_take_of_lt hj, Array.getElem?_toList] at h9
   refine ⟨by rw [Nat.zero_add]; exact kz hh h9, ?_⟩
   simp [World.frozen?, hh]
  have hcmp : CmpLays P g vs.toArray enc (Enc.n β) (fun a b => cf a.1 b.1) gb 0 d.size w := by
   intro mm os dk hdk y z
   have hW1 : ∀ k, k < w.heap.size → k ≠ gb → (sortWorldK enc (Enc.n β) w gb 0 mm dk os).heap[k]? = w.heap[k]? := fun k hk hne => xd _ hk hne
   have hW2 : w.heap.size ≤ (sortWorldK enc (Enc.n β) w gb 0 mm dk os).heap.size := by
    show _ ≤ (Sort.grow (Sort.putRow id (Sort.ahead w mm) gb 0 _) os).heap.size
    rw [Sort.size_grow, Sort.size_putRow]; exact Nat.le_add_right _ _
   generalize sortWorldK enc (Enc.n β) w gb 0 mm dk os = W at hW1 hW2
   have hLg : E.L gb = 0 := hL gb (by rw [hval]; rfl)
   have he : EvR E w (E.only fun k => decide (k ≠ n)) W := EvR.only E _ fun b i hi => by
    by_cases hbg : b = gb
    ·subst hbg; omega
    ·by_cases hbs : b < w.heap.size
     ·exact World.cell?_of_block (hW1 b hbs hbg)
     ·rw [hsim.g.fresh b (by omega)] at hi; omega
   have hg3 : SimG (E.only fun k => decide (k ≠ n)) W (kw st.G n) st.nx := hsim.g.move he rfl hW2 rfl (fun k t ht => (Env.only_of ht).1) (fun k o' ho' => by
    have hkn : k ≠ n := fun e => by subst e; simp [kw] at ho'
    exact ⟨(kg hkn).symm.trans ho', Env.only_same (decide_eq_true hkn)⟩) (fun k t b ht hb => by
    obtain ⟨h8, h9⟩ := Env.only_of ht
    have hkn : k ≠ n := of_decide_eq_true h9
    refine hW1 b (hsim.g.tb k _ _ _ b h8 hb).2 fun e => ?_
    subst e
    exact hsim.g.ap k n _ _ b h8 hT hkn hb (by show blk val = some b; rw [hval]; rfl))
   have hagg : ∀ y : { y : β // p y }, R (E.only fun k => decide (k ≠ n)) W (.agg (cells y.1)) (.agg (enc y).toArray) := fun y => (hpl y.1 y.2).rs.agg fun c hc => by obtain ⟨v, rfl, _⟩ := hpl y.1 y.2 c hc; rfl
   have hr3 := Rs.cons (hagg y) (Rs.cons (hagg z) (hvs.evr he))
   have hc := ujm (hcf y.1 z.1 y.2 z.2) hr3 hg3
   have hargs : (#[.agg (enc y).toArray, .agg (enc z).toArray] ++ vs.toArray : Array Value) = (Value.agg (enc y).toArray :: .agg (enc z).toArray :: vs).toArray := by simp
   rw [hargs]
   refine hc.mono ?_
   rintro e' w' ⟨v, E', rfl, hv, hw⟩
   rw [hv.v_inv]
   exact ⟨rfl, hw⟩
  have hO' : Sort.SWO (ltOf fun a b : { y : β // p y } => cf a.1 b.1) := ⟨fun y => decide_eq_false (hO.irrefl _ y.2), fun y z u h8 h9 => decide_eq_true (hO.trans _ _ _ y.2 z.2 u.2 (of_decide_eq_true h8) (of_decide_eq_true h9)), fun y z u h8 h9 => decide_eq_false (hO.ntrans _ _ _ y.2 z.2 u.2 (of_decide_eq_false h8) (of_decide_eq_false h9))⟩
  have hcall := AnyQ.slices_SortFunc L (Enc.n β) (fun w => Ty.row (P := P) (w := w)) (fun w => Ty.size (P := P) (w := w)) enc hk (fun y => (hpl y.1 y.2).one) (fun a b => cf a.1 b.1) hO' g vs.toArray gb 0 cap d w (fun args w => vx args w) hcmp hH hgb (by rw [hds]; exact hlen)
  rw [hds] at hcall
  refine hcall.mono ?_
  rintro e' w' ⟨rfl, d', nn, os, hperm, hsorted, hw⟩
  have hd's : d'.size = xs.length := hperm.1.trans hds
  have hpm : d'.toList.Perm d.toList := by
   have := hperm.2.2
   rwa [← hds, Array.extract_size, hds, ← hd's, Array.extract_size] at this
  subst hw
  refine fin _ (d'.toList.map (·.1)) (hd ▸ hpm.map _) ?_ ⟨rfl, rfl, rfl, ?_, fun k hk => xd _ (Nat.lt_of_lt_of_le hk hsim.g.base) (by omega)⟩ (fun k hk hne => xd _ hk fun e => hne (by rw [e, hval]; rfl)) (fun b o hb ho => ?_) ⟨_, ⟨?_, .inr ⟨gb, cap, _, hval, hgB, ubn _ hh, hc1, hc2, ?_, rfl⟩⟩, ?_, ?_⟩
  ·rw [List.pairwise_map, List.pairwise_iff_getElem]
   intro i j hi hj hij
   rw [Array.length_toList] at hi hj
   have := of_decide_eq_false (hsorted i j (Nat.zero_le _) hij (by omega))
   rw [getElem!_pos d' i hi, getElem!_pos d' j hj] at this
   simpa using this
  ·show _ ≤ (Sort.grow (Sort.putRow id (Sort.ahead w nn) gb 0 _) os).heap.size
   rw [Sort.size_grow, Sort.size_putRow]; exact Nat.le_add_right _ _
  ·rw [hval] at hb
   simp only [blk, Option.some.injEq] at hb
   subst hb
   rw [hh] at ho
   cases ho
   exact ⟨_, ubn _ hh, rfl⟩
  ·rw [ym _ _ _ (by rw [Sort.size_flatK, hd's]) (by rw [Sort.size_flatK, hd's]; exact hcur), Array.length_toList, Sort.size_flatK, hd's]
  ·simp only [Sort.putCells, Array.size_mapIdx]; exact hc3
  ·rw [ym _ _ _ (by rw [Sort.size_flatK, hd's]) (by rw [Sort.size_flatK, hd's]; exact hcur)]
   exact hF d'
  ·intro c hc
   obtain ⟨r, hr, hc⟩ := List.mem_flatten.1 hc
   obtain ⟨y, hy, rfl⟩ := List.mem_map.1 hr
   obtain ⟨y', _, rfl⟩ := List.mem_map.1 hy
   exact hpl y'.1 y'.2 c hc
end Go.AB
namespace Go.AB
open Go Go.RowKit
open Go.AB.Enc (cells)
def gl (a b : Int) : Int := bif decide (a < b) then -1 else bif decide (b < a) then 1 else 0
def ez : List Int → List Int → Int
 | [], [] => 0
 | [], _ :: _ => -1
 | _ :: _, [] => 1
 | x :: a, y :: b => bif decide (gl x y = 0) then ez a b else gl x y
theorem uj4 {a b : Int} : gl a b < 0 ↔ a < b := by
 unfold gl
 by_cases h : a < b
 ·simp [h]
 by_cases h2 : b < a <;> simp [h, h2]
theorem cmpI_zero {a b : Int} : gl a b = 0 ↔ a = b := by
 unfold gl
 by_cases h : a < b
 ·simp [h]; omega
 by_cases h2 : b < a <;> simp [h, h2] <;> omega
/-- words of the same length, one behind the other -/
def ltW : List Int → List Int → Prop
 | x :: a, y :: b => x < y ∨ x = y ∧ ltW a b
 | _, _ => False
theorem ms : ∀ {a b : List Int}, a.length = b.length → (ez a b < 0 ↔ ltW a b)
 | [], [], _ => by simp [ez, ltW]
 | x :: a, y :: b, h => by
  simp only [ez, ltW]
  by_cases h0 : gl x y = 0
  ·have := cmpI_zero.1 h0
   subst this
   rw [decide_eq_true h0, cond_true, ms (by simpa using h)]
   simp
  have := mt cmpI_zero.2 h0
  rw [decide_eq_false h0, cond_false, uj4]
  constructor
  ·exact .inl
  rintro (h1 | ⟨h1, _⟩)
  ·exact h1
  exact absurd h1 this
end Go.AB
namespace Go.Proofs.YtgffhbbcpgdjjaaDoor
set_option maxRecDepth 10000
open Go.RowKit Go.AB
open Go.AB.Enc (cells)
theorem ubj (x : Int) : Pure Tryd.prog 106 [.v (.int .i64 x)] (.v (.bool false)) := by
 refine dr Tryd.func106 rfl (fun m => .v) fun G nx => ?_
 simp only [Tryd.ntmps106, List.length_cons, List.length_nil, Nat.reduceAdd, Nat.reduceSub]
 refine bv fun hlt => ?_
 dsimp only at hlt
 refine yS fun _ K1 => ?_
 refine yR ?_
 refine yA rfl rfl ?_
 refine yN ?_
 dsimp only [St.put]
 refine K1 _ ?_
 refine yS fun _ K2 => ?_
 refine yR ?_
 refine yM rfl rfl ?_
 refine yM rfl rfl ?_
 refine aa rfl (f8 rfl rfl rfl) ?_
 refine yA rfl rfl ?_
 refine yN ?_
 dsimp only [St.put]
 refine K2 _ ?_
 refine ay ?_
 refine cg rfl (by constructor) zN zS ?_
 exact vb (by simp)
theorem uq (x y : Int) : Pure Tryd.prog 90 [.v (.int .i64 x), .v (.int .i64 y)] (.v (.int .i64 (gl x y))) := by
 refine dr Tryd.func90 rfl (fun m => .v) fun G nx => ?_
 simp only [Tryd.ntmps90, List.length_cons, List.length_nil, Nat.reduceAdd, Nat.reduceSub]
 refine bv fun hlt => ?_
 dsimp only at hlt
 refine yS fun _ K1 => ?_
 refine yR ?_
 refine yA rfl rfl ?_
 refine yN ?_
 dsimp only [St.put]
 refine K1 _ ?_
 refine yS fun _ K2 => ?_
 refine yR ?_
 refine yM rfl rfl ?_
 try dsimp only [St.put]
 refine ab rfl (az rfl rfl rfl (ubj _) ?_)
 refine yA rfl rfl ?_
 refine yN ?_
 dsimp only [St.put]
 refine K2 _ ?_
 refine yS fun _ K3 => ?_
 refine yR ?_
 refine yM rfl rfl ?_
 try dsimp only [St.put]
 refine ab rfl (az rfl rfl rfl (ubj _) ?_)
 refine yA rfl rfl ?_
 refine yN ?_
 dsimp only [St.put]
 refine K3 _ ?_
 refine yS fun _ K4 => ?_
 refine yS fun _ K5 => ?_
 refine yR ?_
 refine aa rfl (dt (c := false) (ar rfl (by constructor)) (by rfl)) ?_
 refine yN ?_
 dsimp only [St.put]
 refine K5 _ ?_
 refine bc rfl (fun h => by cases h) (fun _ => ?_)
 refine bi ?_
 refine K4 _ ?_
 refine yS fun _ K6 => ?_
 refine yS fun _ K7 => ?_
 refine yR ?_
 refine aa rfl (dt (c := false) (ar rfl (by constructor)) (by rfl)) ?_
 refine yN ?_
 dsimp only [St.put]
 refine K7 _ ?_
 refine bc rfl (fun h => by cases h) (fun _ => ?_)
 refine bi ?_
 refine K6 _ ?_
 refine yS fun _ K8 => ?_
 refine yS fun _ K9 => ?_
 refine yR ?_
 refine yM rfl rfl ?_
 refine yM rfl rfl ?_
 refine aa rfl (dp rfl rfl rfl) ?_
 refine yN ?_
 dsimp only [St.put]
 refine K9 _ ?_
 refine bc rfl (fun hc => ?_) (fun hc => ?_)
 ·have h1 := of_decide_eq_true hc
  refine yS fun _ K10 => ?_
  refine yR ?_
  refine yA rfl rfl ?_
  refine yN ?_
  dsimp only [St.put]
  refine K10 _ ?_
  refine ay ?_
  refine cg rfl (by constructor) zN zS ?_
  exact vi (by simp [gl, h1])
 have h1 := of_decide_eq_false hc
 refine bi ?_
 refine K8 _ ?_
 refine yS fun _ K11 => ?_
 refine yS fun _ K12 => ?_
 refine yR ?_
 refine yM rfl rfl ?_
 refine yM rfl rfl ?_
 refine aa rfl (ot rfl rfl rfl) ?_
 refine yN ?_
 dsimp only [St.put]
 refine K12 _ ?_
 refine bc rfl (fun hc => ?_) (fun hc => ?_)
 ·have h2 := of_decide_eq_true hc
  refine yS fun _ K13 => ?_
  refine yR ?_
  refine yA rfl rfl ?_
  refine yN ?_
  dsimp only [St.put]
  refine K13 _ ?_
  refine ay ?_
  refine cg rfl (by constructor) zN zS ?_
  exact vi (by have h2' : y < x := h2; simp [gl, h1, h2'])
 have h2 := of_decide_eq_false hc
 refine bi ?_
 refine K11 _ ?_
 refine yS fun _ K14 => ?_
 refine yR ?_
 refine yA rfl rfl ?_
 refine yN ?_
 dsimp only [St.put]
 refine K14 _ ?_
 refine ay ?_
 refine cg rfl (by constructor) zN zS ?_
 exact vi (by have h2' : ¬ y < x := h2; simp [gl, h1, h2'])
theorem uct {a b : List Int} {k : Nat} {x y : Int} (hx : a[k]? = some x) (hy : b[k]? = some y) : ez (a.drop k) (b.drop k) = bif decide (gl x y = 0) then ez (a.drop (k + 1)) (b.drop (k + 1)) else gl x y := by
 obtain ⟨h1, h2⟩ := List.getElem?_eq_some_iff.1 hx
 obtain ⟨h3, h4⟩ := List.getElem?_eq_some_iff.1 hy
 rw [List.drop_eq_getElem_cons h1, List.drop_eq_getElem_cons h3, h2, h4]; rfl
theorem uj3 (a b : List Int) (ha : a.length ≤ 1000) (hb : b.length ≤ 1000) : Pure Tryd.prog 82 [lst a, lst b] (.v (.int .i64 (ez a b))) := by
 refine dr Tryd.func82 rfl (fun m => .v) fun G nx => ?_
 simp only [Tryd.ntmps82, List.length_cons, List.length_nil, Nat.reduceAdd, Nat.reduceSub]
 refine bv fun hlt => ?_
 dsimp only at hlt
 refine yS fun _ K1 => ?_
 refine yR ?_
 refine yA rfl rfl ?_
 refine yN ?_
 dsimp only [St.put]
 refine K1 _ ?_
 refine yS fun _ K2 => ?_
 refine yS fun _ K3 => ?_
 refine yR ?_
 refine yM rfl rfl ?_
 refine aa rfl (cc rfl rfl (List.length_map _)) ?_
 refine yM rfl rfl ?_
 refine yN ?_
 dsimp only [St.put]
 refine K3 _ ?_
 refine cd ?_
 refine du 12 ?_
 refine zQ ?_
 refine fa (G) zX ?_
 dsimp only
 refine et (X := Nat) (fun k => k ≤ a.length ∧ k ≤ b.length ∧ ez a b = ez (a.drop k) (b.drop k)) (fun k => a.length - k) (fun k => [(5, .any), (6, .any), (7, .any), (8, .any), (11, .v (.int .i64 (k : Int)))]) (fun k G' => G') 0 rfl ?_ ?_ (fun _ _ h => h) ?_ ?_ ?_
 ·exact ⟨Nat.zero_le _, Nat.zero_le _, rfl⟩
 ·exact zF
 ·rintro k hI
  exact zL
 ·exact fun _ _ _ _ h => .inl h
 rintro k hI
 dsimp only at hI ⊢
 refine yS fun _ K4 => ?_
 refine yR ?_
 refine aa rfl (dp rfl rfl rfl) ?_
 refine yN ?_
 dsimp only [St.put]
 refine K4 _ ?_
 refine yS fun _ K5 => ?_
 refine bc rfl (fun hc => ?_) (fun hc => ?_)
 ·replace hc := of_decide_eq_true hc
  obtain ⟨x, hx⟩ : ∃ x, a[k]? = some x := fl (by omega)
  refine bi ?_
  refine K5 _ ?_
  refine yS fun _ K6 => ?_
  refine cd ?_
  refine yS fun _ K7 => ?_
  refine yR ?_
  refine yM rfl rfl ?_
  refine aa rfl (c5 rfl rfl rfl rfl (c7 (by assumption)) (Enc.len _)) ?_
  refine yL rfl rfl rfl ?_
  refine yA rfl rfl ?_
  refine yA rfl rfl ?_
  refine yN ?_
  dsimp only [St.put]
  refine K7 _ ?_
  refine yS fun _ K8 => ?_
  refine yS fun _ K9 => ?_
  refine yR ?_
  refine yM rfl rfl ?_
  refine yM rfl rfl ?_
  refine aa rfl (cc rfl rfl (List.length_map _)) ?_
  refine aa rfl (pq rfl rfl rfl) ?_
  refine yN ?_
  dsimp only [St.put]
  refine K9 _ ?_
  refine bc rfl (fun hc => ?_) (fun hc => ?_)
  ·replace hc := of_decide_eq_true hc
   refine yS fun _ K10 => ?_
   refine yR ?_
   refine yA rfl rfl ?_
   refine yN ?_
   dsimp only [St.put]
   refine K10 _ ?_
   refine ay ?_
   refine cg rfl (by constructor) zN zS ?_
   exact vi (by
    rw [hI.2.2, List.drop_of_length_le (show b.length ≤ k by omega)]
    obtain ⟨h1, h2⟩ := List.getElem?_eq_some_iff.1 hx
    rw [List.drop_eq_getElem_cons h1]; rfl)
  replace hc := of_decide_eq_false hc
  obtain ⟨y, hy⟩ : ∃ x, b[k]? = some x := fl (by omega)
  refine bi ?_
  refine K8 _ ?_
  refine yS fun _ K11 => ?_
  refine yR ?_
  refine yM rfl rfl ?_
  refine yM rfl rfl ?_
  refine aa rfl (c5 rfl rfl rfl rfl (c7 (by assumption)) (Enc.len _)) ?_
  refine yL rfl rfl rfl ?_
  refine yA rfl rfl ?_
  refine yN ?_
  dsimp only [St.put]
  refine K11 _ ?_
  refine yS fun _ K12 => ?_
  refine yR ?_
  refine yM rfl rfl ?_
  refine yM rfl rfl ?_
  try dsimp only [St.put]
  refine ab rfl (az rfl rfl rfl (uq x y) ?_)
  refine yA rfl rfl ?_
  refine yN ?_
  dsimp only [St.put]
  refine K12 _ ?_
  refine yS fun _ K13 => ?_
  refine yR ?_
  refine yM rfl rfl ?_
  refine aa rfl (f8 rfl rfl rfl) ?_
  refine yN ?_
  dsimp only [St.put]
  refine K13 _ ?_
  refine bc rfl (fun hc => ?_) (fun hc => ?_)
  ·have h1 : gl x y ≠ 0 := j2 hc
   have hst := uct hx hy
   rw [decide_eq_false h1] at hst
   refine yS fun _ K14 => ?_
   refine yR ?_
   refine yM rfl rfl ?_
   refine yA rfl rfl ?_
   refine yN ?_
   dsimp only [St.put]
   refine K14 _ ?_
   refine ay ?_
   refine cg rfl (by constructor) zN zS ?_
   exact vi (hI.2.2.trans hst).symm
  have h1 : gl x y = 0 := g6 hc
  have hst := uct hx hy
  rw [decide_eq_true h1] at hst
  refine bi ?_
  refine K6 _ ?_
  refine yR ?_
  refine aa rfl (ct rfl rfl rfl (by omega)) ?_
  refine yM rfl rfl ?_
  refine yN ?_
  dsimp only [St.put]
  exact ⟨k + 1, by omega, ⟨by omega, by omega, hI.2.2.trans hst⟩, ⟨⟨rfl, rfl⟩, zF, zB, zN, zX⟩⟩
 replace hc := of_decide_eq_false hc
 have hdr := hI.2.2
 rw [List.drop_of_length_le (show a.length ≤ k by omega)] at hdr
 refine el ?_
 refine K2 _ ?_
 refine yS fun _ K15 => ?_
 refine yS fun _ K16 => ?_
 refine yR ?_
 refine yM rfl rfl ?_
 refine aa rfl (cc rfl rfl (List.length_map _)) ?_
 refine yM rfl rfl ?_
 refine aa rfl (cc rfl rfl (List.length_map _)) ?_
 refine aa rfl (dp rfl rfl rfl) ?_
 refine yN ?_
 dsimp only [St.put]
 refine K16 _ ?_
 refine bc rfl (fun hc => ?_) (fun hc => ?_)
 ·replace hc := of_decide_eq_true hc
  refine yS fun _ K17 => ?_
  refine yR ?_
  refine yA rfl rfl ?_
  refine yN ?_
  dsimp only [St.put]
  refine K17 _ ?_
  refine ay ?_
  refine cg rfl (by constructor) zN zS ?_
  exact vi (by
   rw [hdr]
   cases hb : b.drop k with
   | nil => have := congrArg List.length hb; simp at this; omega
   | cons z l => rfl)
 replace hc := of_decide_eq_false hc
 refine bi ?_
 refine K15 _ ?_
 refine yS fun _ K18 => ?_
 refine yR ?_
 refine yA rfl rfl ?_
 refine yN ?_
 dsimp only [St.put]
 refine K18 _ ?_
 refine ay ?_
 refine cg rfl (by constructor) zN zS ?_
 exact vi (by rw [hdr, List.drop_of_length_le (show b.length ≤ k by omega)]; rfl)
end Go.Proofs.YtgffhbbcpgdjjaaDoor
namespace Go.AB
open Go Go.RowKit
open Go.AB.Enc (cells)
open Go.PB (aq ah PlaceD av ax aw)
/-- so many words of a line -/
def rt (p : L2) (k : Nat) : List PlaceD := (List.range k).map fun (i : Nat) => ⟨p.1, p.2, (i : Int)⟩
theorem uih (p : L2) (k : Nat) : (rt p k).length = k := by simp [rt]
def lv (t : ah) (f : L2 → Option L2) (p : L2) : List PlaceD := bif (f p).isSome then rt p ((io t p).getD []).length else []
def m4 (t : ah) (f : L2 → Option L2) (l : List L2) : List PlaceD := (l.map (lv t f)).flatten
def lf (t : ah) (f : L2 → Option L2) : List PlaceD := m4 t f (ml t)
theorem uif {t : ah} (ht : ff t = true) (f : L2 → Option L2) (p : L2) : (lv t f p).length ≤ 10 := by
 unfold lv
 cases (f p).isSome
 ·exact Nat.zero_le _
 ·rw [cond_true, uih]
  cases h : io t p with
  | none => exact Nat.zero_le _
  | some l => have := vc ht h; simp only [Option.getD_some]; omega
theorem ued {t : ah} (ht : ff t = true) (f : L2 → Option L2) (l : List L2) : (m4 t f l).length ≤ 10 * l.length := by
 induction l with
 | nil => exact Nat.zero_le _
 | cons p l ih =>
  have h1 := uif ht f p
  have : (m4 t f (p :: l)).length = (lv t f p).length + (m4 t f l).length := by simp [m4]
  rw [this, List.length_cons]
  omega
theorem uh5 {t : ah} {f : L2 → Option L2} {q : PlaceD} : q ∈ lf t f ↔ ga t q = true ∧ (f (q.ch, q.ln)).isSome = true := by
 unfold lf m4
 rw [List.mem_flatten]
 constructor
 ·rintro ⟨l, hl, hq⟩
  obtain ⟨p, hp, rfl⟩ := List.mem_map.1 hl
  obtain ⟨ws, hw⟩ := mem_lines.1 hp
  unfold lv at hq
  cases hf : (f p).isSome with
  | false => rw [hf] at hq; simp at hq
  | true =>
   rw [hf, cond_true, hw, Option.getD_some] at hq
   obtain ⟨i, hi, rfl⟩ := List.mem_map.1 hq
   rw [List.mem_range] at hi
   exact ⟨placeB_true.2 ⟨ws, hw, by dsimp only; omega, by dsimp only; omega⟩, hf⟩
 ·rintro ⟨h1, h2⟩
  obtain ⟨ws, hw, h3, h4⟩ := placeB_true.1 h1
  refine ⟨_, List.mem_map.2 ⟨(q.ch, q.ln), mem_lines.2 ⟨ws, hw⟩, rfl⟩, ?_⟩
  unfold lv
  rw [h2, cond_true, hw, Option.getD_some]
  refine List.mem_map.2 ⟨q.wd.toNat, List.mem_range.2 (by omega), ?_⟩
  have : ((q.wd.toNat : Nat) : Int) = q.wd := by omega
  rw [this]
/-- the numbers of a place -/
def da (q : PlaceD) : List Int := [q.ch, q.ln, q.wd]
theorem uix {a b : PlaceD} (h : da a = da b) : a = b := by
 obtain ⟨a1, a2, a3⟩ := a
 obtain ⟨b1, b2, b3⟩ := b
 simp only [da, List.cons.injEq, and_true] at h
 obtain ⟨rfl, rfl, rfl⟩ := h
 rfl
theorem nd : ∀ a : List Int, ¬ ltW a a
 | [] => by simp [ltW]
 | x :: a => by simp only [ltW]; rintro (h | ⟨_, h⟩); omega; exact nd a h
theorem px : ∀ {a b c : List Int}, ltW a b → ltW b c → ltW a c
 | [], _, _, h, _ => by simp [ltW] at h
 | _ :: _, [], _, h, _ => by simp [ltW] at h
 | _ :: _, _ :: _, [], _, k => by simp [ltW] at k
 | x :: a, y :: b, z :: c, h, k => by
  simp only [ltW] at h k ⊢
  rcases h with h | ⟨h1, h2⟩
  ·rcases k with k | ⟨k1, _⟩
   ·exact .inl (by omega)
   ·exact .inl (by omega)
  ·rcases k with k | ⟨k1, k2⟩
   ·exact .inl (by omega)
   ·exact .inr ⟨by omega, px h2 k2⟩
theorem w7 : ∀ {a b : List Int}, a.length = b.length → ¬ ltW a b → ¬ ltW b a → a = b
 | [], [], _, _, _ => rfl
 | x :: a, y :: b, hl, h, k => by
  simp only [ltW, not_or, not_and] at h k
  have hxy : x = y := by omega
  subst hxy
  rw [w7 (by simpa using hl) (h.2 rfl) (k.2 rfl)]
/-! ### What is next to something -/
end Go.AB
namespace Go.AB
open Go Go.RowKit
open Go.AB.Enc (cells)
open Go.PB (aq ah PlaceD av ax aw)
theorem ujf {α : Type} {q : α → Bool} {l : List α} {k : Nat} {x : α} (hx : l[k]? = some x) (h : ∀ y ∈ l.take k, q y = false) (hq : q x = true) : l.findIdx q = k := by
 obtain ⟨h1, h2⟩ := List.getElem?_eq_some_iff.1 hx
 rw [List.findIdx_eq h1]
 exact ⟨by rw [h2]; exact hq, fun j hj => h _ (List.mem_of_getElem? (i := j) (by rw [List.getElem?_take_of_lt hj, List.getElem?_eq_getElem (by omega)]))⟩
end Go.AB
namespace Go.Proofs.YtgffhbbcpgdjjaaDoor
set_option maxRecDepth 10000
open Go.RowKit Go.AB
open Go.AB.Enc (cells)
open Go.PB (aq ah PlaceD av ax aw)
/-! ### What is beside something -/
end Go.Proofs.YtgffhbbcpgdjjaaDoor
namespace Go.AB
open Go Go.RowKit
open Go.AB.Enc (cells)
section
variable {P : Program} {o : Oper} {st : St} {K : St → Prop}
/-- Whether a slice is nil: it is not, if something is in it. -/
theorem ucl {t t' e : TypeId} [Elt P t e] {x : Operand} {rows : List (List C)} {tok : Tok} (ho : o.op = .binOp .eql t x (.const (.slice none 0 0)) t') (hx : evC st x = .list rows tok) (h : ∀ b : Bool, (rows ≠ [] → b = false) → K (st.put o.dst (.v (.bool b)))) : EStep P o st K :=
 ji fun E w a hsim => by
  have hr := hx ▸ hsim.ev x
  obtain ⟨ad, cap, _, _, hv, h1, _, _, _, _, _, h7, _⟩ := R.list_inv hr
  have q1 := Elt.spec (P := P) (t := t) (e := e)
  refine ⟨.bool ad.isNone, w, E, st.G, st.nx, .v (.bool ad.isNone), ?_, Ev.refl E w, .v rfl, hsim.g, h _ fun hne => ?_⟩
  ·have hq := run_equal_slice_nil (P := P) w t e ad rows.length cap q1
   have he2 : a.eval (.const (.slice none 0 0)) = .slice none 0 0 := rfl
   simp [execOp, ho, hv, he2, eqGuard, binOp, hq]
  ·obtain ⟨b, off, rfl, _⟩ := h7.resolve_left hne
   rfl
end
section
variable {ρ : Option Nat} {P : Program} {st : St} {Q : Exit → St → Prop}
end
end Go.AB
namespace Go.Proofs.YtgffhbbcpgdjjaaDoor
open Go.Shelf
def srt_Place_ren : Go.Shelf.Ren := ⟨fun | 6 => 92 | 15 => 108 | 14 => 107 | 28 => 120 | 29 => 121 | 20 => 112 | 21 => 113 | 22 => 114 | 23 => 115 | 24 => 116 | 25 => 117 | 26 => 118 | 27 => 119 | 46 => 122 | 47 => 123 | 48 => 124 | 49 => 125 | 50 => 126 | 57 => 127 | n => n, fun | 22 => 36 | 24 => 54 | 25 => 130 | 3 => 3 | 39 => 161 | 0 => 0 | 53 => 174 | 55 => 176 | 4 => 4 | 46 => 167 | 45 => 166 | 50 => 171 | 5 => 5 | 9 => 9 | 66 => 177 | 70 => 181 | 76 => 183 | 77 => 34 | n => n, fun | n => n⟩
theorem yu : Go.Proofs.SlLaysF0.n6 Tryd.prog srt_Place_ren := {
 mixed := by kernel_rfl
 f6 := ⟨Tryd.f92.name, by decide, Tryd.func92.trans (congrArg some (by kernel_rfl))⟩
 f14 := ⟨Tryd.f107.name, by decide, Tryd.func107.trans (congrArg some (by kernel_rfl))⟩
 f15 := Tryd.func108.trans (congrArg some (by kernel_rfl))
 f20 := ⟨Tryd.f112.name, by decide, Tryd.func112.trans (congrArg some (by kernel_rfl))⟩
 f21 := ⟨Tryd.f113.name, by decide, Tryd.func113.trans (congrArg some (by kernel_rfl))⟩
 f22 := ⟨Tryd.f114.name, by decide, Tryd.func114.trans (congrArg some (by kernel_rfl))⟩
 f23 := ⟨Tryd.f115.name, by decide, Tryd.func115.trans (congrArg some (by kernel_rfl))⟩
 f24 := ⟨Tryd.f116.name, by decide, Tryd.func116.trans (congrArg some (by kernel_rfl))⟩
 f25 := ⟨Tryd.f117.name, by decide, Tryd.func117.trans (congrArg some (by kernel_rfl))⟩
 f26 := ⟨Tryd.f118.name, by decide, Tryd.func118.trans (congrArg some (by kernel_rfl))⟩
 f27 := ⟨Tryd.f119.name, by decide, Tryd.func119.trans (congrArg some (by kernel_rfl))⟩
 f28 := Tryd.func120.trans (congrArg some (by kernel_rfl))
 f29 := Tryd.func121.trans (congrArg some (by kernel_rfl))
 f46 := ⟨Tryd.f122.name, by decide, Tryd.func122.trans (congrArg some (by kernel_rfl))⟩
 f47 := Tryd.func123.trans (congrArg some (by kernel_rfl))
 f48 := Tryd.func124.trans (congrArg some (by kernel_rfl))
 f49 := ⟨Tryd.f125.name, by decide, Tryd.func125.trans (congrArg some (by kernel_rfl))⟩
 f50 := ⟨Tryd.f126.name, by decide, Tryd.func126.trans (congrArg some (by kernel_rfl))⟩
 f57 := ⟨Tryd.f127.name, by decide, Tryd.func127.trans (congrArg some (by kernel_rfl))⟩
 t0 := Tryd.underlying0
 a0 := Tryd.isAgg0
 z0 := Tryd.sizeOf0
 v0 := Tryd.zeroValue0
 t3 := Tryd.underlying3
 a3 := Tryd.isAgg3
 z3 := Tryd.sizeOf3
 v3 := Tryd.zeroValue3
 t4 := Tryd.underlying4
 a4 := Tryd.isAgg4
 z4 := Tryd.sizeOf4
 v4 := Tryd.zeroValue4
 t5 := Tryd.underlying5
 a5 := Tryd.isAgg5
 z5 := Tryd.sizeOf5
 v5 := Tryd.zeroValue5
 t9 := Tryd.underlying9
 a9 := Tryd.isAgg9
 z9 := Tryd.sizeOf9
 v9 := Tryd.zeroValue9
 t22 := Tryd.underlying36
 a22 := Tryd.isAgg36
 z22 := Tryd.sizeOf36
 v22 := Tryd.zeroValue36
 t25 := Tryd.underlying130
 a25 := Tryd.isAgg130
 z25 := Tryd.sizeOf130
 v25 := Tryd.zeroValue130
 t39 := Tryd.underlying161
 a39 := Tryd.isAgg161
 z39 := Tryd.sizeOf161
 v39 := Tryd.zeroValue161
 t45 := Tryd.underlying166
 a45 := Tryd.isAgg166
 z45 := Tryd.sizeOf166
 v45 := Tryd.zeroValue166
 t46 := Tryd.underlying167
 a46 := Tryd.isAgg167
 z46 := Tryd.sizeOf167
 v46 := Tryd.zeroValue167
 t50 := Tryd.underlying171
 a50 := Tryd.isAgg171
 z50 := Tryd.sizeOf171
 v50 := Tryd.zeroValue171
 t53 := Tryd.underlying174
 a53 := Tryd.isAgg174
 z53 := Tryd.sizeOf174
 v53 := Tryd.zeroValue174
 t55 := Tryd.underlying176
 a55 := Tryd.isAgg176
 z55 := Tryd.sizeOf176
 v55 := Tryd.zeroValue176
 t66 := Tryd.underlying177
 a66 := Tryd.isAgg177
 z66 := Tryd.sizeOf177
 v66 := Tryd.zeroValue177
 t70 := Tryd.underlying181
 a70 := Tryd.isAgg181
 z70 := Tryd.sizeOf181
 v70 := Tryd.zeroValue181
 t76 := Tryd.underlying183
 a76 := Tryd.isAgg183
 z76 := Tryd.sizeOf183
 v76 := Tryd.zeroValue183
 t77 := Tryd.underlying34
 a77 := Tryd.isAgg34
 z77 := Tryd.sizeOf34
 v77 := Tryd.zeroValue34 }
end Go.Proofs.YtgffhbbcpgdjjaaDoor
namespace Go.AB
open Go Go.RowKit
open Go.AB.Enc (cells)
open Go.PB (aq ah PlaceD av ax aw)
theorem uak {α : Type} [DecidableEq α] : ∀ {l m : List α}, l.Nodup → (∀ x ∈ l, x ∈ m) → l.length ≤ m.length
 | [], _, _, _ => Nat.zero_le _
 | x :: l, m, hn, hs => by
  rw [List.nodup_cons] at hn
  have h1 := hs x (List.mem_cons_self ..)
  have h2 := uak (l := l) (m := m.erase x) hn.2 fun y hy => (List.mem_erase_of_ne fun (e : y = x) => hn.1 (e ▸ hy)).2 (hs y (List.mem_cons_of_mem _ hy))
  rw [List.length_erase_of_mem h1] at h2
  have := List.length_pos_of_mem h1
  simp only [List.length_cons]
  omega
end Go.AB
namespace Go.Proofs.YtgffhbbcpgdjjaaDoor
set_option maxRecDepth 10000
open Go.RowKit Go.AB
open Go.AB.Enc (cells)
open Go.PB (aq ah PlaceD av ax aw)
end Go.Proofs.YtgffhbbcpgdjjaaDoor
namespace Go.AB
open Go Go.RowKit
open Go.AB.Enc (cells)
open Go.PB (aq ah PlaceD av ax aw)
end Go.AB
namespace Go.Proofs.YtgffhbbcpgdjjaaDoor
set_option maxRecDepth 10000
open Go.RowKit Go.AB
open Go.AB.Enc (cells)
open Go.PB (aq ah PlaceD av ax aw)
end Go.Proofs.YtgffhbbcpgdjjaaDoor
namespace Go.AB
open Go Go.RowKit
open Go.AB.Enc (cells)
open Go.PB (aq ah PlaceD av ax aw)
theorem ye (t : ah) (f : L2 → Option L2) : (lf t f).Pairwise fun a b => ltW (da a) (da b) := by
 unfold lf m4
 rw [List.pairwise_flatten]
 constructor
 ·intro l hl
  obtain ⟨p, _, rfl⟩ := List.mem_map.1 hl
  unfold lv
  cases (f p).isSome
  ·exact List.Pairwise.nil
  rw [cond_true]
  unfold rt
  rw [List.pairwise_map]
  refine List.Pairwise.imp (fun {a b} h => ?_) List.pairwise_lt_range
  simp only [da, ltW]
  refine .inr ⟨trivial, .inr ⟨trivial, .inl ?_⟩⟩
  omega
 rw [List.pairwise_map]
 refine List.Pairwise.imp (fun {p q} h => ?_) (uid t)
 intro a ha b hb
 unfold lv at ha hb
 cases hp : (f p).isSome with
 | false => rw [hp] at ha; simp at ha
 | true =>
  cases hq : (f q).isSome with
  | false => rw [hq] at hb; simp at hb
  | true =>
   rw [hp, cond_true] at ha
   rw [hq, cond_true] at hb
   obtain ⟨i, _, rfl⟩ := List.mem_map.1 ha
   obtain ⟨j, _, rfl⟩ := List.mem_map.1 hb
   simp only [da, ltW]
   rcases h with h | ⟨h1, h2⟩
   ·exact .inl h
   exact .inr ⟨h1, .inl h2⟩
end Go.AB
namespace Go.Proofs.YtgffhbbcpgdjjaaDoor
set_option maxRecDepth 10000
open Go.RowKit Go.AB
open Go.AB.Enc (cells)
open Go.PB (aq ah PlaceD av ax aw)
end Go.Proofs.YtgffhbbcpgdjjaaDoor
namespace Go.AB
open Go Go.RowKit
open Go.PB (aq ah PlaceD av ax aw)
theorem ueb (t : ah) (f : L2 → Option L2) : (lf t f).Nodup :=
 (ye t f).imp fun {a b} h e => by subst e; exact nd _ h
end Go.AB
namespace Go.AB
open Go Go.RowKit
open Go.AB.Enc (cells)
open Go.PB (aq ah PlaceD av ax aw)
theorem uy (t : ah) : (ib t).map (·.1) = lf t fun _ => some (1, 1) := by
 have key : ∀ (k n : Nat) (c : aq) (l : List ByteArray), t[k]? = some c → c.lines[n]? = some l → lv t (fun _ => some (1, 1)) ((k : Int), (n : Int)) = (jv k n l).map (·.1) := fun k n c l hc hl => by
  unfold lv
  rw [ve hc hl]
  simp only [Option.isSome_some, cond_true, Option.getD_some]
  unfold rt jv
  apply List.ext_getElem?
  intro i
  rw [List.getElem?_map, List.getElem?_map, List.getElem?_mapIdx]
  by_cases hi : i < l.length
  ·rw [List.getElem?_range hi, List.getElem?_eq_getElem hi]; rfl
  rw [List.getElem?_eq_none (by simp; omega), List.getElem?_eq_none (by omega)]; rfl
 unfold lf m4 ml ib kh
 rw [List.map_flatten, ov, List.map_flatten, ov, List.flatten_flatten]
 congr 1
 rw [ov]
 apply List.ext_getElem?
 intro k
 rw [List.getElem?_mapIdx, List.getElem?_mapIdx]
 cases hc : t[k]? with
 | none => rfl
 | some c =>
  simp only [Option.map_some]
  congr 1
  rw [List.map_flatten, ov, ov]
  congr 1
  apply List.ext_getElem?
  intro n
  rw [List.getElem?_mapIdx, List.getElem?_mapIdx]
  cases hl : c.lines[n]? with
  | none => rfl
  | some l => simp only [Option.map_some]; rw [key k n c l hc hl]
def isP (p : PlaceD) (x : PW) : Bool := decide (x.1 = p)
/-- so many places are ahead of a place -/
def pn (t : ah) (p : PlaceD) : Nat := (ib t).findIdx (isP p)
theorem uk9 (t : ah) : ((ib t).map (·.1)).Nodup := by rw [uy]; exact ueb _ _
theorem allP_mem {t : ah} {p : PlaceD} : p ∈ (ib t).map (·.1) ↔ ga t p = true := by
 rw [uy, uh5]; simp
theorem wt {t : ah} {p : PlaceD} {k : Nat} {x : PW} (hx : (ib t)[k]? = some x) (hp : x.1 = p) : pn t p = k := by
 refine ujf hx (fun y hy => ?_) (by simp [isP, hp])
 obtain ⟨j, hj⟩ := List.getElem?_of_mem hy
 rw [List.getElem?_take] at hj
 split at hj
 ·rename_i hjk
  refine decide_eq_false fun e => ?_
  exact uhq hj hx hjk (f := fun z : PW => z.1) (e.trans hp.symm) (uk9 t)
 cases hj
theorem tr {t : ah} {p : PlaceD} (hp : ga t p = true) : (lf t fun _ => some (1, 1))[pn t p]? = some p := by
 obtain ⟨x, hx, h⟩ := List.mem_map.1 (allP_mem.2 hp)
 obtain ⟨k, hk⟩ := List.getElem?_of_mem hx
 rw [wt hk h, ← uy, List.getElem?_map, hk]
 simp [h]
theorem uhp {t : ah} {p q : PlaceD} (hp : ga t p = true) (hq : ga t q = true) : pn t p < pn t q ↔ ltW (da p) (da q) := by
 obtain ⟨a1, a2⟩ := List.getElem?_eq_some_iff.1 (tr hp)
 obtain ⟨b1, b2⟩ := List.getElem?_eq_some_iff.1 (tr hq)
 have hs := List.pairwise_iff_getElem.1 (ye t fun _ => some (1, 1))
 constructor
 ·intro h
  have := hs _ _ a1 b1 h
  rwa [a2, b2] at this
 intro h
 rcases Nat.lt_trichotomy (pn t p) (pn t q) with h1 | h1 | h1
 ·exact h1
 ·have : p = q := by
   have e1 := tr hp
   rw [h1, tr hq] at e1
   exact (Option.some.inj e1).symm
  subst this
  exact absurd h (nd _)
 have := hs _ _ b1 a1 h1
 rw [a2, b2] at this
 exact absurd (px h this) (nd _)
theorem udq {t : ah} (ht : ff t = true) : (ib t).length ≤ 600 := by
 have h1 : ((ib t).map (·.1)).length = (lf t fun _ => some (1, 1)).length := by rw [uy]
 have h2 := ued ht (fun _ => some (1, 1)) (ml t)
 have h3 := uie ht
 unfold lf at h1
 rw [List.length_map] at h1
 omega
end Go.AB
namespace Go.Proofs.YtgffhbbcpgdjjaaDoor
set_option maxRecDepth 10000
open Go.RowKit Go.AB
open Go.AB.Enc (cells)
open Go.PB (aq ah PlaceD av ax aw)
end Go.Proofs.YtgffhbbcpgdjjaaDoor
namespace Go.AB
open Go Go.RowKit
open Go.AB.Enc (cells)
open Go.PB (aq ah PlaceD av ax aw)
/-! ### The order of words -/
/-! ### What the functions give -/
def qt (t : ah) (p : PlaceD) : ByteArray := ((io t (p.ch, p.ln)).getD [])[p.wd.toNat]?.getD ByteArray.empty
theorem uk7 {t : ah} {x : PW} (hx : x ∈ ib t) : qt t x.1 = x.2 := by
 unfold ib at hx
 obtain ⟨l, hl, h1⟩ := List.mem_flatten.1 hx
 obtain ⟨k, hk, rfl⟩ := List.mem_mapIdx.1 hl
 unfold kh at h1
 obtain ⟨l2, hl2, h2⟩ := List.mem_flatten.1 h1
 obtain ⟨n, hn, rfl⟩ := List.mem_mapIdx.1 hl2
 unfold jv at h2
 obtain ⟨w, hw, rfl⟩ := List.mem_mapIdx.1 h2
 unfold qt
 dsimp only
 rw [ve (List.getElem?_eq_getElem hk) (List.getElem?_eq_getElem hn)]
 simp [hw]
end Go.AB
namespace Go.AB
open Go Go.RowKit
open Go.AB.Enc (cells)
open Go.PB (aq ah PlaceD av ax aw)
def f3 (t : ah) : List PlaceD := (ib t).map (·.1)
def gq (t : ah) (k : Nat) (ls : List (List ByteArray)) (n : Nat) : List PlaceD := f3 (t.take k) ++ (kh k (ls.take n)).map (·.1)
def ux (t : ah) (k : Nat) (ls : List (List ByteArray)) (n : Nat) (l : List ByteArray) (w : Nat) : List PlaceD := gq t k ls n ++ (jv k n (l.take w)).map (·.1)
theorem uk5 (t : ah) (k : Nat) (ls : List (List ByteArray)) : f3 (t.take k) = gq t k ls 0 := by simp [gq, kh]
theorem uk3 (t : ah) (k : Nat) (ls : List (List ByteArray)) (n : Nat) (l : List ByteArray) : gq t k ls n = ux t k ls n l 0 := by simp [ux, jv]
theorem uk6 {t : ah} {k n : Nat} {c : aq} (hk : t[k]? = some c) (hn : c.lines.length ≤ n) : gq t k c.lines n = f3 (t.take (k + 1)) := by
 unfold gq f3
 rw [List.take_of_length_le hn, udp hk, List.map_append]
theorem o7 {t : ah} (ht : ff t = true) : (f3 t).length ≤ 600 := by rw [f3, List.length_map]; exact udq ht
theorem uk4 {t : ah} (ht : ff t = true) {k n : Nat} {c : aq} {l : List ByteArray} (hk : t[k]? = some c) (hn : c.lines[n]? = some l) (w : Nat) : (ux t k c.lines n l w).length ≤ 600 := by
 have h1 := (uen hk hn w).length_le
 have h2 := udq ht
 simp only [List.length_append] at h1
 simp only [ux, gq, f3, List.length_append, List.length_map]
 omega
theorem ugs {t : ah} {p : PlaceD} (hp : ga t p = true) : ∃ (k n w : Nat) (c : aq) (l : List ByteArray), p = ⟨k, n, w⟩ ∧ t[k]? = some c ∧ c.lines[n]? = some l ∧ l[w]? = some (qt t p) := by
 obtain ⟨l, hw, h1, h2⟩ := placeB_true.1 hp
 obtain ⟨k, n, c, hkn, hk, hn⟩ := sx hw
 refine ⟨k, n, p.wd.toNat, c, l, ?_, hk, hn, ?_⟩
 ·have e1 : p.ch = (k : Int) := congrArg Prod.fst hkn
  have e2 : p.ln = (n : Int) := congrArg Prod.snd hkn
  obtain ⟨a, b, d⟩ := p
  dsimp only at e1 e2 h1 ⊢
  subst e1; subst e2
  rw [Int.toNat_of_nonneg h1]
 unfold qt
 rw [hw, Option.getD_some, List.getElem?_eq_getElem (by omega)]
 rfl
theorem udr {t : ah} {k : Nat} {x : PW} (hx : (ib t)[k]? = some x) : ga t x.1 = true ∧ qt t x.1 = x.2 := by
 have hm := List.mem_of_getElem? hx
 exact ⟨allP_mem.1 (List.mem_map.2 ⟨x, hm, rfl⟩), uk7 hm⟩
/-! ### A word in its place -/
end Go.AB
namespace Go.Proofs.YtgffhbbcpgdjjaaDoor
set_option maxRecDepth 10000
open Go.RowKit Go.AB
open Go.AB.Enc (cells)
open Go.PB (aq ah PlaceD av ax aw)
end Go.Proofs.YtgffhbbcpgdjjaaDoor
namespace Go.AB
/-- a sum -/
def sm : Nat → (Nat → Int) → Int
 | 0, _ => 0
 | n + 1, g => sm n g + g n
theorem qy : ∀ {n : Nat} {g h : Nat → Int}, (∀ i, i < n → g i ≤ h i) → sm n g ≤ sm n h
 | 0, _, _, _ => Int.le_refl _
 | n + 1, g, h, H => by
  have h1 := qy (n := n) fun i hi => H i (by omega)
  have h2 := H n (by omega)
  simp only [sm]; omega
theorem l8 : ∀ {n : Nat} {g h : Nat → Int}, (∀ i, i < n → g i = h i) → sm n g = sm n h
 | 0, _, _, _ => rfl
 | n + 1, g, h, H => by
  have h1 := l8 (n := n) fun i hi => H i (by omega)
  have h2 := H n (by omega)
  simp only [sm]; omega
theorem ph : ∀ (n : Nat) (g h : Nat → Int), sm n (fun i => g i + h i) = sm n g + sm n h
 | 0, _, _ => rfl
 | n + 1, g, h => by have := ph n g h; simp only [sm]; omega
theorem qw : ∀ (n : Nat) (g h : Nat → Int), sm n (fun i => g i - h i) = sm n g - sm n h
 | 0, _, _ => rfl
 | n + 1, g, h => by have := qw n g h; simp only [sm]; omega
theorem s7 : ∀ n : Nat, sm n (fun _ => 0) = 0
 | 0 => rfl
 | n + 1 => by have := s7 n; simp only [sm]; omega
theorem ufh {n : Nat} {g : Nat → Int} (H : ∀ i, i < n → 0 ≤ g i) : 0 ≤ sm n g := by
 have := qy (g := fun _ => 0) H
 rwa [s7] at this
theorem qx : ∀ {n k : Nat} (_ : k < n) (v : Int), sm n (fun i => bif decide (i = k) then v else 0) = v
 | 0, _, h, _ => absurd h (Nat.not_lt_zero _)
 | n + 1, k, h, v => by
  simp only [sm]
  by_cases e : n = k
  ·subst e
   rw [l8 (h := fun _ => 0) (fun i hi => by rw [decide_eq_false (by omega)]; rfl), s7, decide_eq_true rfl]
   simp
  ·rw [qx (n := n) (by omega) v, decide_eq_false e]
   simp
/-- pages, each with a first and a second reader, or one of them, or none -/
structure Net where
 nF : Nat
 nr : Nat
 np : Nat
 fr : Nat → Option Nat
 sc : Nat → Option Nat
structure Net.Ok (N : Net) : Prop where
 le : N.nF ≤ N.nr
 fr : ∀ j i, N.fr j = some i → i < N.nF
 sc : ∀ j i, N.sc j = some i → N.nF ≤ i ∧ i < N.nr
def ob (S : Nat → Bool) : Option Nat → Bool
 | none => false
 | some i => S i
def Net.hit (N : Net) (S : Nat → Bool) (j : Nat) : Bool := ob S (N.fr j) || ob S (N.sc j)
/-- who reads a page -/
def Net.by (N : Net) (j i : Nat) : Bool := decide (N.fr j = some i) || decide (N.sc j = some i)
/-- what a set of readers proves -/
def Net.f (N : Net) (R C : Nat → Int) (S : Nat → Bool) : Int := sm N.nr (fun i => bif S i then R i else 0) + sm N.np (fun j => bif N.hit S j then 0 else C j)
section
variable {N : Net} {R C : Nat → Int}
theorem Net.Ok.by_lt (h : N.Ok) {j i : Nat} (hb : N.by j i = true) : i < N.nr := by
 simp only [Net.by, Bool.or_eq_true, decide_eq_true_eq] at hb
 rcases hb with e | e
 ·have := h.fr j i e; have := h.le; omega
 ·exact (h.sc j i e).2
theorem Net.hit_iff {S : Nat → Bool} {j : Nat} : N.hit S j = true ↔ ∃ i, N.by j i = true ∧ S i = true := by
 unfold Net.hit Net.by
 constructor
 ·intro h
  rw [Bool.or_eq_true] at h
  rcases h with h | h
  ·cases e : N.fr j with
   | none => rw [e] at h; cases h
   | some i => rw [e] at h; exact ⟨i, by simp, h⟩
  ·cases e : N.sc j with
   | none => rw [e] at h; cases h
   | some i => rw [e] at h; exact ⟨i, by simp, h⟩
 ·rintro ⟨i, h1, h2⟩
  simp only [Bool.or_eq_true, decide_eq_true_eq] at h1 ⊢
  rcases h1 with e | e
  ·rw [e]; exact .inl h2
  ·rw [e]; exact .inr h2
theorem Net.f_congr (hN : N.Ok) {S S' : Nat → Bool} (h : ∀ i, i < N.nr → S i = S' i) : N.f R C S = N.f R C S' := by
 have h2 : ∀ j, N.hit S j = N.hit S' j := fun j => by
  rw [Bool.eq_iff_iff, Net.hit_iff, Net.hit_iff]
  exact ⟨fun ⟨i, q1, q2⟩ => ⟨i, q1, (h i (hN.by_lt q1)) ▸ q2⟩, fun ⟨i, q1, q2⟩ => ⟨i, q1, (h i (hN.by_lt q1)).symm ▸ q2⟩⟩
 have e1 : sm N.nr (fun i => bif S i then R i else 0) = sm N.nr (fun i => bif S' i then R i else 0) := l8 fun i hi => by rw [h i hi]
 have e2 : sm N.np (fun j => bif N.hit S j then 0 else C j) = sm N.np (fun j => bif N.hit S' j then 0 else C j) := l8 fun j _ => by rw [h2 j]
 unfold Net.f
 rw [e1, e2]
/-- two sets of readers, crossed -/
def ky (nF : Nat) (S T : Nat → Bool) (i : Nat) : Bool := bif decide (i < nF) then S i || T i else S i && T i
def kx (nF : Nat) (S T : Nat → Bool) (i : Nat) : Bool := bif decide (i < nF) then S i && T i else S i || T i
theorem Net.cross (hN : N.Ok) (hC : ∀ j, j < N.np → 0 ≤ C j) (S T : Nat → Bool) : N.f R C (ky N.nF S T) + N.f R C (kx N.nF S T) ≤ N.f R C S + N.f R C T := by
 have h1 : sm N.nr (fun i => bif ky N.nF S T i then R i else 0) + sm N.nr (fun i => bif kx N.nF S T i then R i else 0) = sm N.nr (fun i => bif S i then R i else 0) + sm N.nr (fun i => bif T i then R i else 0) := by
  rw [← ph, ← ph]
  refine l8 fun i _ => ?_
  unfold ky kx
  cases decide (i < N.nF) <;> cases S i <;> cases T i <;> simp
 have h2 : sm N.np (fun j => bif N.hit (ky N.nF S T) j then 0 else C j) + sm N.np (fun j => bif N.hit (kx N.nF S T) j then 0 else C j) ≤ sm N.np (fun j => bif N.hit S j then 0 else C j) + sm N.np (fun j => bif N.hit T j then 0 else C j) := by
  rw [← ph, ← ph]
  refine qy fun j hj => ?_
  have hc := hC j hj
  have e1 : ∀ U V : Nat → Bool, ob (ky N.nF U V) (N.fr j) = (ob U (N.fr j) || ob V (N.fr j)) := fun U V => by
   cases e : N.fr j with
   | none => rfl
   | some i => simp only [ob, ky, decide_eq_true (hN.fr j i e), cond_true]
  have e2 : ∀ U V : Nat → Bool, ob (kx N.nF U V) (N.fr j) = (ob U (N.fr j) && ob V (N.fr j)) := fun U V => by
   cases e : N.fr j with
   | none => rfl
   | some i => simp only [ob, kx, decide_eq_true (hN.fr j i e), cond_true]
  have e3 : ∀ U V : Nat → Bool, ob (ky N.nF U V) (N.sc j) = (ob U (N.sc j) && ob V (N.sc j)) := fun U V => by
   cases e : N.sc j with
   | none => rfl
   | some i => have := hN.sc j i e; simp only [ob, ky, decide_eq_false (show ¬ i < N.nF by omega), cond_false]
  have e4 : ∀ U V : Nat → Bool, ob (kx N.nF U V) (N.sc j) = (ob U (N.sc j) || ob V (N.sc j)) := fun U V => by
   cases e : N.sc j with
   | none => rfl
   | some i => have := hN.sc j i e; simp only [ob, kx, decide_eq_false (show ¬ i < N.nF by omega), cond_false]
  simp only [Net.hit, e1, e2, e3, e4]
  cases ob S (N.fr j) <;> cases ob T (N.fr j) <;> cases ob S (N.sc j) <;> cases ob T (N.sc j) <;> simp <;> omega
 unfold Net.f
 omega
/-- so much less for the readers of a page, and nothing more on it -/
def Net.lessR (N : Net) (R : Nat → Int) (j : Nat) (n : Int) (i : Nat) : Int := bif N.by j i then R i - n else R i
def d9 (C : Nat → Int) (j k : Nat) : Int := bif decide (k = j) then 0 else C k
def cnt (S : Nat → Bool) (o : Option Nat) (n : Int) : Int := bif ob S o then n else 0
theorem Net.f_less (hN : N.Ok) {j : Nat} (hj : j < N.np) (n : Int) (S : Nat → Bool) : N.f (N.lessR R j n) (d9 C j) S = N.f R C S - cnt S (N.fr j) n - cnt S (N.sc j) n - (bif N.hit S j then 0 else C j) := by
 have h1 : sm N.np (fun k => bif N.hit S k then 0 else d9 C j k) = sm N.np (fun k => bif N.hit S k then 0 else C k) - (bif N.hit S j then 0 else C j) := by
  have := qx hj (bif N.hit S j then 0 else C j)
  rw [← this, ← qw]
  refine l8 fun k _ => ?_
  by_cases e : k = j
  ·subst e; simp [d9]
  ·simp [d9, e]
 have h2 : ∀ o : Option Nat, (∀ i, o = some i → i < N.nr) → sm N.nr (fun i => bif decide (o = some i) then (bif S i then n else 0) else 0) = cnt S o n := fun o ho => by
  cases o with
  | none => simp only [cnt, ob, cond_false]; rw [l8 (h := fun _ => 0) (fun i _ => by simp), s7]
  | some k =>
   have := qx (ho k rfl) (bif S k then n else 0)
   rw [l8 (h := fun i => bif decide (i = k) then (bif S k then n else 0) else 0)]
   ·exact this
   ·intro i _
    by_cases e : i = k
    ·subst e; simp
    ·simp [e, Ne.symm e]
 have h3 : sm N.nr (fun i => bif S i then N.lessR R j n i else 0) = sm N.nr (fun i => bif S i then R i else 0) - cnt S (N.fr j) n - cnt S (N.sc j) n := by
  rw [← h2 (N.fr j) (fun i e => by have := hN.fr j i e; have := hN.le; omega), ← h2 (N.sc j) (fun i e => (hN.sc j i e).2), ← qw, ← qw]
  refine l8 fun i _ => ?_
  unfold Net.lessR Net.by
  have hx : ¬ (N.fr j = some i ∧ N.sc j = some i) := fun ⟨q1, q2⟩ => by have := hN.fr j i q1; have := (hN.sc j i q2).1; omega
  by_cases q1 : N.fr j = some i
  ·have q2 : ¬ N.sc j = some i := fun q2 => hx ⟨q1, q2⟩
   cases S i <;> simp [q1, q2]
  ·by_cases q2 : N.sc j = some i
   ·cases S i <;> simp [q1, q2]
   ·cases S i <;> simp [q1, q2]
 unfold Net.f
 rw [h1, h3]
 omega
/-- the least of some numbers, as it is looked for -/
def ke (g : Nat → Int) : Nat → Int
 | 0 => g 0
 | k + 1 => min (ke g k) (g k)
theorem uay {g : Nat → Int} : ∀ {k s : Nat}, s < k ∨ s = 0 → ke g k ≤ g s
 | 0, s, h => by
  obtain rfl : s = 0 := by omega
  exact Int.le_refl _
 | k + 1, s, h => by
  by_cases e : s = k
  ·subst e; exact Int.min_le_right _ _
  ·have := uay (g := g) (k := k) (s := s) (by omega)
   exact Int.le_trans (Int.min_le_left _ _) this
theorem w4 {g : Nat → Int} : ∀ k : Nat, ∃ s, (s < k ∨ s = 0) ∧ ke g k = g s
 | 0 => ⟨0, .inr rfl, rfl⟩
 | k + 1 => by
  obtain ⟨s, h1, h2⟩ := w4 (g := g) k
  by_cases e : ke g k ≤ g k
  ·exact ⟨s, by omega, by rw [ke, Int.min_eq_left e, h2]⟩
  ·exact ⟨k, by omega, by rw [ke, Int.min_eq_right (by omega)]⟩
/-- a set as a number -/
def nz (S : Nat → Bool) : Nat → Nat
 | 0 => 0
 | n + 1 => nz S n ||| (bif S n then 2 ^ n else 0)
theorem uc3 (S : Nat → Bool) : ∀ n, nz S n < 2 ^ n
 | 0 => by simp [nz]
 | n + 1 => by
  have h := uc3 S n
  have h2 : 2 ^ n < 2 ^ (n + 1) := Nat.pow_lt_pow_right (by omega) (by omega)
  unfold nz
  refine Nat.or_lt_two_pow (by omega) ?_
  cases S n
  ·exact Nat.two_pow_pos _
  ·exact h2
theorem uc4 (S : Nat → Bool) : ∀ n i, (nz S n).testBit i = (decide (i < n) && S i)
 | 0, i => by simp [nz]
 | n + 1, i => by
  have h := uc4 S n i
  unfold nz
  rw [Nat.testBit_or, h]
  by_cases e : i = n
  ·subst e
   cases hS : S i <;> simp
  ·have e2 : decide (i < n + 1) = decide (i < n) := by rw [decide_eq_decide]; omega
   rw [e2]
   cases hS : S n
   ·simp
   ·simp only [cond_true, Nat.testBit_two_pow]
    rw [decide_eq_false (Ne.symm e), Bool.or_false]
def Net.most (N : Net) (R C : Nat → Int) : Int := ke (fun s => N.f R C fun i => s.testBit i) (2 ^ N.nr)
theorem Net.most_le (hN : N.Ok) (S : Nat → Bool) : N.most R C ≤ N.f R C S := by
 have h := uay (g := fun s => N.f R C fun i => s.testBit i) (k := 2 ^ N.nr) (s := nz S N.nr) (.inl (uc3 S _))
 refine Int.le_trans h (Int.le_of_eq (Net.f_congr hN fun i hi => ?_))
 rw [uc4, decide_eq_true hi, Bool.true_and]
theorem Net.most_get (N : Net) (R C : Nat → Int) : ∃ S : Nat → Bool, N.most R C = N.f R C S := by
 obtain ⟨s, _, h⟩ := w4 (g := fun s => N.f R C fun i => s.testBit i) (2 ^ N.nr)
 exact ⟨fun i => s.testBit i, h⟩
def mi (n : Int) (R : Nat → Int) : Option Nat → Int
 | none => n
 | some i => min n (R i)
/-- the most on one page -/
def Net.alone (N : Net) (R C : Nat → Int) (j : Nat) : Int := mi (mi (C j) R (N.fr j)) R (N.sc j)
theorem uax {n m : Int} {o : Option Nat} : m ≤ mi n R o ↔ m ≤ n ∧ ∀ i, o = some i → m ≤ R i := by
 cases o with
 | none => simp [mi]
 | some k => simp only [mi, Int.le_min, Option.some.injEq, forall_eq']
theorem Net.le_alone {j : Nat} {m : Int} : m ≤ N.alone R C j ↔ m ≤ C j ∧ ∀ i, N.by j i = true → m ≤ R i := by
 unfold Net.alone Net.by
 rw [uax, uax]
 simp only [Bool.or_eq_true, decide_eq_true_eq]
 exact ⟨fun ⟨⟨h1, h2⟩, h3⟩ => ⟨h1, fun i hi => hi.elim (h2 i) (h3 i)⟩, fun ⟨h1, h2⟩ => ⟨⟨h1, fun i hi => h2 i (.inl hi)⟩, fun i hi => h2 i (.inr hi)⟩⟩
/-- what remains, and so much less of it -/
theorem Net.less_le (hN : N.Ok) {j : Nat} (hj : j < N.np) {n : Int} (h0 : 0 ≤ n) (hn : n ≤ C j) : n + N.most (N.lessR R j n) (d9 C j) ≤ N.most R C := by
 obtain ⟨S, hS⟩ := N.most_get R C
 have h1 := Net.most_le (R := N.lessR R j n) (C := d9 C j) hN S
 rw [Net.f_less hN hj] at h1
 rw [hS]
 cases e : N.hit S j
 ·rw [e] at h1
  have e2 := e
  unfold Net.hit at e2
  rw [Bool.or_eq_false_iff] at e2
  simp only [cnt, e2.1, e2.2, cond_false] at h1
  omega
 ·rw [e] at h1
  unfold Net.hit at e
  rw [Bool.or_eq_true] at e
  unfold cnt at h1
  rcases e with q | q
  ·rw [q] at h1
   cases e2 : ob S (N.sc j) <;> rw [e2] at h1 <;> simp only [cond_true, cond_false] at h1 <;> omega
  ·rw [q] at h1
   cases e2 : ob S (N.fr j) <;> rw [e2] at h1 <;> simp only [cond_true, cond_false] at h1 <;> omega
/-- of each page there is a worst number of errors -/
theorem Net.greedy (hN : N.Ok) (hR : ∀ i, i < N.nr → 0 ≤ R i) (hC : ∀ j, j < N.np → 0 ≤ C j) {j : Nat} (hj : j < N.np) : ∃ n : Int, 0 ≤ n ∧ n ≤ N.alone R C j ∧ N.most R C ≤ n + N.most (N.lessR R j n) (d9 C j) := by
 -- the largest number that every set allows
 have hcj := hC j hj
 have hal : 0 ≤ N.alone R C j := Net.le_alone.2 ⟨hcj, fun i hi => hR i (hN.by_lt hi)⟩
 have key : ∀ n : Int, 0 ≤ n → n ≤ N.alone R C j → (∀ S, ob S (N.fr j) = true → ob S (N.sc j) = true → N.most R C ≤ N.f R C S - n) → (n = N.alone R C j ∨ ∃ S, ob S (N.fr j) = true ∧ ob S (N.sc j) = true ∧ N.f R C S - n = N.most R C) → N.most R C ≤ n + N.most (N.lessR R j n) (d9 C j) := by
  intro n h0 h1 h2 h3
  obtain ⟨S, hS⟩ := N.most_get (N.lessR R j n) (d9 C j)
  rw [hS, Net.f_less hN hj]
  have hm := Net.most_le (R := R) (C := C) hN S
  cases e1 : ob S (N.fr j) <;> cases e2 : ob S (N.sc j)
  ·have e : N.hit S j = false := by simp [Net.hit, e1, e2]
   simp only [cnt, e1, e2, e, cond_false]
   -- no reader of the page is in the set
   rcases h3 with h3 | ⟨T, t1, t2, t3⟩
   ·-- as1 much as1 can be: the page itself, or a reader
    by_cases hc : n = C j
    ·omega
    ·have h4 := (Net.le_alone.1 h1).1
     obtain ⟨i, hi, hri⟩ : ∃ i, N.by j i = true ∧ R i = n := by
      refine Classical.byContradiction fun hno => ?_
      have : n + 1 ≤ N.alone R C j := Net.le_alone.2 ⟨by omega, fun i hi => by
       have q1 := (Net.le_alone.1 h1).2 i hi
       have q2 : R i ≠ n := fun q => hno ⟨i, hi, q⟩
       omega⟩
      omega
     -- the set with that reader
     have h5 := Net.most_le (R := R) (C := C) hN (fun k => S k || decide (k = i))
     have h6 : N.f R C (fun k => S k || decide (k = i)) ≤ N.f R C S + R i - C j := by
      have g1 : sm N.nr (fun k => bif (S k || decide (k = i)) then R k else 0) ≤ sm N.nr (fun k => bif S k then R k else 0) + R i := by
       have := qx (hN.by_lt hi) (R i)
       rw [← this, ← ph]
       refine qy fun k hk => ?_
       have := hR k hk
       by_cases q : k = i
       ·subst q; cases S k <;> simp <;> omega
       ·cases S k <;> simp [q]
      have g2 : sm N.np (fun k => bif N.hit (fun k => S k || decide (k = i)) k then 0 else C k) ≤ sm N.np (fun k => bif N.hit S k then 0 else C k) - C j := by
       have := qx hj (C j)
       rw [← this, ← qw]
       refine qy fun k hk => ?_
       have hck := hC k hk
       have mono : N.hit S k = true → N.hit (fun k => S k || decide (k = i)) k = true := fun q => by
        obtain ⟨x, x1, x2⟩ := Net.hit_iff.1 q
        exact Net.hit_iff.2 ⟨x, x1, by simp [x2]⟩
       by_cases q : k = j
       ·subst q
        rw [show N.hit (fun k => S k || decide (k = i)) k = true from Net.hit_iff.2 ⟨i, hi, by simp⟩, e]
        simp
       ·rw [decide_eq_false q]
        cases q1 : N.hit S k
        ·cases N.hit (fun k => S k || decide (k = i)) k <;> simp <;> omega
        ·rw [mono q1]; simp
      unfold Net.f
      dsimp only
      omega
     omega
   ·-- crossed with a set that has both
    have hx := Net.cross (R := R) (C := d9 C j) hN (fun k hk => by unfold d9; cases decide (k = j) <;> simp; exact hC k hk) S T
    have hsub : ∀ U : Nat → Bool, N.f R (d9 C j) U = N.f R C U - (bif N.hit U j then 0 else C j) := fun U => by
     have := Net.f_less (R := R) (C := C) hN hj 0 U
     have e0 : N.lessR R j 0 = R := by funext i; unfold Net.lessR; cases N.by j i <;> simp
     rw [e0] at this
     rw [this]
     unfold cnt
     cases ob U (N.fr j) <;> cases ob U (N.sc j) <;> simp
    rw [hsub, hsub, hsub, hsub, e, show N.hit T j = true by simp [Net.hit, t1]] at hx
    obtain ⟨a, ha⟩ : ∃ a, N.fr j = some a := by cases q : N.fr j with
     | none => rw [q] at t1; cases t1
     | some a => exact ⟨a, rfl⟩
    obtain ⟨b, hb⟩ : ∃ b, N.sc j = some b := by cases q : N.sc j with
     | none => rw [q] at t2; cases t2
     | some b => exact ⟨b, rfl⟩
    rw [ha] at t1
    rw [hb] at t2
    have hA : N.hit (ky N.nF S T) j = true := by
     simp only [Net.hit, ha, ob, ky, decide_eq_true (hN.fr j a ha), cond_true]
     rw [show T a = true from t1]; simp
    have hB : N.hit (kx N.nF S T) j = true := by
     have := hN.sc j b hb
     simp only [Net.hit, hb, ob, kx, decide_eq_false (show ¬ b < N.nF by omega), cond_false]
     rw [show T b = true from t2]; simp
    rw [hA, hB] at hx
    simp only [cond_true, cond_false] at hx
    have q1 := Net.most_le (R := R) (C := C) hN (ky N.nF S T)
    have q2 := Net.most_le (R := R) (C := C) hN (kx N.nF S T)
    omega
  ·have e : N.hit S j = true := by simp [Net.hit, e2]
   simp only [cnt, e1, e2, e, cond_false, cond_true]
   omega
  ·have e : N.hit S j = true := by simp [Net.hit, e1]
   simp only [cnt, e1, e2, e, cond_false, cond_true]
   omega
  ·have e : N.hit S j = true := by simp [Net.hit, e1]
   simp only [cnt, e1, e2, e, cond_true]
   have := h2 S e1 e2
   omega
 by_cases hb : ∀ S, ob S (N.fr j) = true → ob S (N.sc j) = true → N.most R C ≤ N.f R C S - N.alone R C j
 ·exact ⟨_, hal, Int.le_refl _, key _ hal (Int.le_refl _) hb (.inl rfl)⟩
 ·-- the p0 of those that have both
  have : ∃ m : Int, (∃ S, ob S (N.fr j) = true ∧ ob S (N.sc j) = true ∧ N.f R C S = m) ∧ ∀ S, ob S (N.fr j) = true → ob S (N.sc j) = true → m ≤ N.f R C S := by
   obtain ⟨S0, s1, s2⟩ : ∃ S, ob S (N.fr j) = true ∧ ob S (N.sc j) = true := by
    refine Classical.byContradiction fun hno => hb fun S h1 h2 => absurd ⟨S, h1, h2⟩ hno
   have hlow : ∀ S, ob S (N.fr j) = true → ob S (N.sc j) = true → N.most R C ≤ N.f R C S := fun S _ _ => Net.most_le hN S
   generalize hd : (N.f R C S0 - N.most R C).toNat = d
   induction d using Nat.strongRecOn generalizing S0 with
   | _ d ih =>
    by_cases hmin : ∀ S, ob S (N.fr j) = true → ob S (N.sc j) = true → N.f R C S0 ≤ N.f R C S
    ·exact ⟨_, ⟨S0, s1, s2, rfl⟩, hmin⟩
    ·obtain ⟨S1, hS1⟩ := Classical.not_forall.1 hmin
     obtain ⟨t1, hS2⟩ := Classical.not_imp.1 hS1
     obtain ⟨t2, hS3⟩ := Classical.not_imp.1 hS2
     have hl1 := hlow S1 t1 t2
     have hl0 := hlow S0 s1 s2
     exact ih _ (by omega) S1 t1 t2 rfl
  obtain ⟨m, ⟨S, q1, q2, q3⟩, q4⟩ := this
  have hm := Net.most_le (R := R) (C := C) hN S
  have hlt : m - N.most R C < N.alone R C j := by
   refine Classical.byContradiction fun hno => hb fun T t1 t2 => ?_
   have := q4 T t1 t2
   omega
  exact ⟨m - N.most R C, by omega, by omega, key _ (by omega) (by omega) (fun T t1 t2 => by have := q4 T t1 t2; omega) (.inr ⟨S, q1, q2, by omega⟩)⟩
end
end Go.AB
namespace Go.PB
structure bg where
 id : Int
 miss : Int
 deriving DecidableEq
structure am where
 fr : Int
 to : Int
 fst : Int
 snd : Int
 found : List PlaceD
 well : List PlaceD
 deriving DecidableEq
structure af where
 text : ah
 firsts : List bg
 seconds : List bg
 pages : List am
 deriving DecidableEq
/-- proofs at work -/
structure cb where
 p : af
 words : List Int
 all : List (List PlaceD)
 both : List (List PlaceD)
structure ba where
 lo : Int
 hi : Int
 deriving DecidableEq
end Go.PB
namespace Go.AB
open Go Go.RowKit
open Go.AB.Enc (cells)
open Go.PB (aq ah PlaceD av ax aw bg am af cb ba)
instance : Enc bg := ⟨fun x => [.v (.int .i64 x.id), .v (.int .i64 x.miss)], 2, fun _ => rfl, fun m x c h => by
 simp only [List.mem_cons, List.not_mem_nil, or_false] at h; rcases h with rfl | rfl <;> exact .v, fun x c h => by
 simp only [List.mem_cons, List.not_mem_nil, or_false] at h; rcases h with rfl | rfl <;> rfl⟩
instance : Enc ba := ⟨fun x => [.v (.int .i64 x.lo), .v (.int .i64 x.hi)], 2, fun _ => rfl, fun m x c h => by
 simp only [List.mem_cons, List.not_mem_nil, or_false] at h; rcases h with rfl | rfl <;> exact .v, fun x c h => by
 simp only [List.mem_cons, List.not_mem_nil, or_false] at h; rcases h with rfl | rfl <;> rfl⟩
instance : Enc am := ⟨fun x => [.v (.int .i64 x.fr), .v (.int .i64 x.to), .v (.int .i64 x.fst), .v (.int .i64 x.snd), lst x.found, lst x.well], 6, fun _ => rfl, fun m x c h => by
 simp only [List.mem_cons, List.not_mem_nil, or_false] at h
 rcases h with rfl | rfl | rfl | rfl | rfl | rfl
 ·exact .v
 ·exact .v
 ·exact .v
 ·exact .v
 ·exact bd m _
 ·exact bd m _, fun x c h => by
 simp only [List.mem_cons, List.not_mem_nil, or_false] at h; rcases h with rfl | rfl | rfl | rfl | rfl | rfl <;> rfl⟩
instance : Enc af := ⟨fun x => [lst x.text, lst x.firsts, lst x.seconds, lst x.pages], 4, fun _ => rfl, fun m x c h => by
 simp only [List.mem_cons, List.not_mem_nil, or_false] at h
 rcases h with rfl | rfl | rfl | rfl
 ·exact bd m _
 ·exact bd m _
 ·exact bd m _
 ·exact bd m _, fun x c h => by
 simp only [List.mem_cons, List.not_mem_nil, or_false] at h; rcases h with rfl | rfl | rfl | rfl <;> rfl⟩
/-! ### Lines of a text -/
/-- the number of a chapter's first line -/
def g3 (t : ah) (k : Nat) : Nat := ((t.take k).map fun c => c.lines.length).sum
theorem uff (t : ah) : g3 t 0 = 0 := by simp [g3]
theorem yr {t : ah} {k : Nat} {c : aq} (h : t[k]? = some c) : g3 t (k + 1) = g3 t k + c.lines.length := by
 unfold g3
 rw [List.take_add_one, h]
 simp
def pz (t : ah) : Nat := g3 t t.length
/-- the number of the line of a place -/
def ru (t : ah) (q : PlaceD) : Int := q.ln + (g3 t q.ch.toNat : Int)
def i1 (t : ah) (x : am) (q : PlaceD) : Bool := inB (ru t q) x.fr x.to
/-! ### Valid proofs -/
def befB (a b : PlaceD) : Bool := decide (ez (da a) (da b) < 0)
/-- a place of a list may stand where it does -/
def qc (t : ah) (x : am) (l : List PlaceD) (i : Nat) : Bool := match l[i]? with
 | none => true
 | some q => ga t q && i1 t x q && (decide (i = 0) || match l[i - 1]? with | none => true | some a => befB a q)
def dm (t : ah) (x : am) (l : List PlaceD) (n : Nat) : Bool := (List.range n).all (qc t x l)
theorem gh (t : ah) (x : am) (l : List PlaceD) (n : Nat) : dm t x l (n + 1) = (dm t x l n && qc t x l n) := by
 unfold dm
 rw [List.range_succ, List.all_append]
 simp
def j6 (t : ah) (x : am) (r : Int) (l : List PlaceD) : Bool := (decide (0 ≤ r) || decide (l = [])) && dm t x l l.length
def i0 (r : bg) : Bool := inB r.id 0 9999 && inB r.miss 0 90
def pj (p : af) : Bool := decide (p.firsts.length ≤ 3) && decide (p.seconds.length ≤ 3) && (p.firsts ++ p.seconds).all i0 && decide ((p.firsts ++ p.seconds).map (·.id)).Nodup
def lk (p : af) (last : Int) (x : am) : Bool := decide (last < x.fr) && decide (x.fr ≤ x.to) && decide (x.to < (pz p.text : Int)) && inB x.fst (-1) ((p.firsts.length : Int) - 1) && j6 p.text x x.fst x.found && inB x.snd (-1) ((p.seconds.length : Int) - 1) && j6 p.text x x.snd x.well
/-- the last line ahead of a page -/
def ip (l : List am) : Nat → Int
 | 0 => -1
 | i + 1 => match l[i]? with | some x => x.to | none => -1
def ri (p : af) (i : Nat) : Bool := match p.pages[i]? with
 | none => true
 | some x => lk p (ip p.pages i) x
def pk (p : af) (n : Nat) : Bool := (List.range n).all (ri p)
theorem ugw (p : af) (n : Nat) : pk p (n + 1) = (pk p n && ri p n) := by
 unfold pk
 rw [List.range_succ, List.all_append]
 simp
def jd (p : af) : Bool := pj p && decide (p.pages.length ≤ 8) && pk p p.pages.length
def ck (p : af) : Int := bif ff p.text then (bif jd p then 0 else 90) else 10
/-! ### What is found on a page -/
def ed (t : ah) (x : am) : List PlaceD := (f3 t).filter fun q => decide (q ∈ x.found) || decide (q ∈ x.well)
def dn (t : ah) (x : am) : List PlaceD := (f3 t).filter fun q => decide (q ∈ x.found) && decide (q ∈ x.well)
def fb (t : ah) (x : am) : Nat := ((f3 t).filter (i1 t x)).length
/-! ### Bounds of readers -/
def eu (b : Bool) (x : am) : Int := bif b then x.snd else x.fst
def cw (b : Bool) (x : am) : List PlaceD := bif b then x.well else x.found
def di (p : af) (b : Bool) : List bg := bif b then p.seconds else p.firsts
def d7 (l : List am) (g : am → Nat) : Nat := (l.map g).sum
theorem qv {l : List am} {k : Nat} {x : am} {g : am → Nat} (h : l[k]? = some x) : d7 (l.take (k + 1)) g = d7 (l.take k) g + g x := by
 unfold d7
 rw [List.take_add_one, h]
 simp
def gd (b : Bool) (i : Int) (x : am) : Nat := bif decide (eu b x = i) then (cw b x).length else 0
def g5 (t : ah) (b : Bool) (i : Int) (x : am) : Nat := bif decide (eu b x = i) then (ed t x).length else 0
def j4 (p : af) (b : Bool) (i : Nat) : Int := match (di p b)[i]? with | some r => r.miss | none => 0
def mu (p : af) (b : Bool) (i : Nat) : Int := 100 * (d7 p.pages (gd b i) : Int) / (100 - j4 p b i)
def ng (p : af) (b : Bool) (i : Nat) : Int := mu p b i - (d7 p.pages (g5 p.text b i) : Int)
/-! ### What may remain -/
def bu (p : af) : Nat := p.firsts.length + p.seconds.length
def co (p : af) (i : Nat) : Int := bif decide (i < p.firsts.length) then ng p false i else ng p true (i - p.firsts.length)
def sg (t : ah) (x : am) : Int := (fb t x : Int) - ((ed t x).length : Int)
def ix (p : af) : Bool := (List.range (bu p)).all fun i => decide (0 ≤ co p i)
def bk (p : af) : Net where
 nF := p.firsts.length
 nr := bu p
 np := p.pages.length
 fr := fun j => match p.pages[j]? with | some x => (bif decide (0 ≤ x.fst) then some x.fst.toNat else none) | none => none
 sc := fun j => match p.pages[j]? with | some x => (bif decide (0 ≤ x.snd) then some (p.firsts.length + x.snd.toNat) else none) | none => none
end Go.AB
namespace Go.AB
/-- so much on a page is the most of what loses nothing -/
structure Net.Pick (N : Net) (R C : Nat → Int) (j : Nat) (n : Int) : Prop where
 nn : 0 ≤ n
 le : n ≤ N.alone R C j
 ok : N.most R C ≤ n + N.most (N.lessR R j n) (d9 C j)
 max : ∀ m, n < m → m ≤ N.alone R C j → ¬ N.most R C ≤ m + N.most (N.lessR R j m) (d9 C j)
section
variable {N : Net} {R C : Nat → Int}
theorem Net.Pick.uniq {j : Nat} {n m : Int} (h : N.Pick R C j n) (k : N.Pick R C j m) : n = m := by
 rcases Int.lt_trichotomy n m with q | q | q
 ·exact absurd k.ok (h.max m q k.le)
 ·exact q
 ·exact absurd h.ok (k.max n q h.le)
theorem Net.pick_ex (hN : N.Ok) (hR : ∀ i, i < N.nr → 0 ≤ R i) (hC : ∀ j, j < N.np → 0 ≤ C j) {j : Nat} (hj : j < N.np) : ∃ n, N.Pick R C j n := by
 obtain ⟨n, h1, h2, h3⟩ := Net.greedy hN hR hC hj
 generalize hd : (N.alone R C j - n).toNat = d
 induction d using Nat.strongRecOn generalizing n with
 | _ d ih =>
  by_cases hmax : ∀ m, n < m → m ≤ N.alone R C j → ¬ N.most R C ≤ m + N.most (N.lessR R j m) (d9 C j)
  ·exact ⟨n, h1, h2, h3, hmax⟩
  ·obtain ⟨m, hm⟩ := Classical.not_forall.1 hmax
   obtain ⟨q1, hm⟩ := Classical.not_imp.1 hm
   obtain ⟨q2, hm⟩ := Classical.not_imp.1 hm
   exact ih _ (by omega) m (by omega) q2 (Classical.not_not.1 hm) rfl
open Classical in
noncomputable def Net.pick (N : Net) (R C : Nat → Int) (j : Nat) : Int := if h : ∃ n, N.Pick R C j n then h.choose else 0
theorem Net.pick_spec {j : Nat} (h : ∃ n, N.Pick R C j n) : N.Pick R C j (N.pick R C j) := by
 unfold Net.pick
 rw [dif_pos h]
 exact h.choose_spec
theorem Net.pick_eq {j : Nat} {n : Int} (h : N.Pick R C j n) : N.pick R C j = n := (Net.pick_spec ⟨n, h⟩).uniq h
/-- what may remain ahead of a page, by the worst truth -/
noncomputable def Net.room (N : Net) (R C : Nat → Int) : Nat → (Nat → Int) × (Nat → Int)
 | 0 => (R, C)
 | i + 1 => (N.lessR (N.room R C i).1 i (N.pick (N.room R C i).1 (N.room R C i).2 i), d9 (N.room R C i).2 i)
/-- the worst truth -/
noncomputable def Net.worst (N : Net) (R C : Nat → Int) (i : Nat) : Int := N.pick (N.room R C i).1 (N.room R C i).2 i
theorem Net.room_succ (i : Nat) : N.room R C (i + 1) = (N.lessR (N.room R C i).1 i (N.worst R C i), d9 (N.room R C i).2 i) := rfl
structure Net.RoomOk (N : Net) (R C : Nat → Int) (i : Nat) : Prop where
 rnn : ∀ r, r < N.nr → 0 ≤ (N.room R C i).1 r
 cnn : ∀ j, j < N.np → 0 ≤ (N.room R C i).2 j
 all : N.most (N.room R C i).1 (N.room R C i).2 = N.most R C - sm i (N.worst R C)
 caps : ∀ j, (N.room R C i).2 j = bif decide (j < i) then 0 else C j
 rds : ∀ r, (N.room R C i).1 r = R r - sm i (fun j => bif N.by j r then N.worst R C j else 0)
theorem Net.room_ok (hN : N.Ok) (hR : ∀ i, i < N.nr → 0 ≤ R i) (hC : ∀ j, j < N.np → 0 ≤ C j) : ∀ i, i ≤ N.np → N.RoomOk R C i
 | 0, _ => ⟨hR, hC, by simp [Net.room, sm], fun j => by simp [Net.room], fun r => by simp [Net.room, sm]⟩
 | i + 1, hi => by
  have h := Net.room_ok hN hR hC i (by omega)
  have hp : N.Pick (N.room R C i).1 (N.room R C i).2 i (N.worst R C i) := Net.pick_spec (Net.pick_ex hN h.rnn h.cnn (by omega))
  have hal := Net.le_alone.1 hp.le
  have hle := Net.less_le (R := (N.room R C i).1) (C := (N.room R C i).2) hN (show i < N.np by omega) hp.nn hal.1
  have hok := hp.ok
  refine ⟨fun r hr => ?_, fun j hj => ?_, ?_, fun j => ?_, fun r => ?_⟩
  ·rw [Net.room_succ]
   show 0 ≤ N.lessR _ i _ r
   unfold Net.lessR
   cases hb : N.by i r
   ·exact h.rnn r hr
   ·have := hal.2 r hb
    simp only [cond_true]; omega
  ·rw [Net.room_succ]
   show 0 ≤ d9 _ i j
   unfold d9
   cases decide (j = i)
   ·exact h.cnn j hj
   ·exact Int.le_refl _
  ·rw [Net.room_succ]
   have := h.all
   simp only [sm]
   show N.most (N.lessR _ i _) (d9 _ i) = _
   omega
  ·rw [Net.room_succ]
   show d9 _ i j = _
   unfold d9
   rw [h.caps j]
   by_cases e : j = i
   ·subst e; simp
   ·rw [decide_eq_false e, cond_false, show decide (j < i + 1) = decide (j < i) by rw [decide_eq_decide]; omega]
  ·rw [Net.room_succ]
   show N.lessR _ i _ r = _
   unfold Net.lessR
   rw [h.rds r]
   simp only [sm]
   cases N.by i r <;> simp <;> omega
theorem Net.worst_pick (hN : N.Ok) (hR : ∀ i, i < N.nr → 0 ≤ R i) (hC : ∀ j, j < N.np → 0 ≤ C j) {i : Nat} (hi : i < N.np) : N.Pick (N.room R C i).1 (N.room R C i).2 i (N.worst R C i) := by
 have h := Net.room_ok hN hR hC i (by omega)
 exact Net.pick_spec (Net.pick_ex hN h.rnn h.cnn hi)
end
end Go.AB
namespace Go.AB
open Go Go.RowKit
open Go.AB.Enc (cells)
open Go.PB (aq ah PlaceD av ax aw bg am af cb ba)
theorem sumL_sm (g : am → Nat) : ∀ l : List am, ((d7 l g : Nat) : Int) = sm l.length (fun j => match l[j]? with | some x => (g x : Int) | none => 0) := by
 intro l
 have key : ∀ k, k ≤ l.length → ((d7 (l.take k) g : Nat) : Int) = sm k (fun j => match l[j]? with | some x => (g x : Int) | none => 0) := by
  intro k
  induction k with
  | zero => intro _; rfl
  | succ k ih =>
   intro hk
   have hx : l[k]? = some l[k] := List.getElem?_eq_getElem (by omega)
   rw [qv hx]
   simp only [sm, hx]
   have := ih (by omega)
   omega
 have := key l.length (Nat.le_refl _)
 rwa [List.take_length] at this
/-! ### What valid proofs are -/
structure fk (p : af) : Prop where
 text : ff p.text = true
 nf : p.firsts.length ≤ 3
 ns : p.seconds.length ≤ 3
 np : p.pages.length ≤ 8
 rd : ∀ r ∈ p.firsts ++ p.seconds, i0 r = true
 page : ∀ (j : Nat) (x : am), p.pages[j]? = some x → lk p (ip p.pages j) x = true
theorem lz {p : af} (h : ck p = 0) : fk p ∧ jd p = true := by
 unfold ck at h
 cases ht : ff p.text
 ·rw [ht] at h; simp at h
 ·cases hp : jd p
  ·rw [ht, hp] at h; simp at h
  ·refine ⟨?_, rfl⟩
   unfold jd pj at hp
   simp only [Bool.and_eq_true, decide_eq_true_eq] at hp
   obtain ⟨⟨⟨⟨⟨h1, h2⟩, h3⟩, _⟩, h5⟩, h6⟩ := hp
   refine ⟨ht, h1, h2, h5, fun r hr => List.all_eq_true.1 h3 r hr, fun j x hx => ?_⟩
   have hj := (List.getElem?_eq_some_iff.1 hx).1
   have := List.all_eq_true.1 h6 j (List.mem_range.2 hj)
   unfold ri at this
   rw [hx] at this
   exact this
structure l5 (p : af) (last : Int) (x : am) : Prop where
 fr : last < x.fr
 to : x.fr ≤ x.to
 lt : x.to < (pz p.text : Int)
 fst : -1 ≤ x.fst ∧ x.fst ≤ (p.firsts.length : Int) - 1
 snd : -1 ≤ x.snd ∧ x.snd ≤ (p.seconds.length : Int) - 1
 found : j6 p.text x x.fst x.found = true
 well : j6 p.text x x.snd x.well = true
theorem pageB_true {p : af} {last : Int} {x : am} : lk p last x = true ↔ l5 p last x := by
 unfold lk
 simp only [Bool.and_eq_true, decide_eq_true_eq, inB_true]
 exact ⟨fun ⟨⟨⟨⟨⟨⟨h1, h2⟩, h3⟩, h4⟩, h5⟩, h6⟩, h7⟩ => ⟨h1, h2, h3, h4, h6, h5, h7⟩, fun h => ⟨⟨⟨⟨⟨⟨h.fr, h.to⟩, h.lt⟩, h.fst⟩, h.found⟩, h.snd⟩, h.well⟩⟩
theorem ku {t : ah} {x : am} {r : Int} {l : List PlaceD} (h : j6 t x r l = true) {q : PlaceD} (hq : q ∈ l) : ga t q = true ∧ i1 t x q = true := by
 unfold j6 at h
 rw [Bool.and_eq_true] at h
 obtain ⟨i, hi⟩ := List.getElem?_of_mem hq
 have := List.all_eq_true.1 h.2 i (List.mem_range.2 (List.getElem?_eq_some_iff.1 hi).1)
 unfold qc at this
 rw [hi] at this
 simp only [Bool.and_eq_true] at this
 exact this.1
theorem ujd {t : ah} {x : am} {r : Int} {l : List PlaceD} (h : j6 t x r l = true) {i : Nat} {a q : PlaceD} (ha : l[i]? = some a) (hq : l[i + 1]? = some q) : ez (da a) (da q) < 0 := by
 unfold j6 at h
 rw [Bool.and_eq_true] at h
 have := List.all_eq_true.1 h.2 (i + 1) (List.mem_range.2 (List.getElem?_eq_some_iff.1 hq).1)
 unfold qc at this
 rw [hq, Nat.add_sub_cancel, ha] at this
 have h9 : (ga t q = true ∧ i1 t x q = true) ∧ ez (da a) (da q) < 0 := by simpa [befB] using this
 exact h9.2
theorem uc8 {a b c : PlaceD} (h : ez (da a) (da b) < 0) (k : ez (da b) (da c) < 0) : ez (da a) (da c) < 0 := by
 rw [ms (by rfl)] at h k ⊢
 exact px h k
theorem xz (a : PlaceD) : ¬ ez (da a) (da a) < 0 := by
 rw [ms (by rfl)]
 exact nd _
theorem ue8 {l : List PlaceD} (h : ∀ (i : Nat) (a q : PlaceD), l[i]? = some a → l[i + 1]? = some q → ez (da a) (da q) < 0) : l.Pairwise fun a b => ez (da a) (da b) < 0 := by
 rw [List.pairwise_iff_getElem]
 intro i j hi hj hij
 have key : ∀ d (hd : i + 1 + d < l.length), ez (da l[i]) (da l[i + 1 + d]) < 0 := by
  intro d
  induction d with
  | zero => intro hd; exact h i _ _ (List.getElem?_eq_getElem hi) (List.getElem?_eq_getElem hd)
  | succ d ih =>
   intro hd
   exact uc8 (ih (by omega)) (h (i + 1 + d) _ _ (List.getElem?_eq_getElem (by omega)) (List.getElem?_eq_getElem hd))
 have := key (j - (i + 1)) (by omega)
 simpa [show i + 1 + (j - (i + 1)) = j by omega] using this
theorem uk {t : ah} {x : am} {r : Int} {l : List PlaceD} (h : j6 t x r l = true) : l.Pairwise fun a b => ez (da a) (da b) < 0 := ue8 fun _ _ _ ha hq => ujd h ha hq
/-- lists in order, with the same places -/
theorem s6 : ∀ {l m : List PlaceD}, l.Pairwise (fun a b => ez (da a) (da b) < 0) → m.Pairwise (fun a b => ez (da a) (da b) < 0) → (∀ q, q ∈ l ↔ q ∈ m) → l = m
 | [], [], _, _, _ => rfl
 | [], b :: m, _, _, h => by have := (h b).2 (List.mem_cons_self ..); cases this
 | a :: l, [], _, _, h => by have := (h a).1 (List.mem_cons_self ..); cases this
 | a :: l, b :: m, h1, h2, h => by
  rw [List.pairwise_cons] at h1 h2
  have hab : a = b := by
   have p1 := (h a).1 (List.mem_cons_self ..)
   have p2 := (h b).2 (List.mem_cons_self ..)
   rw [List.mem_cons] at p1 p2
   rcases p1 with rfl | p1
   ·rfl
   ·rcases p2 with rfl | p2
    ·rfl
    ·exact absurd (uc8 (h1.1 b p2) (h2.1 a p1)) (xz a)
  subst hab
  rw [s6 h1.2 h2.2 fun q => ?_]
  constructor
  ·intro hq
   have := (h q).1 (List.mem_cons_of_mem _ hq)
   rw [List.mem_cons] at this
   rcases this with rfl | this
   ·exact absurd (h1.1 q hq) (xz q)
   ·exact this
  ·intro hq
   have := (h q).2 (List.mem_cons_of_mem _ hq)
   rw [List.mem_cons] at this
   rcases this with rfl | this
   ·exact absurd (h2.1 q hq) (xz q)
   ·exact this
/-! ### Pages between readers -/
def rh (p : af) (j : Nat) (g : am → Int) : Int := match p.pages[j]? with | some x => g x | none => 0
theorem ugx {p : af} {j : Nat} {x : am} (h : p.pages[j]? = some x) (g : am → Int) : rh p j g = g x := by unfold rh; rw [h]
def dh (p : af) (j : Nat) : Int := rh p j (sg p.text)
theorem uhv {p : af} (h : fk p) : (bk p).Ok := by
 refine ⟨Nat.le_add_right _ _, fun j i hi => ?_, fun j i hi => ?_⟩
 ·simp only [bk] at hi ⊢
  cases hx : p.pages[j]? with
  | none => rw [hx] at hi; cases hi
  | some x =>
   rw [hx] at hi
   have hp := (pageB_true.1 (h.page j x hx)).fst
   dsimp only at hi
   by_cases q : 0 ≤ x.fst
   ·rw [decide_eq_true q, cond_true, Option.some.injEq] at hi
    omega
   ·rw [decide_eq_false q] at hi; cases hi
 ·simp only [bk, bu] at hi ⊢
  cases hx : p.pages[j]? with
  | none => rw [hx] at hi; cases hi
  | some x =>
   rw [hx] at hi
   have hp := (pageB_true.1 (h.page j x hx)).snd
   dsimp only at hi
   by_cases q : 0 ≤ x.snd
   ·rw [decide_eq_true q, cond_true, Option.some.injEq] at hi
    omega
   ·rw [decide_eq_false q] at hi; cases hi
/-- the readers of a page, as the program lists them -/
def dd (p : af) (x : am) : List Int := (bif decide (0 ≤ x.fst) then [x.fst] else []) ++ (bif decide (0 ≤ x.snd) then [(p.firsts.length : Int) + x.snd] else [])
theorem ui2 {p : af} {j : Nat} {x : am} (hx : p.pages[j]? = some x) (S : Nat → Bool) : (bk p).hit S j = (dd p x).any fun k => S k.toNat := by
 simp only [Net.hit, bk, hx, dd, List.any_append]
 congr 1
 ·cases decide (0 ≤ x.fst) <;> simp [ob]
 ·by_cases q : 0 ≤ x.snd
  ·simp [q, ob, show ((p.firsts.length : Int) + x.snd).toNat = p.firsts.length + x.snd.toNat by omega]
  ·simp [q, ob]
theorem ui7 {p : af} {last : Int} {x : am} (h : l5 p last x) : (ed p.text x).length ≤ fb p.text x := by
 unfold ed fb
 rw [← List.countP_eq_length_filter, ← List.countP_eq_length_filter]
 refine List.countP_mono_left fun q _ hq => ?_
 rw [Bool.or_eq_true, decide_eq_true_eq, decide_eq_true_eq] at hq
 rcases hq with hq | hq
 ·exact (ku h.found hq).2
 ·exact (ku h.well hq).2
theorem ucw {p : af} (h : fk p) (j : Nat) : 0 ≤ dh p j := by
 unfold dh rh
 cases hx : p.pages[j]? with
 | none => exact Int.le_refl _
 | some x =>
  have := ui7 (pageB_true.1 (h.page j x hx))
  show 0 ≤ sg p.text x
  unfold sg
  omega
end Go.AB
namespace Go.AB
open Go Go.RowKit
open Go.AB.Enc (cells)
/-- the numbers of a set -/
def tx (n s : Nat) : List Nat := (List.range n).filter fun i => s.testBit i
def ei (n s : Nat) : List Int := (tx n s).map fun i : Nat => (i : Int)
theorem ua0 (n s : Nat) : ei (n + 1) s = ei n s ++ (bif s.testBit n then [(n : Int)] else []) := by
 unfold ei tx
 rw [List.range_succ, List.filter_append, List.map_append]
 cases h : s.testBit n <;> simp [h]
theorem rq (n s : Nat) : (ei n s).length ≤ n := by
 unfold ei tx
 rw [List.length_map]
 have := List.length_filter_le (fun i => s.testBit i) (List.range n)
 rwa [List.length_range] at this
theorem membersL_mem {n s : Nat} {x : Int} : x ∈ ei n s ↔ ∃ i : Nat, x = (i : Int) ∧ i < n ∧ s.testBit i = true := by
 unfold ei tx
 simp only [List.mem_map, List.mem_filter, List.mem_range]
 exact ⟨fun ⟨i, ⟨h1, h2⟩, h3⟩ => ⟨i, h3.symm, h1, h2⟩, fun ⟨i, h3, h1, h2⟩ => ⟨i, ⟨h1, h2⟩, h3.symm⟩⟩
/-- the order of lists: shorter ones first, then by their numbers -/
def gy (a b : List Int) : Bool := decide (a.length < b.length) || (decide (a.length = b.length) && decide (ez a b < 0))
theorem uc9 {a b : List Int} : gy a b = true ↔ a.length < b.length ∨ (a.length = b.length ∧ ltW a b) := by
 unfold gy
 rw [Bool.or_eq_true, Bool.and_eq_true, decide_eq_true_eq, decide_eq_true_eq, decide_eq_true_eq]
 constructor
 ·rintro (h | ⟨h1, h2⟩)
  ·exact .inl h
  ·exact .inr ⟨h1, (ms h1).1 h2⟩
 ·rintro (h | ⟨h1, h2⟩)
  ·exact .inl h
  ·exact .inr ⟨h1, (ms h1).2 h2⟩
theorem uda (a : List Int) : gy a a = false := by
 rw [← Bool.not_eq_true, uc9]
 rintro (h | ⟨_, h⟩)
 ·omega
 ·exact nd a h
theorem uku {a b c : List Int} (h : gy a b = true) (k : gy b c = true) : gy a c = true := by
 rw [uc9] at *
 rcases h with h | ⟨h1, h2⟩
 ·rcases k with k | ⟨k1, _⟩
  ·exact .inl (by omega)
  ·exact .inl (by omega)
 ·rcases k with k | ⟨k1, k2⟩
  ·exact .inl (by omega)
  ·exact .inr ⟨by omega, px h2 k2⟩
/-- what is found among the first sets -/
def ep (so : Nat → Bool) (n : Nat) : Nat → Option (List Int)
 | 0 => none
 | k + 1 => match ep so n k with
  | none => bif so k then some (ei n k) else none
  | some b => bif so k && gy (ei n k) b then some (ei n k) else some b
def l3 (so : Nat → Bool) (n : Nat) : List Int := (ep so n (2 ^ n)).getD []
structure ulp (so : Nat → Bool) (n k : Nat) (b : List Int) : Prop where
 get : ∃ s, s < k ∧ so s = true ∧ b = ei n s
 min : ∀ s, s < k → so s = true → gy (ei n s) b = false
theorem ut (so : Nat → Bool) (n : Nat) : ∀ k, (ep so n k = none ∧ ∀ s, s < k → so s = false) ∨ ∃ b, ep so n k = some b ∧ ulp so n k b
 | 0 => .inl ⟨rfl, fun s h => absurd h (Nat.not_lt_zero _)⟩
 | k + 1 => by
  rcases ut so n k with ⟨h1, h2⟩ | ⟨b, h1, h2⟩
  ·simp only [ep, h1]
   cases hs : so k
   ·exact .inl ⟨rfl, fun s h => by
     by_cases e : s = k
     ·subst e; exact hs
     ·exact h2 s (by omega)⟩
   ·exact .inr ⟨_, rfl, ⟨k, by omega, hs, rfl⟩, fun s h hso => by
     by_cases e : s = k
     ·subst e; exact uda _
     ·rw [h2 s (by omega)] at hso; cases hso⟩
  ·simp only [ep, h1]
   right
   cases hs : so k && gy (ei n k) b
   ·refine ⟨b, rfl, ?_, fun s h hso => ?_⟩
    ·obtain ⟨s, q1, q2, q3⟩ := h2.get
     exact ⟨s, by omega, q2, q3⟩
    ·by_cases e : s = k
     ·subst e
      rw [hso, Bool.true_and] at hs
      exact hs
     ·exact h2.min s (by omega) hso
   ·rw [Bool.and_eq_true] at hs
    refine ⟨_, rfl, ⟨k, by omega, hs.1, rfl⟩, fun s h hso => ?_⟩
    by_cases e : s = k
    ·subst e; exact uda _
    ·rw [← Bool.not_eq_true]
     intro hb
     have := uku hb hs.2
     rw [h2.min s (by omega) hso] at this
     cases this
theorem uc7 (so : Nat → Bool) (n : Nat) : (l3 so n).length ≤ n := by
 unfold l3
 rcases ut so n (2 ^ n) with ⟨h, _⟩ | ⟨b, h, k⟩
 ·rw [h]; exact Nat.zero_le _
 ·rw [h]
  obtain ⟨s, _, _, rfl⟩ := k.get
  exact rq n s
theorem uc6 {so : Nat → Bool} {n k : Nat} (h : ep so n k = none) : ep so n (k + 1) = bif so k then some (ei n k) else none := by simp only [ep, h]
theorem xy {so : Nat → Bool} {n k : Nat} {b : List Int} (h : ep so n k = some b) : ep so n (k + 1) = bif so k && gy (ei n k) b then some (ei n k) else some b := by simp only [ep, h]
/-! ### Lists of numbers that are looked up -/
def ce (n : Nat) (R : Nat → Int) : List Int := (List.range n).map R
theorem iz (n : Nat) (R : Nat → Int) : (ce n R).length = n := by simp [ce]
theorem lh {n i : Nat} (R : Nat → Int) (h : i < n) : (ce n R)[i]? = some (R i) := by simp [ce, h]
theorem vn (n : Nat) (R : Nat → Int) : ce (n + 1) R = ce n R ++ [R n] := by
 unfold ce
 rw [List.range_succ, List.map_append]; rfl
theorem vo {n i : Nat} (R : Nat → Int) (v : Int) (h : i < n) : (ce n R).set i v = ce n fun k => bif decide (k = i) then v else R k := by
 apply List.ext_getElem?
 intro k
 rw [List.getElem?_set, iz]
 by_cases hk : k < n
 ·rw [lh (fun k => bif decide (k = i) then v else R k) hk, lh R hk]
  by_cases e : i = k
  ·subst e; rw [if_pos rfl, if_pos h, decide_eq_true rfl]; rfl
  ·rw [if_neg e, decide_eq_false (Ne.symm e)]; rfl
 ·rw [List.getElem?_eq_none (by rw [iz]; omega)]
  rw [if_neg (by omega), List.getElem?_eq_none (by rw [iz]; omega)]
end Go.AB
namespace Go.AB
open Go Go.RowKit
open Go.AB.Enc (cells)
open Go.PB (aq ah PlaceD av ax aw bg am af cb ba)
/-! ### All places are in order -/
theorem uk2 (t : ah) : (f3 t).Pairwise fun a b => ez (da a) (da b) < 0 := by
 unfold f3
 rw [List.pairwise_map, List.pairwise_iff_getElem]
 intro i j hi hj hij
 have h1 := List.getElem?_eq_getElem hi
 have h2 := List.getElem?_eq_getElem hj
 have h := uhp (udr h1).1 (udr h2).1
 rw [wt h1 rfl, wt h2 rfl] at h
 rw [ms (by rfl), ← h]
 omega
theorem allQ_mem {t : ah} {q : PlaceD} : q ∈ f3 t ↔ ga t q = true := allP_mem
theorem ul {t : ah} (f : PlaceD → Bool) : ((f3 t).filter f).Pairwise fun a b => ez (da a) (da b) < 0 := (uk2 t).filter _
/-- places in order, of a text, are those of all places that are among them -/
theorem ufg {t : ah} {l : List PlaceD} (h : l.Pairwise fun a b => ez (da a) (da b) < 0) (hp : ∀ q ∈ l, ga t q = true) : l = (f3 t).filter fun q => decide (q ∈ l) :=
 s6 h (ul _) fun q => by
  rw [List.mem_filter, decide_eq_true_eq, allQ_mem]
  exact ⟨fun h => ⟨hp q h, h⟩, fun h => h.2⟩
theorem uje {t : ah} {x : am} {r : Int} {l : List PlaceD} (h : j6 t x r l = true) : l = (f3 t).filter fun q => decide (q ∈ l) := ufg (uk h) fun q hq => (ku h hq).1
theorem nl {t : ah} {x : am} {r : Int} {l : List PlaceD} (h : j6 t x r l = true) : l.length ≤ (f3 t).length := by
 rw [uje h]
 exact List.length_filter_le _ _
theorem ui (t : ah) (x : am) : (ed t x).length ≤ (f3 t).length := List.length_filter_le _ _
theorem uc2 (t : ah) (x : am) : (dn t x).length ≤ (f3 t).length := List.length_filter_le _ _
theorem vd (t : ah) (x : am) : fb t x ≤ (f3 t).length := List.length_filter_le _ _
/-! ### How great numbers are -/
theorem vp {g : am → Nat} {m : Nat} : ∀ {l : List am}, (∀ x ∈ l, g x ≤ m) → d7 l g ≤ l.length * m
 | [], _ => by simp [d7]
 | x :: l, h => by
  have h1 := vp (l := l) fun y hy => h y (List.mem_cons_of_mem _ hy)
  have h2 := h x (List.mem_cons_self ..)
  simp only [d7, List.map_cons, List.sum_cons, List.length_cons] at h1 ⊢
  rw [Nat.succ_mul]
  omega
theorem z7 {p : af} (h : fk p) (b : Bool) (i : Int) : d7 p.pages (gd b i) ≤ 4800 := by
 have hq := o7 h.text
 have h1 := vp (l := p.pages) (g := gd b i) (m := 600) fun x hx => by
  obtain ⟨j, hj⟩ := List.getElem?_of_mem hx
  have hp := pageB_true.1 (h.page j x hj)
  unfold gd
  cases decide (eu b x = i)
  ·exact Nat.zero_le _
  ·cases b
   ·have := nl hp.found
    show x.found.length ≤ 600
    omega
   ·have := nl hp.well
    show x.well.length ≤ 600
    omega
 have := h.np
 have h2 : p.pages.length * 600 ≤ 8 * 600 := Nat.mul_le_mul_right _ this
 omega
theorem zf {p : af} (h : fk p) (b : Bool) (i : Int) : d7 p.pages (g5 p.text b i) ≤ 4800 := by
 have hq := o7 h.text
 have h1 := vp (l := p.pages) (g := g5 p.text b i) (m := 600) fun x hx => by
  have := ui p.text x
  unfold g5
  cases decide (eu b x = i)
  ·exact Nat.zero_le _
  ·show (ed p.text x).length ≤ 600
   omega
 have := h.np
 have h2 : p.pages.length * 600 ≤ 8 * 600 := Nat.mul_le_mul_right _ this
 omega
theorem uaw {p : af} (h : fk p) (b : Bool) (i : Nat) : 0 ≤ j4 p b i ∧ j4 p b i ≤ 90 := by
 unfold j4
 cases hr : (di p b)[i]? with
 | none => exact ⟨Int.le_refl _, by show (0 : Int) ≤ 90; omega⟩
 | some r =>
  have hm := List.mem_of_getElem? hr
  have : i0 r = true := h.rd r (by
   rw [List.mem_append]
   cases b
   ·exact .inl hm
   ·exact .inr hm)
  unfold i0 at this
  rw [Bool.and_eq_true, inB_true, inB_true] at this
  exact this.2
theorem ucy {p : af} (h : fk p) (b : Bool) (i : Nat) : 0 ≤ mu p b i ∧ mu p b i ≤ 48000 := by
 have h1 := z7 h b i
 have h2 := uaw h b i
 unfold mu
 have h3 : (0 : Int) < 100 - j4 p b i := by omega
 refine ⟨Int.ediv_nonneg (by omega) (by omega), ?_⟩
 have h4 : 100 * ((d7 p.pages (gd b i) : Nat) : Int) / (100 - j4 p b i) ≤ 100 * ((d7 p.pages (gd b i) : Nat) : Int) / 10 := by
  refine Int.le_ediv_of_mul_le (by omega) ?_
  have h5 := Int.ediv_mul_le (100 * ((d7 p.pages (gd b i) : Nat) : Int)) (show (100 - j4 p b i) ≠ 0 by omega)
  have h6 : 0 ≤ 100 * ((d7 p.pages (gd b i) : Nat) : Int) / (100 - j4 p b i) := Int.ediv_nonneg (by omega) (by omega)
  have h7 : 100 * ((d7 p.pages (gd b i) : Nat) : Int) / (100 - j4 p b i) * 10 ≤ 100 * ((d7 p.pages (gd b i) : Nat) : Int) / (100 - j4 p b i) * (100 - j4 p b i) := Int.mul_le_mul_of_nonneg_left (by omega) h6
  omega
 omega
theorem ua9 {p : af} (h : fk p) (b : Bool) (i : Nat) : -4800 ≤ ng p b i ∧ ng p b i ≤ 48000 := by
 have h1 := ucy h b i
 have h2 := zf h b i
 unfold ng
 omega
theorem uio {p : af} (h : fk p) (i : Nat) : -4800 ≤ co p i ∧ co p i ≤ 48000 := by
 unfold co
 cases decide (i < p.firsts.length)
 ·exact ua9 h _ _
 ·exact ua9 h _ _
theorem ukg {p : af} (h : fk p) (j : Nat) : 0 ≤ dh p j ∧ dh p j ≤ 600 := by
 refine ⟨ucw h j, ?_⟩
 have hq := o7 h.text
 unfold dh rh
 cases hx : p.pages[j]? with
 | none => show (0 : Int) ≤ 600; omega
 | some x =>
  have := vd p.text x
  show sg p.text x ≤ 600
  unfold sg
  omega
/-! ### What is told -/
section
def dx (p : af) (n : Int) : Int := bif decide (ck p = 0) then (bif inB n 0 ((p.pages.length : Int) - 1) then 0 else 2) else ck p
def ey (p : af) (e : Int) : Int := bif decide (e = 0) then (bif ix p then 0 else 8) else e
def i5 (p : af) (b : Bool) (n : Int) : Int := bif decide (ck p = 0) then (bif inB n 0 (((di p b).length : Int) - 1) then 0 else 2) else ck p
def gx (p : af) (m : Int) : Int := bif decide (ck p = 0) then (bif decide (m < 0) then 2 else bif ix p then 0 else 8) else ck p
def atE {α : Type} (e : Int) (d v : α) : α := bif decide (e = 0) then v else d
def me (p : af) (n : Int) : am := (p.pages[n.toNat]?).getD ⟨0, 0, 0, 0, [], []⟩
def n8 (p : af) (n : Int) : Int := atE (dx p n) 0 (fb p.text (me p n) : Int)
def qb (p : af) (n : Int) : List PlaceD := atE (dx p n) [] (ed p.text (me p n))
def qg (p : af) (n : Int) : List PlaceD := atE (dx p n) [] (dn p.text (me p n))
def l0 (p : af) (b : Bool) (n : Int) : Int := atE (i5 p b n) 0 (mu p b n.toNat)
def kf (p : af) (n : Int) : Int := bif decide (dx p n = 0) then (bif decide ((dn p.text (me p n)).length = 0) then 6 else 0) else dx p n
def xe (x : am) (k : Nat) : ba := ⟨((x.found.length * x.well.length / k : Nat) : Int), (((x.found.length * x.well.length + k - 1) / k : Nat) : Int)⟩
def mp (p : af) (n : Int) : ba := atE (kf p n) ⟨0, 0⟩ (xe (me p n) (dn p.text (me p n)).length)
def og (p : af) (n : Int) : ba := atE (ey p (dx p n)) ⟨0, 0⟩ ⟨0, (bk p).alone (co p) (dh p) n.toNat⟩
def yj (p : af) : Int := (bk p).most (co p) (dh p)
def pf (p : af) : ba := atE (ey p (ck p)) ⟨0, 0⟩ ⟨0, yj p⟩
noncomputable def iv (p : af) : Nat → Int := (bk p).worst (co p) (dh p)
noncomputable def n7 (p : af) : List Int := atE (ey p (ck p)) [] (ce p.pages.length (iv p))
def pd (p : af) (s : Nat) : Bool := decide ((bk p).f (co p) (dh p) (fun i => s.testBit i) = yj p)
def gj (p : af) : List Int := l3 (pd p) (bu p)
def l7 (p : af) (l : List Int) : List Int := l.filter fun k => decide (k < (p.firsts.length : Int))
def lg (p : af) (l : List Int) : List Int := (l.filter fun k => !decide (k < (p.firsts.length : Int))).map fun k => k - (p.firsts.length : Int)
def jy (C : Nat → Int) (l : List Int) (j : Nat) : Int := bif decide ((j : Int) ∈ l) then 0 else C j
def uds (p : af) (l : List Int) : Int := (bk p).most (co p) (jy (dh p) l)
def sf (p : af) (m : Int) (s : Nat) : Bool := decide (uds p (ei p.pages.length s) ≤ m)
def jk (p : af) (m : Int) : List Int := atE (gx p m) [] (l3 (sf p m) p.pages.length)
end
theorem ud0 (C : Nat → Int) : jy C [] = C := by funext j; simp [jy]
theorem udz (C : Nat → Int) (l : List Int) (i : Nat) : jy C (l ++ [(i : Int)]) = d9 (jy C l) i := by
 funext j
 unfold jy d9
 by_cases e : j = i
 ·subst e; simp
 ·rw [decide_eq_false e, cond_false]
  congr 1
  rw [decide_eq_decide, List.mem_append, List.mem_singleton]
  constructor
  ·rintro (h | h)
   ·exact h
   ·omega
  ·exact .inl
theorem uij (N : Net) (R : Nat → Int) (j : Nat) : N.lessR R j 0 = R := by
 funext i
 unfold Net.lessR
 cases N.by j i <;> simp
theorem uet {p : af} (h : ix p = true) : ∀ i, i < (bk p).nr → 0 ≤ co p i := fun i hi => by
 have := List.all_eq_true.1 h i (List.mem_range.2 hi)
 exact of_decide_eq_true this
end Go.AB
namespace Go.AB
open Go Go.RowKit
open Go.AB.Enc (cells)
open Go.PB (aq ah PlaceD av ax aw bg am af cb ba)
/-! ### Readers who miss less -/
end Go.AB
namespace Go.AB
open Go Go.RowKit
open Go.AB.Enc (cells)
open Go.PB (aq ah PlaceD av ax aw bg am af cb ba)
end Go.AB
namespace Go.AB
open Go Go.RowKit
open Go.AB.Enc (cells)
open Go.PB (aq ah PlaceD av ax aw bg am af cb ba)
end Go.AB
namespace Go.AB
open Go Go.RowKit
open Go.AB.Enc (cells)
open Go.PB (aq ah PlaceD av ax aw bg am af cb ba)
end Go.AB
