/-
  What the walks through the program rest on: values, states, steps, calls (AbScope, AbRange, AbIter, AbYield, AbGive, AbMix, AbNamed, AbConv, AbWords, AbDrawn, AbDrawnB, Ty, AdData, ItData, AbTypes, ItAll, CdData, CfFuncs, AcOne, AcEq, AcTwo, AcThree, AcFour, AcFive, CrOne, CePlain, CsRows, CtPlain, CuFuncs, CkKeys).
-/
import Derived.Test.YtgffhbbcpgdjjaaGreatDoorPartA
import Derived.LoopNIn
import Derived.Laws.IdiomRangeMap
import Derived.RangeFuncWrites
import Derived.Laws.IdiomStrings
import Derived.WalkKit
import Derived.Test.YtgffhbbcpgdjjaaGreatDoorProg
import Derived.Tactics
import Derived.Laws.StructEq
import Derived.Maps.Own
import Derived.WalkMore
namespace Go.AB
open Go Go.RowKit
open Go.AB.Enc (cells)
theorem rh {P : Program} {b : Frame} {a : Act} {k : List Item} {cs : List Frame} {w : World} {c : Code} : step P (lone (b.atR a (.code (.scope c) :: k)) cs w) = .next (lone (b.atR a (.code c :: .inScope c :: k)) cs w) :=
 step_lone_go (by simp [stepG, stepG.exec, Frame.atR])
theorem uio {P : Program} {b : Frame} {a : Act} {k : List Item} {cs : List Frame} {w : World} {c : Code} : step P (lone (b.atR a (.inScope c :: k)) cs w) = .next (lone (b.atR a k) cs w) :=
 step_lone_go (by simp [stepG, stepG.exec, Frame.atR])
def ull (Q : Exit → Act → World → Prop) : Exit → Act → World → Prop
 | .goto _, _, _ => False
 | e, a, w => Q e a w
theorem uhg {F : Fence} {n : Nat} {P : Program} {Q : Exit → Act → World → Prop} {a : Act} {w : World} {c : Code} (h : c.wpIn F n P (ull Q) a w) : (Code.scope c).wpIn F n P Q a w := by
 intro b k cs hro hb hr
 have h0 : (lone (b.atR a (.code (.scope c) :: k)) cs w).fenced P F := fenced_calm hb hr rfl
 obtain ⟨e, a₁, w₁, hq, harr⟩ := h b (.inScope c :: k) cs hro hb hr
 cases e with
 | normal => exact ⟨.normal, a₁, w₁, hq, .head h0 rh (StepsIn.trans harr (.one (fenced_calm hb hr rfl) uio))⟩
 | exit id' =>
  have hx : exitTo id' (.inScope c :: k) = exitTo id' k := by simp [exitTo]
  exact ⟨.exit id', a₁, w₁, hq, fun k' hk => .head h0 rh (harr.1 k' (by rw [hx]; exact hk)),
   fun hr' hk => let ⟨k₁, h1, h2⟩ := harr.2 hr' (by rw [hx]; exact hk); ⟨k₁, h1, .head h0 rh h2⟩⟩
 | goto l => exact hq.elim
 | ret => exact ⟨_, a₁, w₁, hq, .of_steps (.one h0 rh) harr⟩
 | panic ch => exact ⟨_, a₁, w₁, hq, .of_steps (.one h0 rh) harr⟩
 | outgrown => exact ⟨_, a₁, w₁, hq, .of_steps (.one h0 rh) harr⟩
section
variable {ρ : Option Nat} {P : Program} {Q : Exit → St → Prop} {st : St}
def up7 (Q : Exit → St → Prop) : Exit → St → Prop
 | .goto _, _ => False
 | e, st => Q e st
theorem ugl {c : Code} (h : AW ρ P c (up7 Q) st) : AW ρ P (.scope c) Q st := by
 intro E w a hs
 refine uhg (iv ?_ (h E w a hs))
 rintro e a' w' ⟨st', E', h1, h2, h3⟩
 cases e with
 | goto l => exact h3
 | _ => exact ⟨st', E', h1, h2, h3⟩
theorem ujs {fn : Func} {r1 r2 r3 : ResultVar} {c1 c2 c3 : C} (hf : fn.results = #[r1, r2, r3]) (h1 : RV P st r1 c1) (h2 : RV P st r2 c2) (h3 : RV P st r3 c3) : om P fn st (.tup [c1, c2, c3]) := fun E w a hs => by
 obtain ⟨v1, e1, q1⟩ := h1 E w a hs
 obtain ⟨v2, e2, q2⟩ := h2 E w a hs
 obtain ⟨v3, e3, q3⟩ := h3 E w a hs
 refine ⟨.tuple #[v1, v2, v3], ?_, (Rs.cons q1 (Rs.cons q2 (Rs.cons q3 Rs.nil))).tup⟩
 rw [ze, hf]
 simp [e1, e2, e3, Result.andThen]
end
end Go.AB
namespace Go.AB
open Go Go.RowKit
open Go.Maps (Keyed)
variable {ρ : Option Nat}

theorem uje {P : Program} (w : World) (ty : TypeId) (b bm since c0 : Nat) (seen : Array Nat) (es : Array MapEntry) (clock : Nat) (hi : w.heap[b]? = some (.mapIter (some bm) since seen c0)) (hb : w.heap[bm]? = some (.map es clock)) (hold : ∀ x ∈ es.toList, x.born < since) (hsc : since ≤ c0) :
  ((leftOf es seen).size = 0 ∧ (Instr.next (.pointer (some ⟨b, 0, none⟩)) false ty).run P w = .ok (.tuple #[.bool false]) w) ∨
  ∃ e ∈ (leftOf es seen).toList, ∃ w1 : World, (w1 = w ∨ w1 = w.drew) ∧ (Instr.next (.pointer (some ⟨b, 0, none⟩)) false ty).run P w = .ok (.tuple #[.bool true, e.key, e.val]) (w1.putObj b (.mapIter (some bm) since (seen.push e.born) clock)) := by
 simp only [Instr.next, getObj, Sem.run_bind, Sem.run, hi, hb, Result.andThen, next_test_false seen es since c0 hold hsc, Bool.false_eq_true, if_false]
 unfold leftOf
 have hmem : ∀ x ∈ (Array.filter (fun e => !seen.contains e.born) es).toList, x.born < since := fun x hx => hold x (by simp at hx ⊢; exact hx.1)
 generalize Array.filter (fun e => !seen.contains e.born) es = L at hmem ⊢
 have e1 : L.filter (fun x => decide (x.born < since)) = L := Array.filter_eq_self.2 (fun x hx => by simpa using hmem x (by simpa using hx))
 have e2 : L.filter (fun x => decide (x.born ≥ since)) = #[] := by
  rw [Array.filter_eq_empty_iff]
  intro x hx
  have := hmem x (by simpa using hx)
  simp
  omega
 simp only [e1, e2, Array.append_empty]
 by_cases h0 : L.size = 0
 ·left
  have : L = #[] := Array.eq_empty_of_size_eq_zero h0
  subst this
  refine ⟨rfl, ?_⟩
  simp [choose, Sem.run, Question.forced]
 ·right
  have hne : L.isEmpty = false := by simp [Array.isEmpty, h0]
  simp only [hne, Bool.false_eq_true, if_false, Array.empty_append, Array.size_map]
  have hch : ∃ (j : Nat) (w1 : World), j < L.size ∧ (w1 = w ∨ w1 = w.drew) ∧ (choose (Question.mapNext L.size)).run P w = .ok j w1 := by
   by_cases hf : L.size ≤ 1
   ·exact ⟨0, w, by omega, .inl rfl, by simp [choose, Sem.run, Question.forced, hf]⟩
   ·exact ⟨_, w.drew, Nat.mod_lt _ (by omega), .inr rfl, by
     simp only [choose, Sem.run, Question.forced, decide_eq_true_eq, hf, if_false, Question.cut]
     rfl⟩
  obtain ⟨j, w1, hj, hal, hrun⟩ := hch
  refine ⟨L[j], by simp, w1, hal, ?_⟩
  have hi1 : w1.heap[b]? = some (.mapIter (some bm) since seen c0) := by rcases hal with rfl | rfl <;> exact hi
  have hset : ∀ (o' : Obj), (setObj b o').run P w1 = .ok () (w1.putObj b o') := fun o' => by
   simp only [setObj, Sem.run, hi1]
   rfl
  simp only [hrun, Array.getElem?_map, Array.getElem?_eq_getElem hj, Option.map_some, Sem.run_bind, hset, Result.andThen]
  rfl

/-- A map over which a range runs: what was there when it began; the stamps of its keys. -/
def okB (P : Program) (k : TypeId) (α : Type) [KeyV α] (β : Value → Nat) (cl : Nat) : List MapEntry → Nat → Prop := fun es clock => okK P k α es clock ∧ clock = cl ∧ ∀ e ∈ es, e.born = β e.key
noncomputable def o5 (P : Program) (k : TypeId) {α : Type} [KeyV α] (wv : Nat) (m : α → Option C) (β : Value → Nat) (cl : Nat) : GObj := .map wv (okB P k α β cl) (kz m)
/-- The stamps of what has come. -/
def jg {α : Type} [KeyV α] (β : Value → Nat) (done : List α) : Array Nat := (done.map fun x => β (KeyV.kv x)).toArray

section
variable {P : Program} {o : Oper} {st : St} {K : St → Prop} {α : Type} [KeyV α]
/-- A new object that is no cells. -/
theorem uj3 {E : Env} {w : World} {G : Nat → Option GObj} {nx : Nat} (hg : SimG E w G nx) (ob : Obj) (hob : ob.isCells = false) :
  ∃ E', Ev E w E' (w.alloc ob) ∧ SimG E' (w.alloc ob) (ay G nx (.raw 0 ob)) (nx + 1) ∧ R E' (w.alloc ob) (.box nx 0 0) (.pointer (some ⟨w.heap.size, 0, none⟩)) ∧ ∀ n, n < nx → E'.T n = E.T n := by
 have hnx := hg.nx
 have hold : ∀ b, b < w.heap.size → (w.alloc ob).heap[b]? = w.heap[b]? := fun b hb => Below.heap_alloc w _ b hb
 have hnew : (w.alloc ob).heap[w.heap.size]? = some ob := heap_alloc_new w _
 have hTo : ∀ n t, (E.name (.pointer (some ⟨w.heap.size, 0, none⟩))).T n = some t → (n = E.nx ∧ t = (0, 0, .pointer (some ⟨w.heap.size, 0, none⟩))) ∨ E.T n = some t := fun n t ht => by
  simp only [Env.name] at ht
  split at ht
  ·rename_i e; exact .inl ⟨e, by simpa using ht.symm⟩
  ·exact .inr ht
 have hev : Ev E w (E.name (.pointer (some ⟨w.heap.size, 0, none⟩))) (w.alloc ob) := by
  refine ⟨(Below.refl _ _).alloc hg.base _, rfl, fun _ => Nat.le_refl _, fun b i hi => ?_, Nat.le_succ _, fun n hn ver wv val ht => ?_, fun n ver wv wv' val h1 h2 hn => ?_, ?_⟩
  ·have hb : b < w.heap.size := Nat.lt_of_not_le fun hle => by have := hg.fresh b hle; omega
   exact World.cell?_of_block (w := w) (hold b hb)
  ·rcases hTo n _ ht with ⟨e, _⟩ | ht
   ·omega
   ·exact ⟨ver, wv, val, ht, Nat.le_refl _, fun _ => ⟨rfl, fun _ b hb => hold b (hg.tb n ver wv val b ht hb).2⟩⟩
  ·rcases hTo n _ h2 with ⟨e, _⟩ | h2
   ·omega
   ·rw [h1] at h2; simp at h2; omega
  ·refine ⟨rfl, fun b hb => absurd hb (Nat.lt_irrefl _), fun b o ho _ => (hold b (Array.getElem?_eq_some_iff.1 ho).1).trans ho, fun b o ho => ⟨o, (hold b (Array.getElem?_eq_some_iff.1 ho).1).trans ho, rfl⟩, fun n t' b o ht hb ho => ?_, fun n t t' b hn h1 h2 hv _ => ?_⟩
   ·rcases hTo n _ ht with ⟨_, rfl⟩ | ht
    ·simp only [blk, Option.some.injEq] at hb
     subst hb
     have := (Array.getElem?_eq_some_iff.1 ho).1
     omega
    ·exact ⟨t', ht, hb⟩
   ·rcases hTo n _ h2 with ⟨e, _⟩ | h2
    ·omega
    ·rw [h1] at h2; cases h2; omega
 refine ⟨_, hev, ⟨by simp [Env.name, hnx], fun n o ho => ?_, fun n t ht => ?_, fun n ver wv val b ht hb => ?_, fun n m t t' b h1 h2 hne hb => ?_, fun b hb => ?_, ?_⟩, ?_, fun n hn => ?_⟩
 ·simp only [ay] at ho
  split at ho
  ·rename_i en
   subst en
   simp only [Option.some.injEq] at ho
   subst ho
   exact ⟨w.heap.size, by simp [Env.name, hnx], hnew, hob⟩
  ·rename_i en
   refine (hg.obj n o ho).keep hev (by simp only [Env.name]; rw [if_neg (by omega)]) fun ver wv val b h1 h2 => ⟨hold b (hg.tb n ver wv val b h1 h2).2, rfl⟩
 ·rcases hTo n _ ht with ⟨e, _⟩ | ht
  ·simp [Env.name]; omega
  ·have := hg.lt n t ht
   simp [Env.name]; omega
 ·rcases hTo n _ ht with ⟨_, e⟩ | ht
  ·simp only [Prod.mk.injEq] at e
   obtain ⟨rfl, rfl, rfl⟩ := e
   simp only [blk, Option.some.injEq] at hb
   subst hb
   exact ⟨hg.base, by simp⟩
  ·have := hg.tb n ver wv val b ht hb
   exact ⟨this.1, by simp; omega⟩
 ·rcases hTo n _ h1 with ⟨e, rfl⟩ | h1 <;> rcases hTo m _ h2 with ⟨e', rfl⟩ | h2
  ·omega
  ·intro hb'
   simp only [blk, Option.some.injEq] at hb
   subst hb
   have := hg.tb m _ _ _ w.heap.size h2 hb'
   omega
  ·intro hb'
   simp only [blk, Option.some.injEq] at hb'
   subst hb'
   have := hg.tb n _ _ _ w.heap.size h1 hb
   omega
  ·exact hg.ap n m t t' b h1 h2 hne hb
 ·exact hg.fresh b (by simp at hb; omega)
 ·have := hg.base
  simp [Env.name]; omega
 ·refine .box (by simp [Env.name]; omega) fun ver wv val ht => ⟨Nat.zero_le _, fun _ => ?_⟩
  simp only [Env.name] at ht
  rw [if_pos hnx.symm] at ht
  simp only [Option.some.injEq, Prod.mk.injEq] at ht
  rw [← ht.2.2]; rfl
 ·simp only [Env.name]
  rw [if_neg (by omega)]

/-- A fact among the named objects. -/
theorem ufc {E : Env} {w : World} {G : Nat → Option GObj} {nx : Nat} (hg : SimG E w G nx) {v : Value} {c : C} (hr : R E w c v) :
  ∃ E', Ev E w E' w ∧ SimG E' w (ay G nx (.fact v c)) (nx + 1) := by
 refine ⟨_, Ev.name hg undef (fun b o hb => by cases hb), hg.name undef _ (fun b hb => by cases hb) ⟨by simp [Env.name, hg.nx], hr.ev (Ev.name hg undef (fun b o hb => by cases hb))⟩⟩

/-- The stamps of a map's keys. -/
theorem v6 {E : Env} {w : World} {k : TypeId} {m : α → Option C} {es : List MapEntry} {clock : Nat} (h : MapOk E w (okK P k α) (kz m) es clock) (hall : ∀ e ∈ es, e.born < clock) :
  ∃ (β : Value → Nat) (ks : List α), MapOk E w (okB P k α β clock) (kz m) es clock ∧ ks.Nodup ∧ (∀ x, m x ≠ none ↔ x ∈ ks) ∧ (∀ x ∈ ks, ∀ y ∈ ks, β (KeyV.kv x) = β (KeyV.kv y) → x = y) := by
 classical
 have hkey : ∀ e ∈ es, ∃ x : α, e.key = KeyV.kv x := fun e he => let ⟨x, _, hx, _⟩ := h.ok e he; ⟨x, hx⟩
 let β : Value → Nat := fun v => if hv : ∃ e ∈ es, e.key = v then hv.choose.born else 0
 have hβ : ∀ e ∈ es, e.born = β e.key := fun e he => by
  have hv : ∃ e' ∈ es, e'.key = e.key := ⟨e, he, rfl⟩
  show e.born = if hv : ∃ e' ∈ es, e'.key = e.key then hv.choose.born else 0
  rw [dif_pos hv]
  have h1 := hv.choose_spec
  have : hv.choose = e := Go.entry_eq_of_key h.pw h1.1 he h1.2
  rw [this]
 let f : MapEntry → Option α := fun e => if hx : ∃ x : α, e.key = KeyV.kv x then some hx.choose else none
 have hf : ∀ e ∈ es, ∀ x : α, e.key = KeyV.kv x → f e = some x := fun e he x hx => by
  have h1 : ∃ x : α, e.key = KeyV.kv x := ⟨x, hx⟩
  show (if hx : ∃ x : α, e.key = KeyV.kv x then some hx.choose else none) = some x
  rw [dif_pos h1]
  congr 1
  exact KeyV.inj (h1.choose_spec.symm.trans hx)
 have hmem : ∀ x, x ∈ es.filterMap f ↔ ∃ e ∈ es, e.key = KeyV.kv x := fun x => by
  rw [List.mem_filterMap]
  constructor
  ·rintro ⟨e, he, hx⟩
   obtain ⟨y, hy⟩ := hkey e he
   rw [hf e he y hy] at hx
   cases hx
   exact ⟨e, he, hy⟩
  ·rintro ⟨e, he, hx⟩
   exact ⟨e, he, hf e he x hx⟩
 refine ⟨β, es.filterMap f, ⟨⟨h.ok, rfl, hβ⟩, h.pw, h.pb, h.val, h.has⟩, ?_, fun x => ?_, fun x hx y hy e => ?_⟩
 ·have : ∀ l : List MapEntry, (∀ e ∈ l, e ∈ es) → l.Pairwise (fun a b => a.key ≠ b.key) → (l.filterMap f).Nodup := by
   intro l
   induction l with
   | nil => intro _ _; exact List.nodup_nil
   | cons a l ih =>
    intro hs hp
    obtain ⟨x, hx⟩ := hkey a (hs a (List.mem_cons_self ..))
    rw [List.filterMap_cons_some (hf a (hs a (List.mem_cons_self ..)) x hx), List.nodup_cons]
    rw [List.pairwise_cons] at hp
    refine ⟨fun hm => ?_, ih (fun e he => hs e (List.mem_cons_of_mem _ he)) hp.2⟩
    rw [List.mem_filterMap] at hm
    obtain ⟨e, he, h1⟩ := hm
    obtain ⟨y, hy⟩ := hkey e (hs e (List.mem_cons_of_mem _ he))
    rw [hf e (hs e (List.mem_cons_of_mem _ he)) y hy] at h1
    cases h1
    exact hp.1 e he (hx.trans hy.symm)
  exact this es (fun _ h => h) h.pw
 ·rw [hmem]
  constructor
  ·intro hx
   obtain ⟨c, hc⟩ := Option.ne_none_iff_exists'.1 hx
   exact h.has (KeyV.kv x) c (by rw [ji, hc])
  ·rintro ⟨e, he, hx⟩
   obtain ⟨c, hc, _⟩ := h.val e he
   rw [hx, ji] at hc
   rw [hc]; simp
 ·obtain ⟨e1, h1, k1⟩ := (hmem x).1 hx
  obtain ⟨e2, h2, k2⟩ := (hmem y).1 hy
  have q : e1.born = e2.born := by rw [hβ e1 h1, hβ e2 h2, k1, k2, e]
  have : e1 = e2 := by
   obtain ⟨i, hi⟩ := List.getElem?_of_mem h1
   obtain ⟨j, hj⟩ := List.getElem?_of_mem h2
   rcases Nat.lt_trichotomy i j with hij | hij | hij
   ·exact absurd q (List.pairwise_iff_getElem.1 h.pb i j (List.getElem?_eq_some_iff.1 hi).1 (List.getElem?_eq_some_iff.1 hj).1 hij |> fun hh => by
     rw [(List.getElem?_eq_some_iff.1 hi).2, (List.getElem?_eq_some_iff.1 hj).2] at hh; exact hh)
   ·subst hij; rw [hi] at hj; cases hj; rfl
   ·exact absurd q.symm (List.pairwise_iff_getElem.1 h.pb j i (List.getElem?_eq_some_iff.1 hj).1 (List.getElem?_eq_some_iff.1 hi).1 hij |> fun hh => by
     rw [(List.getElem?_eq_some_iff.1 hi).2, (List.getElem?_eq_some_iff.1 hj).2] at hh; exact hh)
  subst this
  exact KeyV.inj (k1.symm.trans k2)

/-- A map is known better. -/
theorem SimG.remap {E : Env} {w : World} {G : Nat → Option GObj} {nx : Nat} (hg : SimG E w G nx) {n wv : Nat} {ok ok' : List MapEntry → Nat → Prop} {f : Value → Option C} (hG : G n = some (.map wv ok f))
  (h : ∀ es clock, MapOk E w ok f es clock → (∀ r, E.T n = some (0, wv, .map (some r)) → ∀ es', w.heap[r]? = some (.map es' clock) → es'.toList = es → es'.all (·.born < clock) = true → MapOk E w ok' f es clock)) : SimG E w (ay G n (.map wv ok' f)) nx := by
 refine ⟨hg.nx, fun k ob hk => ?_, hg.lt, hg.tb, hg.ap, hg.fresh, hg.base⟩
 simp only [ay] at hk
 split at hk
 ·rename_i e
  subst e
  cases hk
  obtain ⟨r, es, clock, h1, h2, h3, h4⟩ := hg.obj k _ hG
  exact ⟨r, es, clock, h1, h2, h _ _ h3 r h1 es h2 rfl h4, h4⟩
 ·exact hg.obj k ob hk

/-- A range over a map begins. -/
theorem uft {t k e : TypeId} [MapT P t k e] {x : Operand} {n wv : Nat} {m : α → Option C} (ho : o.op = .range t x) (hx : evC st x = .map n) (hG : st.G n = some (i1 P k wv m))
  (h : ∀ (r : Nat) (β : Value → Nat) (cl : Nat) (ks : List α), ks.Nodup → (∀ x, m x ≠ none ↔ x ∈ ks) → (∀ x ∈ ks, ∀ y ∈ ks, β (KeyV.kv x) = β (KeyV.kv y) → x = y) →
   K (St.put { st with G := ay (ay (ay st.G n (o5 P k wv m β cl)) st.nx (.raw 0 (.mapIter (some r) cl (jg β ([] : List α)) cl))) (st.nx + 1) (.fact (.map (some r)) (.map n)), nx := st.nx + 1 + 1 } o.dst (.box st.nx 0 0))) : EStep P o st K := ld fun E w a hs => by
 obtain ⟨r, es, clock, hT, hh, hok, hcl⟩ := hs.g.obj n _ hG
 have e1 := r5 (hx ▸ hs.ev x) hT
 have ht := MapT.spec (P := P) (t := t) (k := k) (e := e)
 have hcl' : ∀ e ∈ es.toList, e.born < clock := fun e he => by simpa using Array.all_eq_true_iff_forall_mem.1 hcl e (by simpa using he)
 obtain ⟨β, ks, hB, q1, q2, q3⟩ := v6 hok hcl'
 have hg1 : SimG E w (ay st.G n (o5 P k wv m β clock)) st.nx := by
  refine hs.g.remap hG fun es' clock' h3 r' h1 es2 h2 h5 _ => ?_
  rw [hT] at h1
  simp only [Option.some.injEq, Prod.mk.injEq, Value.map.injEq, true_and] at h1
  subst h1
  rw [hh] at h2
  cases h2
  subst h5
  exact hB
 obtain ⟨E1, v1, g1, r1, t1⟩ := uj3 hg1 (.mapIter (some r) clock #[] clock) rfl
 have hlt : n < st.nx := by have := hs.g.lt n _ hT; have := hs.g.nx; omega
 have hT1 : E1.T n = some (0, wv, .map (some r)) := (t1 n hlt).trans hT
 have hmr : R E1 (w.alloc (.mapIter (some r) clock #[] clock)) (.map n) (.map (some r)) := .map (by have := g1.nx; omega) fun ver wv' val hv _ => by
  rw [hT1] at hv; cases hv; rfl
 obtain ⟨E2, v2, g2⟩ := ufc g1 hmr
 refine ⟨.pointer (some ⟨w.heap.size, 0, none⟩), w.alloc (.mapIter (some r) clock #[] clock), E2, _, _, .box st.nx 0 0, ?_, v1.trans v2, r1.ev v2, g2, h r β clock ks q1 q2 q3⟩
 simp [execOp, ho, e1, run_range_map w t k e r es clock ht hh]

theorem seenOf_contains {β : Value → Nat} {done : List α} {b : Nat} : (jg β done).contains b = true ↔ ∃ x ∈ done, β (KeyV.kv x) = b := by
 simp [jg]

/-- The range goes on, or ends. -/
theorem ufu {k : TypeId} {x : Operand} {i fx n wv wn r cl : Nat} {β : Value → Nat} {m : α → Option C} {ks done : List α} (ho : o.op = .next x false) (hx : evC st x = .box i 0 0) (hI : st.G i = some (.raw wv (.mapIter (some r) cl (jg β done) cl))) (hF : st.G fx = some (.fact (.map (some r)) (.map n))) (hG : st.G n = some (o5 P k wn m β cl))
  (hks : ∀ x, m x ≠ none ↔ x ∈ ks) (hinj : ∀ x ∈ ks, ∀ y ∈ ks, β (KeyV.kv x) = β (KeyV.kv y) → x = y) (hd : ∀ y ∈ done, y ∈ ks)
  (hend : (∀ y ∈ ks, y ∈ done) → K (st.put o.dst (.tup [.v (.bool false)])))
  (hmore : ∀ y c, m y = some c → y ∈ ks → y ∉ done → K (St.put { st with G := ay st.G i (.raw (wv + 1) (.mapIter (some r) cl (jg β (done ++ [y])) cl)) } o.dst (.tup [.v (.bool true), KeyV.kc y, c]))) : EStep P o st K := fun E w a hs Kr Q hq => by
 obtain ⟨r', es, clock, hT, hh, hok, hcl⟩ := hs.g.obj n _ hG
 obtain ⟨b, hTi, hi, _⟩ := hs.g.obj i _ hI
 have hfact := (hs.g.obj fx _ hF).2
 have hr' : r' = r := by
  have := r5 hfact hT
  simpa using this.symm
 subst hr'
 obtain ⟨hokK, hclk, hβ⟩ := hok.ok
 subst hclk
 have hcl' : ∀ e ∈ es.toList, e.born < clock := fun e he => by simpa using Array.all_eq_true_iff_forall_mem.1 hcl e (by simpa using he)
 have e1 : a.eval x = .pointer (some ⟨b, 0, none⟩) := by
  have hp := hx ▸ hs.ev x
  generalize hv : a.eval x = v at hp
  cases hp with
  | @box _ _ _ b' h1 h2 =>
   have := (h2 _ _ _ hTi).2 rfl
   simp only [blk, Option.some.injEq] at this
   rw [this]
 have hkey : ∀ e ∈ es.toList, ∃ y : α, e.key = KeyV.kv y ∧ y ∈ ks ∧ ∃ c, m y = some c ∧ R E w c e.val ∧ R E w (KeyV.kc y) e.key := fun e he => by
  obtain ⟨y, _, hy, _, hr⟩ := hokK e he
  obtain ⟨c, hc, hrc⟩ := hok.val e he
  rw [hy, ji] at hc
  exact ⟨y, hy, (hks y).1 (by rw [hc]; simp), c, hc, hrc, hr E w⟩
 rcases uje (P := P) w o.type b r' clock clock (jg β done) es clock hi hh hcl' (Nat.le_refl _) with ⟨hz, hrun⟩ | ⟨en, hen, w1, hw1, hrun⟩
 ·have hall := all_seen es (jg β done) hz
  have hex : (execOp a.eval o).run P w = .ok (.value (.tuple #[.bool false])) w := by simp [execOp, ho, e1, hrun]
  unfold Oper.wp
  rw [hex]
  refine hq _ _ _ _ (Ev.refl E w) (hs.put o.dst (c := .tup [.v (.bool false)]) (Rs.cons (.v rfl) Rs.nil).tup) (hend fun y hy => ?_)
  obtain ⟨c, hc⟩ := Option.ne_none_iff_exists'.1 ((hks y).2 hy)
  obtain ⟨e, he, hek⟩ := hok.has (KeyV.kv y) c (by rw [ji, hc])
  obtain ⟨z, hz1, hz2⟩ := seenOf_contains.1 (hall e he)
  rw [hβ e he, hek] at hz2
  exact hinj z (hd z hz1) y hy hz2 ▸ hz1
 ·obtain ⟨hm1, hm2⟩ := mem_left hen
  obtain ⟨y, hy, hyk, c, hc, hrc, hrk⟩ := hkey en hm1
  have hnd : y ∉ done := fun hyd => by
   have : (jg β done).contains en.born = true := seenOf_contains.2 ⟨y, hyd, by rw [hβ en hm1, hy]⟩
   rw [hm2] at this; cases this
  have hseen : (jg β done).push en.born = jg β (done ++ [y]) := by simp [jg, hβ en hm1, hy]
  rw [hseen] at hrun
  have hhe : w1.heap = w.heap := by rcases hw1 with rfl | rfl <;> rfl
  have hblt : b < w1.heap.size := by rw [hhe]; exact (Array.getElem?_eq_some_iff.1 hi).1
  obtain ⟨ob, hob⟩ : ∃ ob, ob = (Obj.mapIter (some r') clock (jg β (done ++ [y])) clock) := ⟨_, rfl⟩
  rw [← hob] at hrun
  have hnew : (w1.putObj b ob).heap[b]? = some ob := World.putObj_heap_same hblt
  have hoth : ∀ k, k ≠ b → (w1.putObj b ob).heap[k]? = w.heap[k]? := fun k hk => by rw [World.putObj_heap_other hk, hhe]
  have htb := hs.g.tb i _ _ _ b hTi rfl
  have hbel1 : Below E.B w w1 := by
   rcases hw1 with rfl | rfl
   ·exact Below.refl _ _
   ·exact (Below.refl _ _).drew
  have hchg : Chg E w (w1.putObj b ob) 0 wv (.pointer (some ⟨b, 0, none⟩)) 0 (wv + 1) (.pointer (some ⟨b, 0, none⟩)) (E.L b) := by
   refine ⟨⟨hbel1.os, hbel1.tape, hbel1.output, by rw [World.putObj_size, hhe]; exact Nat.le_refl _, fun k hk => hoth k (by omega)⟩, fun k _ hk => hoth k (fun e => hk (by simp [blk, e])), fun b' hb' => .inl ⟨hb', ?_⟩, fun b' j hb' hj => ?_, .inr ⟨rfl, rfl, by omega⟩, fun b' o' hb' ho' => ?_, fun hv => absurd hv (Nat.lt_irrefl _), fun b' hb' hl => ?_⟩
   ·simp only [blk, Option.some.injEq] at hb'; subst hb'; exact Nat.le_refl _
   ·simp only [blk, Option.some.injEq] at hb'; subst hb'
    unfold World.cell?
    dsimp only
    rw [hi, hnew, hob]
   ·simp only [blk, Option.some.injEq] at hb'; subst hb'; rw [hi] at ho'; cases ho'; exact ⟨_, hnew, by rw [hob]; rfl⟩
   ·simp only [blk, Option.some.injEq] at hb'; subst hb'; omega
  have hev := Ev.chg hs.g hTi hchg
  have hobj : ObjOk (E.chg i (0, wv + 1, .pointer (some ⟨b, 0, none⟩)) (E.L b)) (w1.putObj b ob) i (.raw (wv + 1) ob) := ⟨b, by simp [Env.chg], hnew, by rw [hob]; rfl⟩
  have hg := SimG.chg hs.g hTi hchg hobj
  have hex : (execOp a.eval o).run P w = .ok (.value (.tuple #[.bool true, en.key, en.val])) (w1.putObj b ob) := by simp [execOp, ho, e1, hrun]
  unfold Oper.wp
  rw [hex]
  subst hob
  refine hq _ _ _ _ hev ((hs.evd hev hg).put o.dst (c := .tup [.v (.bool true), KeyV.kc y, c]) ((Rs.cons (.v rfl) (Rs.cons (hrk.ev hev) (Rs.cons (hrc.ev hev) Rs.nil))).tup)) (hmore y c hc hyk hnd)

/-- The entry that came last. -/
theorem uce {D : Nat → Prop} {k : TypeId} {x : Operand} {i fx n wv wn r cl : Nat} {β : Value → Nat} {m : α → Option C} {done : List α} {y : α} {c : C} (ho : o.op = .entry x) (hx : evC st x = .box i 0 0) (hI : st.G i = some (.raw wv (.mapIter (some r) cl (jg β (done ++ [y])) cl))) (hDi : D i) (hF : st.G fx = some (.fact (.map (some r)) (.map n))) (hG : st.G n = some (o5 P k wn m β cl)) (hDn : D n)
  (hm : m y = some c) : SStep P D o st (.tup [KeyV.kc y, c]) := fun E w a hs => by
 obtain ⟨r', es, clock, hT, hh, hok, hcl⟩ := hs.g.obj n _ hG
 obtain ⟨b, hTi, hi, _⟩ := hs.g.obj i _ hI
 have hfact := (hs.g.obj fx _ hF).2
 have hr' : r' = r := by
  have := r5 hfact hT
  simpa using this.symm
 subst hr'
 obtain ⟨hokK, hclk, hβ⟩ := hok.ok
 subst hclk
 have e1 : a.eval x = .pointer (some ⟨b, 0, none⟩) := by
  have hp := hx ▸ hs.ev x
  generalize hv : a.eval x = v at hp
  cases hp with
  | @box _ _ _ b' h1 h2 =>
   have := (h2 _ _ _ hTi).2 rfl
   simp only [blk, Option.some.injEq] at this
   rw [this]
 obtain ⟨e, he, hek⟩ := hok.has (KeyV.kv y) c (by rw [ji, hm])
 obtain ⟨y', _, hy', _, hr⟩ := hokK e he
 have hyy : y' = y := KeyV.inj (hy'.symm.trans hek)
 subst hyy
 obtain ⟨c', hc', hrc⟩ := hok.val e he
 rw [hek, ji, hm] at hc'
 cases hc'
 refine ⟨.tuple #[e.key, e.val], (Rs.cons (hr E w) (Rs.cons hrc Rs.nil)).tup, fun w' hk => ?_⟩
 have hb' := (hk.2 n hDn _ _ _ r' hT rfl).trans hh
 have hi' := (hk.2 i hDi _ _ _ b hTi rfl).trans hi
 have hback : (jg β (done ++ [y'])).back? = some e.born := by
  rw [hβ e he, hek]; simp [jg]
 have hn : (es.toList.map (·.born)).Nodup := List.pairwise_map.2 hok.pb
 have hf : es.find? (·.born == e.born) = some e := by rw [← Array.find?_toList]; exact find_born e es.toList hn he
 simp [execOp, ho, e1, Instr.entry, getObj, Sem.run, hi', hb', hback, hf, Result.andThen]

/-- What the run of a deletion leaves. -/
theorem ufx [DecidableEq α] {t kt k e : TypeId} [MapT P t k e] [KeyT P k α] {x i : Operand} {n wv : Nat} {m m' : α → Option C} (key : α) (ho : o.op = .call { callee := .builtin .delete, args := #[x, i], argTypes := #[t, kt] }) (hx : evC st x = .map n) (hG : st.G n = some (i1 P k wv m)) (hi : evC st i = KeyV.kc key) (hm : qn m key = m')
  (h : K (St.put { st with G := ay st.G n (i1 P k (wv + 1) m') } o.dst (.tup []))) : EStep P o st K := fun E w a hs Kr Q hq => by
 subst hm
 obtain ⟨r, es, clock, hT, hh, hok, hcl⟩ := hs.g.obj n _ hG
 have e1 := r5 (hx ▸ hs.ev x) hT
 have hkr := hi ▸ hs.ev i
 have e2 := KeyV.inv hkr
 obtain ⟨kl, hkey⟩ := KeyT.has (P := P) (k := k) hkr
 have ht := MapT.spec (P := P) (t := t) (k := k) (e := e)
 have Kd := KeyT.keyed (P := P) (k := k) (α := α)
 have hk1 : ∀ e ∈ es.toList, ∃ l, keyOf P k e.key = some l := fun e he => let ⟨_, l, _, h, _⟩ := hok.ok e he; ⟨l, h⟩
 obtain ⟨es', hrun, h1, h2, h3⟩ : ∃ es' : Array MapEntry, (Builtin.delete_ #[t, kt] o.type #[.map (some r), KeyV.kv key]).run P w = .ok (.tuple #[]) (ChangeMaps.setBlock w r (.map es' clock)) ∧ es'.toList.Sublist es.toList ∧ (∀ e ∈ es'.toList, e.key ≠ KeyV.kv key) ∧ ∀ e ∈ es.toList, e.key ≠ KeyV.kv key → e ∈ es'.toList := by
  rcases Kd.find w hkey es.toList hk1 with ⟨hf, hn⟩ | ⟨j, e0, hf, hj, hke⟩
  ·exact ⟨es, by simp [Builtin.delete_, run_underlying ht, MapKept.run_getObj_map hh, Kd.check w _ hkey, hf, MapKept.run_setObj_map _ hh, Result.andThen, ChangeMaps.setBlock], List.Sublist.refl _, hn, fun e he _ => he⟩
  ·have hjl : j < es.toList.length := (List.getElem?_eq_some_iff.1 hj).1
   refine ⟨es.eraseIdxIfInBounds j, by simp [Builtin.delete_, run_underlying ht, MapKept.run_getObj_map hh, Kd.check w _ hkey, hf, MapKept.run_setObj_map _ hh, Result.andThen, ChangeMaps.setBlock], ?_, fun e he => ?_, fun e he hne => ?_⟩
   ·rw [Array.toList_eraseIdxIfInBounds]; exact List.eraseIdx_sublist _ _
   ·rw [Array.toList_eraseIdxIfInBounds] at he
    obtain ⟨i, hi, hij, hie⟩ := List.mem_eraseIdx_iff_getElem.1 he
    intro hk
    have hee : e ∈ es.toList := hie ▸ List.getElem_mem hi
    have : e = e0 := Go.entry_eq_of_key hok.pw hee (List.mem_of_getElem? hj) (hk.trans hke.symm)
    have h0 := List.pairwise_iff_getElem.1 hok.pw
    have hjj := (List.getElem?_eq_some_iff.1 hj).2
    rcases Nat.lt_or_gt_of_ne hij with hlt | hlt
    ·exact h0 i j hi hjl hlt (by rw [hie, hjj, this])
    ·exact h0 j i hjl hi hlt (by rw [hie, hjj, this])
   ·rw [Array.toList_eraseIdxIfInBounds]
    obtain ⟨i, hi, hie⟩ := List.getElem_of_mem he
    refine List.mem_eraseIdx_iff_getElem.2 ⟨i, hi, fun hij => hne ?_, hie⟩
    subst hij
    rw [← hie, (List.getElem?_eq_some_iff.1 hj).2]; exact hke
 have hnew : (ChangeMaps.setBlock w r (.map es' clock)).heap[r]? = some (.map es' clock) := ChangeMaps.heap_setBlock_same hh _
 have hchg : Chg E w (ChangeMaps.setBlock w r (.map es' clock)) 0 wv (.map (some r)) 0 (wv + 1) (.map (some r)) (E.L r) := by
  have hbn := hs.g.tb n _ _ _ r hT rfl
  refine ⟨⟨rfl, rfl, rfl, by simp [ChangeMaps.setBlock], fun k hk => wc w r k _ (by omega)⟩, fun k _ hk => wc w r k _ (fun e => hk (by simp [blk, e])), fun b hb => .inl ⟨hb, ?_⟩, fun b i hb hi => ?_, .inr ⟨rfl, rfl, by omega⟩, fun b o hb ho => ?_, fun hv => absurd hv (Nat.lt_irrefl _), fun b hb hl => ?_⟩
  ·simp only [blk, Option.some.injEq] at hb; subst hb; exact Nat.le_refl _
  ·simp only [blk, Option.some.injEq] at hb; subst hb
   simp [World.cell?, hh, hnew]
  ·simp only [blk, Option.some.injEq] at hb; subst hb; rw [hh] at ho; cases ho; exact ⟨_, hnew, rfl⟩
  ·simp only [blk, Option.some.injEq] at hb; subst hb; omega
 have hev := Ev.chg hs.g hT hchg
 have hobj : ObjOk (E.chg n (0, wv + 1, .map (some r)) (E.L r)) (ChangeMaps.setBlock w r (.map es' clock)) n (i1 P k (wv + 1) (qn m key)) := by
  have hin : ∀ e ∈ es'.toList, e ∈ es.toList := fun e he => h1.subset he
  refine ⟨r, es', clock, by simp [Env.chg], hnew, ⟨fun e he => hok.ok e (hin e he), hok.pw.sublist h1, hok.pb.sublist h1, fun e he => ?_, fun x c hx => ?_⟩, ?_⟩
  ·obtain ⟨c, hc, hr⟩ := hok.val e (hin e he)
   refine ⟨c, ?_, hr.ev hev⟩
   obtain ⟨y, l, hy, _⟩ := hok.ok e (hin e he)
   rw [hy, ji] at hc ⊢
   have : y ≠ key := fun e2 => h2 e he (by rw [hy, e2])
   simp [qn, this, hc]
  ·by_cases hex : ∃ y : α, x = KeyV.kv y
   ·obtain ⟨y, rfl⟩ := hex
    rw [ji] at hx
    by_cases hyk : y = key
    ·subst hyk; simp [qn] at hx
    ·simp only [qn, hyk, if_false] at hx
     obtain ⟨e, he, hek⟩ := hok.has (KeyV.kv y) c (by rw [ji]; exact hx)
     exact ⟨e, h3 e he (by rw [hek]; exact fun e2 => hyk (KeyV.inj e2)), hek⟩
   ·rw [ui _ hex] at hx; cases hx
  ·refine Array.all_eq_true_iff_forall_mem.2 fun e he => ?_
   exact Array.all_eq_true_iff_forall_mem.1 hcl e (by simpa using hin e (by simpa using he))
 have hg := SimG.chg hs.g hT hchg hobj
 have hex : (execOp a.eval o).run P w = .ok (.value (.tuple #[])) (ChangeMaps.setBlock w r (.map es' clock)) := by simp [execOp, ho, resolve, invoke, builtin, e1, e2, hrun]
 unfold Oper.wp
 rw [hex]
 exact hq _ _ _ _ hev ((hs.evd hev hg).put o.dst (R.undef _ _)) h
end
end Go.AB
namespace Go.AB
open Go Go.RowKit

/-- Cells that are laid stay. -/
def KeepL (E : Env) (W W' : World) : Prop := W.heap.size ≤ W'.heap.size ∧ ∀ b i, i < E.L b → W'.cell? ⟨b, i, none⟩ = W.cell? ⟨b, i, none⟩
/-- What an iterator's call does, in one world. -/
def ubj (P : Program) (gf : Nat) (E : Env) (w : World) (lb : List Value) {β : Type} (xs : List β) (encv : β → List Value) : Prop :=
 SeqStopsK (fen none) 2 P gf lb.toArray (fun x : { x // x ∈ xs } => (encv x.1).toArray) (KeepL E) (fun zs => zs.map Subtype.val = xs) (fun pre => pre.map Subtype.val <+: xs) xs.length w
/-- The contract of an iterator's value: what comes, in which order. -/
def ubi (P : Program) (gf : Nat) (caps : List C) {β : Type} (xs : List β) (encv : β → List Value) : Prop :=
 ∀ (E : Env) (w : World) (lb : List Value), Rs E w caps lb → (∀ b, w.heap.size ≤ b → E.L b = 0) → ubj P gf E w lb xs encv
/-- The first m named blocks that are no cells lie below B. -/
def NCB (m B : Nat) (E : Env) (W : World) : Prop := ∀ n t b o, n < m → E.T n = some t → blk t.2.2 = some b → W.heap[b]? = some o → o.isCells = false → b < B
/-- What is owned, between two rounds. -/
def OwnW (E : Env) (w : World) (G : Nat → Option GObj) (nx : Nat) (W : World) : Prop := ∃ E1, Ev E w E1 W ∧ SimG E1 W G nx ∧ NCB nx w.heap.size E1 W

theorem SimG.heap {E : Env} {W W' : World} {G : Nat → Option GObj} {nx : Nat} (h : SimG E W G nx) (hcell : ∀ b i, i < E.L b → W'.cell? ⟨b, i, none⟩ = W.cell? ⟨b, i, none⟩) (hblk : ∀ n t b, E.T n = some t → blk t.2.2 = some b → W'.heap[b]? = W.heap[b]?) (hsz : W.heap.size ≤ W'.heap.size) : SimG E W' G nx := by
 have hrs : ∀ {c : List C} {v : List Value}, Rs E W c v → Rs E W' c v := fun hr => hr.same (fun _ => Nat.le_refl _) hcell rfl rfl
 refine ⟨h.nx, fun n o ho => ?_, h.lt, fun n ver wv val b h3 h4 => ?_, h.ap, fun b hb => h.fresh b (Nat.le_trans hsz hb), Nat.le_trans h.base hsz⟩
 ·have hr1 : ∀ {c : C} {v : Value}, R E W c v → R E W' c v := fun hr => hr.same (fun _ => Nat.le_refl _) hcell rfl rfl
  have := h.obj n o ho
  cases o with
  | fact v c => exact ⟨this.1, hr1 this.2⟩
  | raw wv o => obtain ⟨b, q1, q2, q3⟩ := this; exact ⟨b, q1, (hblk n _ b q1 rfl).trans q2, q3⟩
  | map wv ok f =>
   obtain ⟨r, es, clock, q1, q2, q3, q4⟩ := this
   exact ⟨r, es, clock, q1, (hblk n _ r q1 rfl).trans q2, q3.imp fun _ _ _ _ hr => hr1 hr, q4⟩
  | box wv cs =>
   obtain ⟨b, us, tt, q1, q2, q3, q4, q5⟩ := this
   exact ⟨b, us, tt, q1, (hblk n _ b q1 rfl).trans q2, q3, hrs q4, q5⟩
  | arr ver wv tt sz len cs =>
   obtain ⟨val, us, q1, q2, q3, q4, q5, q6⟩ := this
   refine ⟨val, us, q1, ⟨q2.1, ?_⟩, q3, hrs q4, q5, q6⟩
   rcases q2.2 with q2 | ⟨g, cap, cur, rfl, hg, hgg, rest⟩
   ·exact .inl q2
   ·exact .inr ⟨g, cap, cur, rfl, hg, (hblk n _ g q1 rfl).trans hgg, rest⟩
  | tip len tt sz =>
   obtain ⟨val, us, q1, q2, q5, q6⟩ := this
   refine ⟨val, us, q1, ⟨q2.1, ?_⟩, q5, q6⟩
   rcases q2.2 with q2 | ⟨g, cap, cur, rfl, hg, hgg, rest⟩
   ·exact .inl q2
   ·exact .inr ⟨g, cap, cur, rfl, hg, (hblk n _ g q1 rfl).trans hgg, rest⟩
 ·have := h.tb n ver wv val b h3 h4
  exact ⟨this.1, Nat.lt_of_lt_of_le this.2 hsz⟩

theorem zx {W : World} {b i : Nat} {o : Obj} (h : W.heap[b]? = some o) (hf : o.isCells = false) : W.cell? ⟨b, i, none⟩ = none := by
 unfold World.cell?
 dsimp only
 rw [h]
 cases o <;> first | rfl | cases hf

/-- The turn of a block that is no cells, and that came later. -/
theorem Ev.turn {E E1 : Env} {w W W' : World} {G0 : Nat → Option GObj} {nx0 : Nat} (hs : SimG E w G0 nx0) (hev : Ev E w E1 W) (hfr : ∀ b, W.heap.size ≤ b → E1.L b = 0) {row : Option Nat} (hg : W.grownBy W' row)
  (hr : ∀ r, row = some r → w.heap.size ≤ r ∧ ∃ o : Obj, W.heap[r]? = some o ∧ o.isCells = false) : Ev E w E1 W' ∧ ∀ b i, i < E1.L b → W'.cell? ⟨b, i, none⟩ = W.cell? ⟨b, i, none⟩ := by
 have hsz := hev.below.size
 have hold : ∀ b, b < w.heap.size → W'.heap[b]? = W.heap[b]? := fun b hb => hg.block b (by omega) fun e => by have := (hr b e.symm).1; omega
 have hsame : ∀ (b : Nat) (o : Obj), W.heap[b]? = some o → o.isCells = true → W'.heap[b]? = some o := fun b o ho hc => by
  refine (hg.block b (Array.getElem?_eq_some_iff.1 ho).1 fun e => ?_).trans ho
  obtain ⟨_, o', h1, h2⟩ := hr b e.symm
  rw [ho] at h1; cases h1; rw [hc] at h2; cases h2
 have hcell : ∀ b i, i < E1.L b → W'.cell? ⟨b, i, none⟩ = W.cell? ⟨b, i, none⟩ := fun b i hi => by
  have hlt : b < W.heap.size := Nat.lt_of_not_le fun hle => by have := hfr b hle; omega
  by_cases e : some b = row
  ·obtain ⟨h1, o, h2, h3⟩ := hr b e.symm
   have h4 := hs.fresh b h1
   obtain ⟨v, hv⟩ := hev.x.lc b (by omega)
   rw [zx h2 h3] at hv; cases hv
  ·exact World.cell?_of_block (w := W) (hg.block b hlt e)
 refine ⟨⟨⟨hg.os.trans hev.below.os, hg.tape.trans hev.below.tape, hg.output.trans hev.below.output, Nat.le_trans hsz hg.size, fun k hk => (hold k (Nat.lt_of_lt_of_le hk hs.base)).trans (hev.below.block k hk)⟩, hev.B, hev.L,
  fun b i hi => (hcell b i (Nat.lt_of_lt_of_le hi (hev.L b))).trans (hev.cell b i hi), hev.nx, fun n hn' ver' wv' val' h3 => ?_, hev.wv,
  ⟨hev.x.F, fun b hb => ?_, fun b o ho hu => (hold b (Array.getElem?_eq_some_iff.1 ho).1).trans (hev.x.oth b o ho hu), fun b o ho => ?_, hev.x.nb, fun n t t' b hn' q1 q2 q3 q4 => ?_⟩⟩, hcell⟩
 ·obtain ⟨ver, wv, val, q1, q2, q3⟩ := hev.T n hn' _ _ _ h3
  exact ⟨ver, wv, val, q1, q2, fun e => ⟨(q3 e).1, fun e2 b hb => (hold b (hs.tb n _ _ _ b q1 hb).2).trans ((q3 e).2 e2 b hb)⟩⟩
 ·obtain ⟨v, hv⟩ := hev.x.lc b hb
  exact ⟨v, (hcell b 0 (by omega)).trans hv⟩
 ·rw [hold b (Array.getElem?_eq_some_iff.1 ho).1]
  exact hev.x.ic b o ho
 ·obtain ⟨o, q5, q6⟩ := hev.x.mv n t t' b hn' q1 q2 q3 q4
  exact ⟨o, hsame b o q5 q6, q6⟩

/-- What is owned abides it. -/
theorem OwnW.turn {E : Env} {w : World} {G0 : Nat → Option GObj} {nx0 : Nat} (hs : SimG E w G0 nx0) {G : Nat → Option GObj} {nx : Nat} {W W' : World} {row : Option Nat} (h : OwnW E w G nx W) (hg : W.grownBy W' row)
  (hr : ∀ r, row = some r → w.heap.size ≤ r ∧ ∃ o : Obj, W.heap[r]? = some o ∧ o.isCells = false) : OwnW E w G nx W' := by
 obtain ⟨E1, hev, hs1, hn⟩ := h
 obtain ⟨hev', hcell⟩ := hev.turn hs hs1.fresh hg hr
 have hnx := hs1.nx
 have hblk : ∀ n t b, E1.T n = some t → blk t.2.2 = some b → W'.heap[b]? = W.heap[b]? := fun n t b ht hb => by
  have hlt := (hs1.tb n t.1 t.2.1 t.2.2 b ht hb).2
  refine hg.block b hlt fun e => ?_
  obtain ⟨h1, o, h2, h3⟩ := hr b e.symm
  have := hn n t b o (hnx ▸ hs1.lt n t ht) ht hb h2 h3
  omega
 exact ⟨E1, hev', hs1.heap hcell hblk hg.size, fun n t b o hm ht hb ho hf => hn n t b o hm ht hb ((hblk n t b ht hb).symm.trans ho) hf⟩
theorem OwnW.put {E : Env} {w : World} {G0 : Nat → Option GObj} {nx0 : Nat} (hs : SimG E w G0 nx0) {G : Nat → Option GObj} {nx : Nat} {W : World} {l : Nat} {o : Obj} (h : OwnW E w G nx W) (hl : w.heap.size ≤ l) (ho : W.heap[l]? = some o) (hf : o.isCells = false) (o' : Obj) : OwnW E w G nx (W.putObj l o') :=
 h.turn hs (grownBy_putObj' W l o') (fun r e => by cases e; exact ⟨hl, o, ho, hf⟩)

theorem NCB.step {m B : Nat} {E1 E2 : Env} {W W' : World} {G1 : Nat → Option GObj} {nx1 : Nat} (hn : NCB m B E1 W) (hm : m ≤ E1.nx) (hs1 : SimG E1 W G1 nx1) (h1 : Ev E1 W E2 W') : NCB m B E2 W' := by
 intro n t b o hlt ht hb ho hf
 obtain ⟨v', wv', val'⟩ := t
 obtain ⟨v, wv, val, q1, q2, q3⟩ := h1.T n (by omega) _ _ _ ht
 by_cases e : v = v'
 ·have hval := (q3 e).1
  subst hval
  have hlt2 := (hs1.tb n v wv val b q1 hb).2
  cases ho0 : W.heap[b]? with
  | none => rw [Array.getElem?_eq_none_iff] at ho0; omega
  | some o0 =>
   obtain ⟨o', h3, h4⟩ := h1.x.ic b o0 ho0
   rw [ho] at h3
   cases h3
   exact hn n _ b o0 hlt q1 hb ho0 (h4.symm.trans hf)
 ·obtain ⟨o2, h3, h4⟩ := h1.x.mv n _ _ b (by omega) q1 ht (by show v < v'; omega) hb
  rw [ho] at h3
  cases h3
  rw [hf] at h4; cases h4

/-- What comes is put into the loop's variables. -/
def tu : List Tmp → List C → St → St
 | p :: ps, c :: cs, st => tu ps cs (st.put (some p) c)
 | _, _, st => st
def ro : List Tmp → List Value → Act → Act
 | p :: ps, v :: vs, a => ro ps vs (a.put (some p) v)
 | _, _, a => a
theorem y8 {E : Env} {w : World} : ∀ (ps : List Tmp) {cs : List C} {vs : List Value} {st : St} {a : Act}, Rs E w cs vs → Sim E w st a → Sim E w (tu ps cs st) (ro ps vs a)
 | [], _, _, _, _, _, h => h
 | p :: ps, [], [], _, _, _, h => h
 | p :: ps, c :: cs, v :: vs, _, _, hr, h => y8 ps (cs := cs) (vs := vs) ⟨by simpa using hr.1, fun j d x h1 h2 => hr.2 (j + 1) d x (by simpa using h1) (by simpa using h2)⟩ (h.put (some p) (hr.2 0 c v rfl rfl))
 | p :: ps, [], v :: vs, _, _, hr, _ => absurd hr.1 (by simp)
 | p :: ps, c :: cs, [], _, _, hr, _ => absurd hr.1 (by simp)
theorem zi : ∀ (ps : List Tmp) (vs : List Value) (a : Act), ro ps vs a = { a with tmps := (ps.zip vs).foldl (fun t p => t.setIfInBounds p.1 p.2) a.tmps }
 | [], _, _ => rfl
 | p :: ps, [], _ => rfl
 | p :: ps, v :: vs, a => by
  simp only [ro, List.zip_cons_cons, List.foldl_cons]
  rw [zi ps vs]
  rfl

/-- How a round ends. -/
def yd {β Y : Type} (J : List β → Nat → Option GObj) (IxA : Code → List β → Y → Prop) (Gx : Y → Nat → Option GObj) (zs : List β) (e : Exit) (st : St) : Prop :=
 match e with
 | .normal => ∀ n o, J zs n = some o → st.G n = some o
 | .ret => ∃ y, IxA .ret zs y ∧ ∀ n o, Gx y n = some o → st.G n = some o
 | .exit id => ∃ y, IxA (.exit id) zs y ∧ ∀ n o, Gx y n = some o → st.G n = some o
 | .goto l => ∃ y, IxA (.goto l) zs y ∧ ∀ n o, Gx y n = some o → st.G n = some o
 | _ => False

/-- A range over a function: what is known between rounds hangs on what has come. -/
theorem uj4 {E : Env} {w : World} {a : Act} {P : Program} {β Y : Type} {g : Operand} {ps : Array Tmp} {assign body : Code} {Q : Exit → St → Prop} {st : St} {gf : Nat} [Fun P gf] {vs : List Value} {xs : List β} {encv : β → List Value} (cl : β → List C) (pl : List Tmp)
  (J : List β → Nat → Option GObj) (IxA : Code → List β → Y → Prop) (Gx : Y → Nat → Option GObj) (u : β → List (Nat × C)) (hs : Sim E w st a) (it : ubj P gf E w vs xs encv)
  (hgv : a.eval g = .func (.func gf) #[] vs.toArray) (hps : ps = pl.toArray) (hlen : ∀ x, (encv x).length = pl.length) (hcl : ∀ x ∈ xs, ∀ E W, Rs E W (cl x) (encv x))
  (hu : ∀ pre x, tu pl (cl x) { st with G := J pre, df := 0 } = { st with r := u x, G := J pre, df := 0 })
  (h0 : ∀ n o, J [] n = some o → st.G n = some o) (hJ : ∀ zs n o, J zs n = some o → st.G n = some o ∨ (n < st.nx ∧ o.low st.nx)) (hGx : ∀ c zs y, IxA c zs y → ∀ n o, Gx y n = some o → st.G n = some o ∨ (n < st.nx ∧ o.low st.nx))
  (round : ∀ l pre x, x ∈ xs → pre.length < xs.length → (∀ y ∈ pre, y ∈ xs) → AW (some l) P assign (mf (AW (some l) P body (yd J IxA Gx (pre ++ [x]))) fun _ _ => False) { st with r := u x, G := J pre, df := 0 })
  (stop : ∀ c pre y, pre <+: xs → IxA c pre y → AW none P c Q { st with G := Gx y, df := st.df + 1 })
  (done : Q .normal { st with G := J xs, df := st.df + 1 }) : cwp none P (.rangeFunc g ps assign body) (mo E w Q) a w := by
 have hlow : ∀ {G : Nat → Option GObj}, (∀ n o, G n = some o → st.G n = some o ∨ (n < st.nx ∧ o.low st.nx)) → ∀ n o, G n = some o → n < st.nx ∧ o.low st.nx := fun h n o ho => by
  rcases h n o ho with h1 | h1
  ·exact hs.lowG n o h1
  ·exact h1
 have hF : E.F ≤ w.heap.size := hs.d.F
 have hnx := hs.g.nx
 have simAt : ∀ {E1 : Env} {W : World} {G : Nat → Option GObj} {ds : List Deferred} {k : Nat}, Ev E w E1 W → SimG E1 W G st.nx → DefN E1 W k ds → Sim E1 W { st with G := G, df := k } { a with defers := ds } := fun hev hg1 hd =>
  ⟨hd, hs.sz, fun i v hv => (hs.t i v hv).ev hev, hg1⟩
 have marked : ∀ {E1 : Env} {W : World} {D : Nat}, Ev E w E1 W → (∀ n t, E1.T n = some t → n < st.nx) → NCB st.nx w.heap.size E1 W → w.heap.size ≤ D → W.heap[D]? = some (.deferred (some [])) → DefN E1 W (st.df + 1) ({ target := .collected D, args := #[] } :: a.defers) := fun {E1 W D} hev hlt hn hD hK => by
  refine ⟨⟨⟨D, rfl, by rw [hev.x.F]; omega, hK, fun n t ht hb => ?_, ?_⟩, (hs.d.ev hev).1⟩, by simp [hs.d.2]⟩
  ·have := hn n t D _ (hlt n t ht) ht hb hK rfl
   omega
  ·have : ∀ {ds : List Deferred}, DefOk E w ds → ∀ d' ∈ ds, d'.target ≠ .collected D := by
    intro ds
    induction ds with
    | nil => exact fun _ d' h => by cases h
    | cons d ds ih =>
     rintro ⟨⟨D', e', _, h2, _⟩, k⟩ d' hd'
     rcases List.mem_cons.1 hd' with rfl | hd'
     ·rw [e']
      intro e
      simp only [Target.collected.injEq] at e
      have := (Array.getElem?_eq_some_iff.1 h2).1
      omega
     ·exact ih k d' hd'
   exact this hs.d.1
 refine vg (n := 3) (wpIn_rangeFunc fun fn _ => ?_)
 -- the loop's record and the block for deferred calls
 obtain ⟨rc, hrc⟩ : ∃ rc : LoopState → Option Code → Loop, rc = fun s pe => { state := s, pending := pe, fn, tmps := a.tmps, params := ps, assign, body, defers := w.heap.size } := ⟨_, rfl⟩
 obtain ⟨W1, hW1⟩ : ∃ W1, (w.alloc (.deferred (some []))).alloc (.loop (rc .ready none)) = W1 := ⟨_, rfl⟩
 have sz1 : W1.heap.size = w.heap.size + 2 := by rw [← hW1]; simp
 have gr1 : w.grownBy W1 none := by
  refine ⟨by rw [← hW1]; rfl, by rw [← hW1]; rfl, by rw [← hW1]; rfl, by omega, fun k hk _ => ?_⟩
  rw [← hW1, Below.heap_alloc _ _ _ (by simp; omega), Below.heap_alloc _ _ _ hk]
 have recs : W1.heap[w.heap.size + 1]? = some (.loop (rc .ready none)) ∧ W1.heap[w.heap.size]? = some (.deferred (some [])) := by
  rw [← hW1]
  refine ⟨by have := World.alloc_heap_new (w.alloc (.deferred (some []))) (.loop (rc .ready none)); simpa using this, ?_⟩
  rw [Below.heap_alloc _ _ _ (by simp)]
  exact World.alloc_heap_new w _
 have own1 : OwnW E w (J []) st.nx W1 := OwnW.turn hs.g ⟨E, Ev.refl E w, hs.g.weak h0, fun n t b o _ ht hb _ _ => (hs.g.tb n t.1 t.2.1 t.2.2 b ht hb).2⟩ gr1 (fun r e => by cases e)
 refine ⟨w.heap.size + 1, [{ target := .collected w.heap.size, args := #[] }], W1, { target := .fn (.func gf) vs.toArray, args := #[.func (.yield (w.heap.size + 1)) #[] #[]] }, W1, gf, #[.func (.yield (w.heap.size + 1)) #[] #[]] ++ vs.toArray, W1, ?_, ?_, fun _ _ => trivial, ?_, fun e => (by cases e), ?_⟩
 ·rw [← hW1, hrc]; exact run_enterLoop_outer _ _ _ _ _
 ·simp only [resolve, hgv]; simp [go_sem]
 ·simp [invoke, go_sem, wj]
 have below1 : Below w.heap.size w W1 := ⟨gr1.os, gr1.tape, gr1.output, gr1.size, fun k hk => gr1.block k hk (by simp)⟩
 have tame : ∀ {A B : World} {row : Option Nat}, (∀ r, row = some r → W1.heap.size ≤ r ∧ ∃ o : Obj, A.heap[r]? = some o ∧ o.isWalk = true) → ∀ r, row = some r → w.heap.size ≤ r ∧ ∃ o : Obj, A.heap[r]? = some o ∧ o.isCells = false := fun h r e => by
  obtain ⟨h1, o, h2, h3⟩ := h r e
  exact ⟨by omega, o, h2, Obj.not_cells_of_walk h3⟩
 have stays : ∀ {A B : World} {row : Option Nat} {k : Nat} {o : Obj}, A.grownBy B row → (∀ r, row = some r → W1.heap.size ≤ r ∧ ∃ o : Obj, A.heap[r]? = some o ∧ o.isWalk = true) → A.heap[k]? = some o → o.isWalk = false → B.heap[k]? = some o := fun hgr h hk hw =>
  (grownBy_keeps hgr (fun r e => (h r e).2) hk hw).trans hk
 refine (it (w.heap.size + 1)
  (fun zs W => OwnW E w (J (zs.map Subtype.val)) st.nx W ∧ W.heap[w.heap.size + 1]? = some (.loop (rc .ready none)) ∧ W.heap[w.heap.size]? = some (.deferred (some [])))
  (fun zs W => ∃ c y, IxA c (zs.map Subtype.val) y ∧ OwnW E w (Gx y) st.nx W ∧ W.heap[w.heap.size + 1]? = some (.loop (rc .done (some c))) ∧ W.heap[w.heap.size]? = some (.deferred (some [])))
  W1 below1 (fun zs A B row h hgr hr => ⟨h.1.turn hs.g hgr (tame (B := B) hr), stays hgr hr h.2.1 rfl, stays hgr hr h.2.2 rfl⟩)
  (fun zs A B row h hgr hr => let ⟨c, y, h1, h2, h3, h4⟩ := h; ⟨c, y, h1, h2.turn hs.g hgr (tame (B := B) hr), stays hgr hr h3 rfl, stays hgr hr h4 rfl⟩) ?_ ⟨own1, recs⟩).mono ?_
 ·-- a round
  rintro pre x W ⟨⟨E1, hev, hs1, hn⟩, hl, hk⟩ hlen'
  have hE1 : E1.nx = st.nx := hs1.nx
  have unt : ∀ {k : Nat} {o : Obj}, w.heap.size ≤ k → W.heap[k]? = some o → o.isCells = false → ∀ n t, E1.T n = some t → blk t.2.2 ≠ some k := fun {k o} hk' ho hf n t ht hb => by
   have := hn n t k o (hE1 ▸ hs1.lt n t ht) ht hb ho hf
   omega
  have hy := run_yield (P := P) (args := (encv x.1).toArray) hl (by rw [hrc]; simp [hps, hlen])
  rw [hrc] at hy
  refine ⟨fn, _, assign, body, hy, roundIn_of_wpIn trivial ?_⟩
  clear hy
  have ha0 : ({ tmps := (ps.zip (encv x.1).toArray).foldl (fun t (p, v) => t.setIfInBounds p v) a.tmps, defers := [] } : Act) = ro pl (encv x.1) { tmps := a.tmps, defers := [] } := by
   rw [zi, hps]
   simp
  have hF1 : E1.F ≤ W.heap.size := by rw [hev.x.F]; exact Nat.le_trans hF hev.below.size
  have hsim := y8 pl (hcl x.1 x.2 E1 W) (simAt (ds := []) (k := 0) hev hs1 ⟨hF1, rfl⟩)
  rw [hu] at hsim
  show assign.wpIn (fen (some (w.heap.size + 1))) 1 P _ { tmps := (ps.zip (encv x.1).toArray).foldl (fun t (p, v) => t.setIfInBounds p v) a.tmps, defers := [] } W
  rw [ha0]
  refine wpIn_mono (round (w.heap.size + 1) (pre.map Subtype.val) x.1 x.2 (by simpa using hlen') (fun y hy => by
   obtain ⟨z, _, rfl⟩ := List.mem_map.1 hy
   exact z.2) E1 W _ hsim) ?_
  rintro e a1 Wa ⟨st1, E2, q1, q2, q3⟩
  cases e with
  | normal =>
   have hla := q1.x.oth _ _ hl (unt (by omega) hl rfl)
   have hka := q1.x.oth _ _ hk (unt (Nat.le_refl _) hk rfl)
   have hlta := (Array.getElem?_eq_some_iff.1 hla).1
   refine ⟨_, run_beginRound hla (by rw [hrc]), ?_⟩
   -- the record is busy
   have unt2 : ∀ {k : Nat} {o : Obj}, w.heap.size ≤ k → W.heap[k]? = some o → o.isCells = false → ∀ n t, E2.T n = some t → blk t.2.2 ≠ some k := fun {k o} hk' ho hf n t ht hb => by
    obtain ⟨t0, h1, h2⟩ := q1.x.nb n t k o ht hb ho
    exact unt hk' ho hf n t0 h1 h2
   obtain ⟨Wb, hWb⟩ : ∃ Wb, Wa.putObj (w.heap.size + 1) (.loop { rc .ready none with state := .busy }) = Wb := ⟨_, rfl⟩
   rw [hWb]
   have grb : Wa.grownBy Wb (some (w.heap.size + 1)) := hWb ▸ grownBy_putObj' _ _ _
   have hlb : Wb.heap[w.heap.size + 1]? = some (.loop { rc .ready none with state := .busy }) := hWb ▸ World.putObj_heap_same hlta
   have hkb : Wb.heap[w.heap.size]? = some (.deferred (some [])) := (grb.block _ (Array.getElem?_eq_some_iff.1 hka).1 (by simp)).trans hka
   obtain ⟨evb, hcellb⟩ := (hev.trans q1).turn hs.g q2.g.fresh grb (fun r e => by cases e; exact ⟨by omega, _, hla, rfl⟩)
   have hblkb : ∀ n t b, E2.T n = some t → blk t.2.2 = some b → Wb.heap[b]? = Wa.heap[b]? := fun n t b ht hb => by
    refine grb.block b (q2.g.tb n t.1 t.2.1 t.2.2 b ht hb).2 fun e => ?_
    simp only [Option.some.injEq] at e
    subst e
    exact unt2 (by omega) hl rfl n t ht hb
   have gb := q2.g.heap hcellb hblkb grb.size
   have db : DefN E2 Wb st1.df a1.defers := by
    have : ∀ {ds : List Deferred}, DefOk E2 Wa ds → DefOk E2 Wb ds := by
     intro ds
     induction ds with
     | nil => exact fun h => Nat.le_trans h grb.size
     | cons d ds ih =>
      rintro ⟨⟨D', e', h1, h2, h3, h4⟩, k⟩
      refine ⟨⟨D', e', h1, (grb.block D' (Array.getElem?_eq_some_iff.1 h2).1 fun e => ?_).trans h2, h3, h4⟩, ih k⟩
      simp only [Option.some.injEq] at e
      subst e
      rw [hla] at h2; cases h2
    exact ⟨this q2.d.1, q2.d.2⟩
   have simb : Sim E2 Wb st1 a1 := ⟨db, q2.sz, fun i v hv => (q2.t i v hv).same (fun _ => Nat.le_refl _) hcellb rfl rfl, gb⟩
   have nb2 : NCB st.nx w.heap.size E2 Wb := fun n t b o hm ht hb ho hf => by
    have := hblkb n t b ht hb
    exact hn.step (by omega) hs1 q1 n t b o hm ht hb (this.symm.trans ho) hf
   have hm2 : st.nx ≤ E2.nx := hE1 ▸ q1.nx
   refine wpIn_mono (q3 E2 Wb a1 simb) ?_
   rintro e a3 W3 ⟨st', E3, r1, r2, r3⟩
   have hl3 := r1.x.oth _ _ hlb (unt2 (by omega) hl rfl)
   have hk3 := r1.x.oth _ _ hkb (unt2 (Nat.le_refl _) hk rfl)
   have nb3 := nb2.step hm2 gb r1
   have own : ∀ {Gk : Nat → Option GObj}, (∀ n o, Gk n = some o → st'.G n = some o) → (∀ n o, Gk n = some o → n < st.nx ∧ o.low st.nx) → OwnW E w Gk st.nx W3 := fun {Gk} hsub hlw =>
    ⟨E3.drop st.nx, (evb.trans r1).drop (by omega), (r2.g.weak hsub).drop hlw, fun n t b o hm ht hb ho hf => nb3 n t b o hm (by simp only [Env.drop] at ht; rw [if_pos hm] at ht; exact ht) hb ho hf⟩
   have hmap : (pre ++ [x]).map Subtype.val = pre.map Subtype.val ++ [x.1] := by simp
   -- the end of the round
   have fin : ∀ (jump : Option Code), (Instr.endRound (w.heap.size + 1) jump).run P W3 = .ok (.bool jump.isNone) (W3.putObj (w.heap.size + 1) (.loop (rc (if jump.isNone then .ready else .done) jump))) ∧
     (W3.putObj (w.heap.size + 1) (.loop (rc (if jump.isNone then .ready else .done) jump))).heap[w.heap.size + 1]? = some (.loop (rc (if jump.isNone then .ready else .done) jump)) ∧
     (W3.putObj (w.heap.size + 1) (.loop (rc (if jump.isNone then .ready else .done) jump))).heap[w.heap.size]? = some (.deferred (some [])) := fun jump => by
    refine ⟨?_, World.putObj_heap_same (Array.getElem?_eq_some_iff.1 hl3).1, (World.putObj_heap_other (by omega)).trans hk3⟩
    have := run_endRound (P := P) jump hl3
    rw [hrc] at this ⊢
    exact this
   have keep : ∀ jump, KeepL E W (W3.putObj (w.heap.size + 1) (.loop (rc (if jump.isNone then .ready else .done) jump))) := fun jump => ⟨by
    rw [World.putObj_size]
    exact Nat.le_trans q1.below.size (Nat.le_trans grb.size r1.below.size), fun b i hi => by
    have hne : b ≠ w.heap.size + 1 := fun e => by subst e; rw [hs.g.fresh _ (by omega)] at hi; omega
    refine (World.cell?_of_block (w := W3) (World.putObj_heap_other hne)).trans ?_
    have h1 : i < E1.L b := Nat.lt_of_lt_of_le hi (hev.L b)
    have h2 : i < E2.L b := Nat.lt_of_lt_of_le h1 (q1.L b)
    exact (r1.cell b i h2).trans ((hcellb b i h2).trans (q1.cell b i h1))⟩
   cases e with
   | normal =>
    obtain ⟨h1, h2, h3⟩ := fin none
    refine ⟨_, _, h1, .inl ⟨rfl, ⟨?_, h2, h3⟩, keep none⟩⟩
    rw [hmap]
    exact (own r3 (hlow (hJ _))).put hs.g (by omega) hl3 rfl _
   | ret =>
    obtain ⟨h1, h2, h3⟩ := fin (some .ret)
    obtain ⟨y, k1, k2⟩ := r3
    exact ⟨_, _, h1, .inr ⟨rfl, .ret, y, by rw [hmap]; exact k1, (own k2 (hlow (hGx _ _ y k1))).put hs.g (by omega) hl3 rfl _, h2, h3⟩⟩
   | exit id =>
    obtain ⟨h1, h2, h3⟩ := fin (some (.exit id))
    obtain ⟨y, k1, k2⟩ := r3
    exact ⟨_, _, h1, .inr ⟨rfl, .exit id, y, by rw [hmap]; exact k1, (own k2 (hlow (hGx _ _ y k1))).put hs.g (by omega) hl3 rfl _, h2, h3⟩⟩
   | goto l' =>
    obtain ⟨h1, h2, h3⟩ := fin (some (.goto l'))
    obtain ⟨y, k1, k2⟩ := r3
    exact ⟨_, _, h1, .inr ⟨rfl, .goto l', y, by rw [hmap]; exact k1, (own k2 (hlow (hGx _ _ y k1))).put hs.g (by omega) hl3 rfl _, h2, h3⟩⟩
   | panic c => exact r3.elim
   | outgrown => exact r3.elim
  | _ => exact q3.elim
 ·-- behind the iterator
  rintro e W2 ⟨⟨v, rfl⟩, (⟨zs, hz, hI, hl, hk⟩ | ⟨pre, hz, c, y, hi, hI, hl, hk⟩)⟩
  ·obtain ⟨E1, hev, hs1, hn⟩ := hI.put hs.g (by omega) hl rfl (.loop { rc .ready none with state := .exhausted })
   have hK : (W2.putObj (w.heap.size + 1) (.loop { rc .ready none with state := .exhausted })).heap[w.heap.size]? = some (.deferred (some [])) := (World.putObj_heap_other (by omega)).trans hk
   rw [hz] at hs1
   exact ⟨none, _, by have := run_endLoop (P := P) hl (by rw [hrc]; simp); rw [hrc] at this ⊢; exact this, _, E1, hev, simAt hev hs1 (marked hev (fun n t ht => hs1.nx ▸ hs1.lt n t ht) hn (Nat.le_refl _) hK), done⟩
  ·obtain ⟨E1, hev, hs1, hn⟩ := hI.put hs.g (by omega) hl rfl (.loop { rc .done (some c) with state := .exhausted })
   have hK : (W2.putObj (w.heap.size + 1) (.loop { rc .done (some c) with state := .exhausted })).heap[w.heap.size]? = some (.deferred (some [])) := (World.putObj_heap_other (by omega)).trans hk
   refine ⟨some c, W2.putObj (w.heap.size + 1) (.loop { rc .done (some c) with state := .exhausted }), by rw [run_endLoop (P := P) hl (by rw [hrc]; simp), hrc], ?_⟩
   have h2 := vg (m := 3) (stop c _ y hz hi E1 _ _ (simAt hev hs1 (marked hev (fun n t ht => hs1.nx ▸ hs1.lt n t ht) hn (Nat.le_refl _) hK)))
   exact wpIn_mono h2 fun _ _ _ hq => nw hev hq
theorem ugn {P : Program} {β Y : Type} {g : Operand} {ps : Array Tmp} {assign body : Code} {Q : Exit → St → Prop} {st : St} {gf : Nat} [Fun P gf] {caps : List C} {xs : List β} {encv : β → List Value} (cl : β → List C) (pl : List Tmp)
  (J : List β → Nat → Option GObj) (IxA : Code → List β → Y → Prop) (Gx : Y → Nat → Option GObj) (u : β → List (Nat × C)) (it : ubi P gf caps xs encv)
  (hg : evC st g = .fn (.func gf) caps) (hps : ps = pl.toArray) (hlen : ∀ x, (encv x).length = pl.length) (hcl : ∀ x ∈ xs, ∀ E W, Rs E W (cl x) (encv x))
  (hu : ∀ pre x, tu pl (cl x) { st with G := J pre, df := 0 } = { st with r := u x, G := J pre, df := 0 })
  (h0 : ∀ n o, J [] n = some o → st.G n = some o) (hJ : ∀ zs n o, J zs n = some o → st.G n = some o ∨ (n < st.nx ∧ o.low st.nx)) (hGx : ∀ c zs y, IxA c zs y → ∀ n o, Gx y n = some o → st.G n = some o ∨ (n < st.nx ∧ o.low st.nx))
  (round : ∀ l pre x, x ∈ xs → pre.length < xs.length → (∀ y ∈ pre, y ∈ xs) → AW (some l) P assign (mf (AW (some l) P body (yd J IxA Gx (pre ++ [x]))) fun _ _ => False) { st with r := u x, G := J pre, df := 0 })
  (stop : ∀ c pre y, pre <+: xs → IxA c pre y → AW none P c Q { st with G := Gx y, df := st.df + 1 })
  (done : Q .normal { st with G := J xs, df := st.df + 1 }) : AW none P (.rangeFunc g ps assign body) Q st := fun E w a hs =>
 let ⟨vs, hgv, hvs⟩ := (hg ▸ hs.ev g).fn_inv
 uj4 cl pl J IxA Gx u hs (it E w vs hvs hs.g.fresh) hgv hps hlen hcl hu h0 hJ hGx round stop done
end Go.AB
namespace Go.AB
open Go Go.RowKit

/-- Values alone. -/
def exC : C → C
 | .v x => .v x
 | _ => .any
theorem R.ex {E E' : Env} {W W' : World} {c : C} {v : Value} (h : R E W c v) : R E' W' (exC c) v := by
 cases c with
 | v x =>
  have := h.v_inv
  cases h with
  | v h1 => exact .v h1
 | _ => exact .any
def noG : Nat → Option GObj := fun _ => none
def jj (st : St) : St := { n := st.n, l := st.l.map exC, r := st.r.map fun p => (p.1, exC p.2), G := noG, nx := 0, df := st.df }
theorem uex (l : List C) (r : List (Nat × C)) (i : Nat) : cy (l.map exC) (r.map fun p => (p.1, exC p.2)) i = exC (cy l r i) := by
 induction r with
 | nil =>
  simp only [cy, List.map_nil, List.getD_eq_getElem?_getD, List.getElem?_map]
  cases l[i]? <;> rfl
 | cons p r ih =>
  simp only [cy, List.map_cons]
  cases Nat.beq p.1 i
  ·exact ih
  ·rfl
theorem R.bare {E E' : Env} {W W' : World} (h0 : E.nx = 0) (hL : ∀ b, E.L b ≤ E'.L b) (hc : ∀ b i, i < E.L b → W'.cell? ⟨b, i, none⟩ = W.cell? ⟨b, i, none⟩) {c : C} {x : Value} (hr : R E W c x) : R E' W' c x := by
 induction hr with
 | v hx => exact .v hx
 | list h1 h2 h3 h4 h5 h6 _ z1 z2 h8 ih => exact .list h1 h2 h3 h4 h5 (h6.same hL hc) ih z1 z2 fun n h => by have := (h8 n h).1; omega
 | elem h1 h2 h3 _ ih => exact .elem h1 h2 (h3.same hL hc) ih
 | box h1 h2 => omega
 | arr h1 h2 h3 h4 => omega
 | own h1 h2 h3 h4 => omega
 | fn h1 _ h3 ih => exact .fn h1 ih h3
 | map h1 h2 => omega
 | agg h1 h2 _ h4 ih => exact .agg h1 h2 ih h4
 | tup h1 _ h3 ih => exact .tup h1 ih h3
 | any => exact .any
theorem DefN.imp {E E' : Env} {w : World} (hF : E'.F = E.F) (hT : ∀ n t b, E'.T n = some t → blk t.2.2 = some b → ∃ t0, E.T n = some t0 ∧ blk t0.2.2 = some b)  {n : Nat} {ds : List Deferred} (h : DefN E w n ds) : DefN E' w n ds := by
 refine ⟨?_, h.2⟩
 have := h.1
 clear h
 induction ds with
 | nil => show E'.F ≤ w.heap.size; rw [hF]; exact this
 | cons d ds ih =>
  obtain ⟨⟨D, e, h1, h2, h3, h4⟩, k⟩ := this
  exact ⟨⟨D, e, by rw [hF]; exact h1, h2, fun n t ht hb => let ⟨t0, q1, q2⟩ := hT n t D ht hb; h3 n t0 q1 q2, h4⟩, ih k⟩

/-- What a value is known as, whatever the names. -/
def Known (L : Nat → Nat) (Ws : World) (v : Value) (c : C) : Prop := ∀ (E : Env) (W : World), (∀ b, L b ≤ E.L b) → (∀ b i, i < L b → W.cell? ⟨b, i, none⟩ = Ws.cell? ⟨b, i, none⟩) → R E W c v
theorem Known.of {E : Env} {Ws : World} {v : Value} {c : C} (h0 : E.nx = 0) (h : R E Ws c v) : Known E.L Ws v c := fun _ _ hL hc => h.bare h0 hL hc

def itE (L : Nat → Nat) : Env := ⟨0, L, fun _ => none, 0, 0⟩
def ufd (facts : List (Value × C)) : Nat → Option GObj := fun n => (facts[n]?).map fun p => .fact p.1 p.2

/-- An iterator at work: what lay when it began; what is laid; the two invariants of who asks. -/
structure ItC (β : Type) where
 xs : List β
 encv : β → List Value
 L : Nat → Nat
 Ws : World
 l : Nat
 J : List { x // x ∈ xs } → World → Prop
 Jx : List { x // x ∈ xs } → World → Prop

section
variable {β : Type} (P : Program) (I : ItC β)
structure ItC.Ok : Prop where
 fr : ∀ b, I.Ws.heap.size ≤ b → I.L b = 0
 aJ : AbidesFrom I.Ws.heap.size I.J
 aJx : AbidesFrom I.Ws.heap.size I.Jx
 hY : ∀ (pre : List { x // x ∈ I.xs }) (x : { x // x ∈ I.xs }) (W : World), I.J pre W → pre.length < I.xs.length → YieldAt (fen none) 1 P I.l (I.encv x.1).toArray W fun e W' =>
  (e = .returned (.bool true) ∧ I.J (pre ++ [x]) W' ∧ KeepL (itE I.L) W W') ∨ (e = .returned (.bool false) ∧ I.Jx (pre ++ [x]) W')

/-- The state of an iterator: y.1: no more is asked for; y.2: what has come. -/
def IterS (st : St) (y : Bool × List β) (W : World) (a : Act) : Prop :=
 match y.1 with
 | false => st.df = 0 ∧ Sim (itE I.L) W st a ∧ KeepL (itE I.L) I.Ws W ∧ ∃ pre, pre.map Subtype.val = y.2 ∧ I.J pre W
 | true => st.df = 0 ∧ Sim (itE fun _ => 0) W st a ∧ ∃ pre, pre.map Subtype.val = y.2 ∧ I.Jx pre W
def IW (c : Code) (Q : Exit → St → Bool × List β → Prop) (st : St) (y : Bool × List β) : Prop :=
 ∀ W a, IterS I st y W a → cwp none P c (fun e a' W' => ∃ st' y', IterS I st' y' W' a' ∧ Q e st' y') a W
def ug6 (K : St → Bool × List β → Prop) (Q : Exit → St → Bool × List β → Prop) : Exit → St → Bool × List β → Prop
 | .normal, st, y => K st y
 | e, st, y => Q e st y
def ug7 (id : Nat) (Q : Exit → St → Bool × List β → Prop) : Exit → St → Bool × List β → Prop
 | .exit id', st, y => if id' = id then Q .normal st y else Q (.exit id') st y
 | e, st, y => Q e st y
def rb (ops : Array Oper) (K : St → Bool × List β → Prop) (rest : List Oper) (st : St) (y : Bool × List β) : Prop :=
 ∀ W a, IterS I st y W a → ∀ Q : Exit → Act → World → Prop, (∀ a' W' st' y', IterS I st' y' W' a' → K st' y' → Q .normal a' W') → wpListIn (fen none) 1 P ops Q rest a W
end

section
variable {β : Type} {P : Program} {I : ItC β} {Q : Exit → St → Bool × List β → Prop} {st : St} {y : Bool × List β}
theorem xj (h : Q .normal st y) : IW P I .skip Q st y := fun _ _ hs => wpIn_skip ⟨st, y, hs, h⟩
theorem uaf {id : Nat} (h : Q (.exit id) st y) : IW P I (.exit id) Q st y := fun _ _ hs => wpIn_exit ⟨st, y, hs, h⟩
theorem umx (h : Q .ret st y) : IW P I .ret Q st y := fun _ _ hs => wpIn_ret ⟨st, y, hs, h⟩
theorem k6 {x z : Code} (h : ∀ K : St → Bool × List β → Prop, (∀ st' y', IW P I z Q st' y' → K st' y') → IW P I x (ug6 K Q) st y) : IW P I (.seq x z) Q st y := by
 intro W a hs
 refine wpIn_seq (wpIn_mono (h _ (fun _ _ h => h) W a hs) ?_)
 rintro e a' W' ⟨st', y', h1, h2⟩
 cases e with
 | normal => exact h2 W' a' h1
 | _ => exact ⟨st', y', h1, h2⟩
theorem r9 {id : Nat} {c : Code} (h : IW P I c (ug7 id Q) st y) : IW P I (.block id c) Q st y := by
 intro W a hs
 refine wpIn_block (wpIn_mono (h W a hs) ?_)
 rintro e a' W' ⟨st', y', h1, h2⟩
 cases e with
 | exit id' =>
  simp only [ug7] at h2
  simp only [Exit.inBlock]
  split at h2
  ·rename_i e; rw [if_pos e]; exact ⟨st', y', h1, h2⟩
  ·rename_i e; rw [if_neg e]; exact ⟨st', y', h1, h2⟩
 | _ => exact ⟨st', y', h1, h2⟩
theorem IterS.simE {W : World} {a : Act} (h : IterS I st y W a) : ∃ L, Sim (itE L) W st a := by
 obtain ⟨b, zs⟩ := y
 cases b with
 | false => exact ⟨_, h.2.1⟩
 | true => exact ⟨_, h.2.1⟩
theorem ut {c : Operand} {x z : Code} {b : Bool} (hc : evC st c = .v (.bool b)) (ht : b = true → IW P I x Q st y) (hf : b = false → IW P I z Q st y) : IW P I (.cond c x z) Q st y := by
 intro W a hs
 obtain ⟨L, hsim⟩ := hs.simE
 have := (hc ▸ hsim.ev c).v_inv
 exact wpIn_cond_split this (fun e => ht e W a hs) (fun e => hf e W a hs)
theorem IterS.le {st' : St} {W : World} {a : Act} (h : IterS I st y W a) (hdf : st'.df = st.df) (hl : ∀ E, Sim E W st a → Sim E W st' a) : IterS I st' y W a := by
 obtain ⟨b, zs⟩ := y
 cases b with
 | false => exact ⟨hdf.trans h.1, hl _ h.2.1, h.2.2⟩
 | true => exact ⟨hdf.trans h.1, hl _ h.2.1, h.2.2⟩
theorem uad {c : Code} (k : Nat) (h : IW P I c Q { st with l := firsts st.l st.r 0 k, r := [] } y) : IW P I c Q st y := fun W a hs => h W a (hs.le rfl fun _ hs => hs.wipe k)
theorem unj {E : Env} {W : World} {st' : St} {u : List (Nat × C)} {a : Act} (hr : st.r = []) (hb : Back st u st.G st') (hG : st'.G = st.G) (hn : st'.nx = st.nx) (hs : Sim E W st' a) : Sim E W { st with r := u } a := by
 refine ⟨hb.n.2 ▸ hs.d, hs.sz.trans hb.n.1, fun i v hv => ?_, hG ▸ hn ▸ hs.g⟩
 have hcl : cy st.l u i = .any ∨ cy st.l u i = cy st'.l st'.r i := by
  by_cases hi : i < st.l.length
  ·rcases xq _ _ hb.fits i (Nat.zero_le _) (by omega) with h | h
   ·exact .inl h
   ·exact .inr h.symm
  ·rcases xn st.l u i with ⟨p, hp, he, he2⟩ | ⟨_, he⟩
   ·rcases hb.keys with hk | hk
    ·have := xf hk p hp; omega
    ·rcases xp hk p hp with h | h
     ·left; rw [he2, h]
     ·right; rw [he2, ← h, he]
   ·left; rw [he, List.getD_eq_getElem?_getD, List.getElem?_eq_none (by omega)]; rfl
 rcases hcl with h | h
 ·rw [h]; exact .any
 ·rw [h]; exact hs.t i v hv
theorem uae {X : Type} {c : Code} (Inv : X → Prop) (μ : X → Nat) (u : X → List (Nat × C)) (yy : X → Bool × List β) (x0 : X) (hr : st.r = []) (h0 : Inv x0) (e0 : qe st.l [] (u x0)) (hy : y = yy x0)
  (round : ∀ x, Inv x → IW P I c (ug6 (fun st' y' => ∃ x', μ x' < μ x ∧ Inv x' ∧ y' = yy x' ∧ st'.G = st.G ∧ st'.nx = st.nx ∧ Back st (u x') st.G st') Q) { st with r := u x } (yy x)) : IW P I (.loop c) Q st y := by
 intro W a hs
 refine uay (fun m a1 W1 => ∃ x, m = μ x ∧ Inv x ∧ IterS I { st with r := u x } (yy x) W1 a1) (μ x0) ⟨x0, rfl, h0, hy ▸ hs.le rfl fun E hs => ?_⟩ ?_
 ·have := le_r (n := st.n) (G := st.G) (nx := st.nx) (df := st.df) e0 rfl E W a (by rw [← hr]; exact hs)
  exact this
 ·rintro m a1 W1 ⟨x, rfl, hI, hs1⟩
  refine wpIn_mono (round x hI W1 a1 hs1) ?_
  rintro e a' W' ⟨st', y', h1, h2⟩
  cases e with
  | normal =>
   obtain ⟨x', h3, h4, rfl, h5, h6, h7⟩ := h2
   exact ⟨μ x', h3, x', rfl, h4, h1.le h7.n.2.symm fun E hs => unj hr h7 h5 h6 hs⟩
  | _ => exact ⟨st', y', h1, h2⟩

/-- The abstract state of a stretch of plain code. -/
def j6 (st : St) (facts : List (Value × C)) : St := { st with G := ufd facts, nx := facts.length }
def nh (L : Nat → Nat) (n : Nat) (W : World) : Env := ⟨W.heap.size, L, fun k => if k < n then some (0, 0, undef) else none, n, 0⟩
theorem ui8 {L : Nat → Nat} {W : World} {a : Act} {facts : List (Value × C)} (hs : Sim (itE L) W st a) (hf : ∀ p ∈ facts, ∀ E : Env, (∀ b, L b ≤ E.L b) → R E W p.2 p.1) : Sim (nh L facts.length W) W (j6 st facts) a := by
 have hT : ∀ n t b, (nh L facts.length W).T n = some t → blk t.2.2 = some b → False := fun n t b ht hb => by
  simp only [nh] at ht
  split at ht
  ·simp only [Option.some.injEq] at ht; subst ht; simp [blk, undef] at hb
  ·cases ht
 refine ⟨DefN.imp (E := itE L) (E' := nh L facts.length W) rfl (fun n t b ht hb => (hT n t b ht hb).elim) hs.d, hs.sz, fun i v hv => (hs.t i v hv).bare (E := itE L) (E' := nh L facts.length W) rfl (fun _ => Nat.le_refl _) (fun _ _ _ => rfl), ⟨rfl, fun n o ho => ?_, fun n t ht => ?_, fun n ver wv val b ht hb => (hT n _ b ht hb).elim, fun n m t t' b ht _ _ hb => (hT n t b ht hb).elim, fun b hb => hs.g.fresh b hb, Nat.le_refl _⟩⟩
 ·simp only [j6, ufd, Option.map_eq_some_iff] at ho
  obtain ⟨p, hp, rfl⟩ := ho
  refine ⟨?_, hf p (List.mem_of_getElem? hp) _ (fun _ => Nat.le_refl _)⟩
  simp only [nh]
  rw [if_pos (List.getElem?_eq_some_iff.1 hp).1]
 ·simp only [nh] at ht
  split at ht
  ·assumption
  ·cases ht
theorem ui9 {L : Nat → Nat} {W W' : World} {a' : Act} {n : Nat} {E' : Env} {st' : St} (hfr : ∀ b, W.heap.size ≤ b → L b = 0) (hev : Ev (nh L n W) W E' W') (hs : Sim E' W' st' a') : Sim (itE L) W' (jj st') a' ∧ KeepL (itE L) W W' ∧ W.grownBy W' none := by
 have hb := hev.below
 refine ⟨⟨DefN.imp (E := E') (E' := itE L) (hev.x.F).symm (fun n t b ht _ => (by cases ht)) hs.d, hs.sz, fun i v hv => ?_, ⟨rfl, fun n o ho => (by cases ho), fun n t ht => (by cases ht), fun n ver wv val b ht => (by cases ht), fun n m t t' b ht => (by cases ht), fun b h => hfr b (Nat.le_trans hb.size h), Nat.zero_le _⟩⟩, ⟨hb.size, fun b i hi => hev.cell b i hi⟩, ⟨hb.os, hb.tape, hb.output, hb.size, fun k hk _ => hb.block k hk⟩⟩
 simp only [jj]
 rw [uex]
 exact (hs.t i v hv).ex
theorem KeepL.trans {E : Env} {A B C : World} (h : KeepL E A B) (k : KeepL E B C) : KeepL E A C := ⟨Nat.le_trans h.1 k.1, fun b i hi => (k.2 b i hi).trans (h.2 b i hi)⟩

variable {zs : List β}
/-- A state behind plain code. -/
theorem IterS.back (ok : I.Ok P) {W W' : World} {a a' : Act} {facts : List (Value × C)} {E' : Env} {st' : St} (h : IterS I st (false, zs) W a) (hev : Ev (nh I.L facts.length W) W E' W') (hs : Sim E' W' st' a') (hdf : st'.df = 0) : IterS I (jj st') (false, zs) W' a' := by
 obtain ⟨_, _, hk, pre, h1, h2⟩ := h
 obtain ⟨q1, q2, q3⟩ := ui9 (fun b hb => ok.fr b (Nat.le_trans hk.1 hb)) hev hs
 exact ⟨hdf, q1, hk.trans q2, pre, h1, ok.aJ pre W W' none h2 q3 (fun r e => by cases e)⟩
theorem IterS.start {W : World} {a : Act} {facts : List (Value × C)} (h : IterS I st (false, zs) W a) (hf : ∀ p ∈ facts, Known I.L I.Ws p.1 p.2) : Sim (nh I.L facts.length W) W (j6 st facts) a :=
 ui8 h.2.1 fun p hp E hL => hf p hp E W hL h.2.2.1.2
/-- Plain code. -/
theorem nz (ok : I.Ok P) {c : Code} (facts : List (Value × C)) (hf : ∀ p ∈ facts, Known I.L I.Ws p.1 p.2) (h : AW none P c (fun e st' => st'.df = 0 ∧ Q e (jj st') (false, zs)) (j6 st facts)) : IW P I c Q st (false, zs) := by
 intro W a hs
 refine iv ?_ (h _ W a (hs.start hf))
 rintro e a' W' ⟨st', E', h1, h2, h3⟩
 exact ⟨_, _, hs.back ok h1 h2 h3.1, h3.2⟩
/-- Two pieces of it. -/
theorem umw (ok : I.Ok P) {x x2 z : Code} (facts : List (Value × C)) (hf : ∀ p ∈ facts, Known I.L I.Ws p.1 p.2)
  (h : AW none P x (mf (AW none P x2 (mf (fun st' => st'.df = 0 ∧ IW P I z Q (jj st') (false, zs)) fun _ _ => False)) fun _ _ => False) (j6 st facts)) : IW P I (.seq x (.seq x2 z)) Q st (false, zs) := by
 intro W a hs
 refine wpIn_seq (iv ?_ (h _ W a (hs.start hf)))
 rintro e a1 W1 ⟨st1, E1, h1, h2, h3⟩
 cases e with
 | normal =>
  refine wpIn_seq (iv ?_ (h3 E1 W1 a1 h2))
  rintro e a2 W2 ⟨st2, E2, q1, q2, q3⟩
  cases e with
  | normal => exact q3.2 W2 a2 (hs.back ok (h1.trans q1) q2 q3.1)
  | _ => exact q3.elim
 | _ => exact h3.elim
theorem umy {id : Nat} {l : List Oper} (h : rb P I l.toArray (Q .normal) l st y) : IW P I (.region id l.toArray false) Q st y := fun W a hs =>
 wpIn_region_lit (h W a hs _ fun a' W' st' y' h1 h2 => ⟨st', y', h1, h2⟩)
variable {ops : Array Oper} {K : St → Bool × List β → Prop} {rest : List Oper} {o : Oper}
theorem uer (h : K st y) : rb P I ops K [] st y := fun W a hs _ hq => wpListIn_nil (hq a W st y hs h)
theorem IterS.put {W : World} {a : Act} (h : IterS I st y W a) (d : Option Tmp) {c : C} {v : Value} (hr : ∀ E, Sim E W st a → R E W c v) : IterS I (st.put d c) y W (a.put d v) := by
 obtain ⟨b, zs⟩ := y
 cases b with
 | false => exact ⟨by cases d <;> exact h.1, h.2.1.put d (hr _ h.2.1), h.2.2⟩
 | true => exact ⟨by cases d <;> exact h.1, h.2.1.put d (hr _ h.2.1), h.2.2⟩
theorem pq {c : C} (hg : fe ops st o = some true) (hq : NStep P o st c) (h : rb P I ops K rest (st.put o.dst c) y) : rb P I ops K (o :: rest) st y := by
 intro W a hs Q hQ
 obtain ⟨L, hsim⟩ := hs.simE
 refine wpListIn_step fun Kr hK => ?_
 rw [if_pos (kf hg hsim)]
 obtain ⟨v, h1, h2⟩ := hq _ W a hsim
 refine ww (sd hg).2 ?_
 unfold Oper.wp
 rw [h2 W]
 refine hK _ _ (h W _ (hs.put o.dst fun E hE => ?_) Q hQ)
 obtain ⟨v', h3, h4⟩ := hq _ W a hE
 have := (h2 W).symm.trans (h4 W)
 simp only [Result.ok.injEq, Next.value.injEq, and_true] at this
 exact this ▸ h3
theorem ucn {n m l : Nat} {P : Program} {f : FuncId} {tmps : Array Value} {assign body : Code} {w : World} {R : Ending → World → Prop} (h : RoundIn (fen none) n P l f tmps assign body w R) : RoundIn (fen none) m P l f tmps assign body w R :=
 ⟨h.1, fun c cs _ => h.2 c cs (fun _ hd => by cases hd)⟩
/-- A call of yield. -/
theorem um2 (ok : I.Ok P) {fv : Operand} {args : List Operand} {ats : Array TypeId} {cs : List C} {x : β} (hx : x ∈ I.xs) (hg : fe ops st o = some true) (ho : o.op = .call { callee := .value fv, args := args.toArray, argTypes := ats }) (hf : evC st fv = .v (.func (.yield I.l) #[] #[])) (has : args.map (evC st) = cs)
  (hcs : ∀ E W vs, Rs E W cs vs → vs = I.encv x) (hlen : zs.length < I.xs.length)
  (h1 : rb P I ops K rest (st.put o.dst (.v (.bool true))) (false, zs ++ [x])) (h2 : rb P I ops K rest (jj (st.put o.dst (.v (.bool false)))) (true, zs ++ [x])) : rb P I ops K (o :: rest) st (false, zs) := by
 intro W a hs Q hQ
 have hs0 := hs
 obtain ⟨hdf, hsim, hk, pre, hp, hj⟩ := hs
 have hdef : a.defers = [] := List.eq_nil_of_length_eq_zero (hsim.d.2.trans hdf)
 refine wpListIn_step fun Kr hK => ?_
 rw [if_pos (kf hg hsim)]
 have hfv := (hf ▸ hsim.ev fv).v_inv
 subst has
 have hra : Rs (itE I.L) W (args.map (evC st)) (args.map a.eval) := by
  refine ⟨by simp, fun j c v h1 h2 => ?_⟩
  rw [List.getElem?_map] at h1 h2
  cases hx : args[j]? with
  | none => rw [hx] at h1; cases h1
  | some x =>
   rw [hx] at h1 h2
   simp only [Option.map_some, Option.some.injEq] at h1 h2
   subst h1; subst h2
   exact hsim.ev x
 have hargs := hcs _ _ _ hra
 obtain ⟨fn, tmps, assign, body, hy, hR⟩ := ok.hY pre ⟨x, hx⟩ W hj (by have hl := congrArg List.length hp; rw [List.length_map] at hl; dsimp only at hl; omega)
 refine ⟨fun _ _ => trivial, ?_⟩
 rw [Oper.semAt_eq _ _ _ (sd hg).2]
 have hrun : (execOp a.eval o).run P W = .ok (.round I.l fn tmps assign body) W := by
  rw [show (I.encv (⟨x, hx⟩ : { x // x ∈ I.xs }).1).toArray = (args.map a.eval).toArray by rw [hargs]] at hy
  simp only [execOp, ho, resolve, hfv]
  simp [Deferred.ofValue, invoke]
  simpa using hy
 rw [hrun]
 refine ⟨fun e => (by cases e), ucn (hR.mono ?_)⟩
 have hmap : (pre ++ [(⟨x, hx⟩ : { x // x ∈ I.xs })]).map Subtype.val = zs ++ [x] := by rw [List.map_append, hp]; rfl
 rintro e W' (⟨rfl, h3, h4⟩ | ⟨rfl, h3⟩)
 ·refine hK _ _ (h1 W' _ ?_ Q hQ)
  have hs' : Sim (itE I.L) W' st a := by
   refine ⟨⟨?_, hsim.d.2⟩, hsim.sz, fun i v hv => (hsim.t i v hv).bare rfl (fun _ => Nat.le_refl _) h4.2, ⟨hsim.g.nx, fun n o ho => ?_, hsim.g.lt, fun n ver wv val b ht => (by cases ht), hsim.g.ap, fun b hb => hsim.g.fresh b (Nat.le_trans h4.1 hb), Nat.zero_le _⟩⟩
   ·rw [hdef]; exact Nat.zero_le _
   ·have := hsim.g.obj n o ho
    cases o with
    | box => obtain ⟨_, _, _, e, _⟩ := this; cases e
    | arr => obtain ⟨_, _, e, _⟩ := this; cases e
    | tip => obtain ⟨_, _, e, _⟩ := this; cases e
    | fact => cases this.1
    | raw => obtain ⟨_, e, _⟩ := this; cases e
    | map => obtain ⟨_, _, _, e, _⟩ := this; cases e
  refine ⟨by cases o.dst <;> exact hdf, hs'.put _ (.v rfl), hk.trans h4, _, hmap, h3⟩
 ·refine hK _ _ (h2 W' _ ?_ Q hQ)
  have hput := hsim.put o.dst (c := .v (.bool false)) (v := .bool false) (.v rfl)
  refine ⟨by cases o.dst <;> exact hdf, ⟨⟨?_, ?_⟩, hput.sz, fun i v hv => ?_, ⟨rfl, fun n o ho => (by cases ho), fun n t ht => (by cases ht), fun n ver wv val b ht => (by cases ht), fun n m t t' b ht => (by cases ht), fun _ _ => rfl, Nat.zero_le _⟩⟩, _, hmap, h3⟩
  ·show DefOk _ W' (a.put o.dst (.bool false)).defers
   have : (a.put o.dst (.bool false)).defers = [] := by cases o.dst <;> exact hdef
   rw [this]; exact Nat.zero_le _
  ·exact hput.d.2
  ·simp only [jj]
   rw [uex]
   exact (hput.t i v hv).ex
end
end Go.AB
namespace Go.AB
open Go Go.RowKit

theorem vc {L : Nat → Nat} {Ws : World} : ∀ p ∈ ([] : List (Value × C)), Known L Ws p.1 p.2 := fun p hp => by cases hp
theorem py {L : Nat → Nat} {Ws : World} {v : Value} {c : C} {l : List (Value × C)} (h : Known L Ws v c) (k : ∀ p ∈ l, Known L Ws p.1 p.2) : ∀ p ∈ (v, c) :: l, Known L Ws p.1 p.2 := fun p hp => by
 rcases List.mem_cons.1 hp with rfl | hp
 ·exact h
 ·exact k p hp

/-- What an iterator's body must achieve. -/
def yf {β : Type} (xs : List β) : Exit → St → Bool × List β → Prop
 | .normal, _, y | .ret, _, y => (y.1 = false → y.2 = xs) ∧ (y.1 = true → y.2 <+: xs)
 | _, _, _ => False
theorem um6 {β : Type} {xs : List β} {st : St} {zs : List β} (h : zs = xs) : yf xs .normal st (false, zs) := ⟨fun _ => h, fun e => by cases e⟩
theorem um5 {β : Type} {xs : List β} {st : St} {zs : List β} (h : zs <+: xs) : yf xs .ret st (true, zs) := ⟨fun e => (by cases e), fun _ => h⟩

theorem um0 {β : Type} {P : Program} {gf : Nat} {fn : Func} {c : Code} {caps : List C} {xs : List β} {encv : β → List Value} {E : Env} {w : World} {lb : List Value} (hrs : Rs E w caps lb) (hfr : ∀ b, w.heap.size ≤ b → E.L b = 0) (hf : P.funcs[gf]? = some fn) (hb : fn.body = some c) (hr : fn.results = #[]) (hone : ∀ c ∈ caps, C.one c = true)
  (h : ∀ (W : World) (l : Nat) (J Jx : List { x // x ∈ xs } → World → Prop), Rs E W caps lb → (∀ b i, i < E.L b → W.cell? ⟨b, i, none⟩ = w.cell? ⟨b, i, none⟩) → ItC.Ok P ⟨xs, encv, E.L, W, l, J, Jx⟩ →
   IW P ⟨xs, encv, E.L, W, l, J, Jx⟩ c (yf xs) { n := lb.length + 1 + (fn.ntmps - (lb.length + 1)), l := .v (.func (.yield l) #[] #[]) :: lb.map .v, r := [], G := noG, nx := 0 } (false, [])) : ubj P gf E w lb xs encv := by
 intro l J Jx W hbel aJ aJx hY hJ
 have hcell : ∀ b i, i < E.L b → W.cell? ⟨b, i, none⟩ = w.cell? ⟨b, i, none⟩ := fun b i hi => by
  have hlt : b < w.heap.size := Nat.lt_of_not_le fun hle => by have := hfr b hle; omega
  exact World.cell?_of_block (w := w) (hbel.block b hlt)
 have hrs' : Rs E W caps lb := hrs.same (E := E) (E' := E) (fun _ => Nat.le_refl _) hcell rfl rfl
 have hsz := hbel.size
 have ok : ItC.Ok P ⟨xs, encv, E.L, W, l, J, Jx⟩ := ⟨fun b hb => hfr b (Nat.le_trans hsz hb), aJ, aJx, hY⟩
 have hargs : Rs (itE E.L) W (.v (.func (.yield l) #[] #[]) :: lb.map .v) (.func (.yield l) #[] #[] :: lb) := by
  refine ⟨by simp, fun j c v hc hv => ?_⟩
  cases j with
  | zero =>
   simp only [List.getElem?_cons_zero, Option.some.injEq] at hc hv
   subst hc; subst hv
   exact .v rfl
  | succ j =>
   simp only [List.getElem?_cons_succ] at hc hv
   rw [List.getElem?_map, hv] at hc
   simp only [Option.map_some, Option.some.injEq] at hc
   subst hc
   have hlt : j < caps.length := by rw [← hrs'.1]; exact (List.getElem?_eq_some_iff.1 hv).1
   have h1 := hrs'.2 j _ v (List.getElem?_eq_getElem hlt) hv
   have h2 := hone _ (List.getElem_mem hlt)
   refine .v ?_
   generalize caps[j] = cc at h1 h2
   cases h1 with
   | v h => exact h
   | list => rfl
   | elem => rfl
   | box => rfl
   | arr => rfl
   | own => rfl
   | fn => rfl
   | map => rfl
   | agg => cases h2
   | tup => cases h2
   | any => cases h2
 have hg : SimG (itE E.L) W noG 0 := ⟨rfl, fun n o ho => (by cases ho), fun n t ht => (by cases ht), fun n ver wv val b ht => (by cases ht), fun n m t t' b ht => (by cases ht), fun b hb => hfr b (Nat.le_trans hsz hb), Nat.zero_le _⟩
 have hsim := Sim.start hargs hg (Nat.zero_le _) fn.ntmps
 have e1 : (#[.func (.yield l) #[] #[]] ++ lb.toArray : Array Value) = (.func (.yield l) #[] #[] :: lb).toArray := by simp
 rw [e1]
 have hw := h W l J Jx hrs' hcell ok W _ ⟨rfl, by simpa using hsim, ⟨Nat.le_refl _, fun _ _ _ => rfl⟩, [], rfl, hJ⟩
 refine callsIn_of_wp_marks hf hb trivial (wpIn_mono (vg (m := 2) hw) ?_)
 rintro e a' w' ⟨st', ⟨b, zs⟩, hI, hQ⟩
 have fin : (b = false → zs = xs) ∧ (b = true → zs <+: xs) → bodyPostM (fen none) 2 P fn (fun e W' => (∃ v, e = .returned v) ∧ ((∃ zs, zs.map Subtype.val = xs ∧ J zs W') ∨ (∃ pre, pre.map Subtype.val <+: xs ∧ Jx pre W'))) .ret a' w' := by
  rintro ⟨q1, q2⟩
  show LeavesInM (fen none) 2 P fn a'.tmps _ a'.defers .returning w'
  cases b with
  | false =>
   obtain ⟨hdf, hs, hk, pre, hp, hj⟩ := hI
   have hd : a'.defers = [] := List.eq_nil_of_length_eq_zero (hs.d.2.trans hdf)
   rw [hd]
   exact ⟨_, results_none hr _ _ _, ⟨_, rfl⟩, .inl ⟨pre, hp.trans (q1 rfl), hj⟩⟩
  | true =>
   obtain ⟨hdf, hs, pre, hp, hj⟩ := hI
   have hd : a'.defers = [] := List.eq_nil_of_length_eq_zero (hs.d.2.trans hdf)
   rw [hd]
   exact ⟨_, results_none hr _ _ _, ⟨_, rfl⟩, .inr ⟨pre, by rw [hp]; exact q2 rfl, hj⟩⟩
 cases e with
 | normal => exact fin hQ
 | ret => exact fin hQ
 | _ => exact hQ.elim
theorem umz {β : Type} {P : Program} {gf : Nat} {fn : Func} {c : Code} {caps : List C} {xs : List β} {encv : β → List Value} (hf : P.funcs[gf]? = some fn) (hb : fn.body = some c) (hr : fn.results = #[]) (hone : ∀ c ∈ caps, C.one c = true)
  (h : ∀ (E : Env) (W : World) (lb : List Value) (l : Nat) (J Jx : List { x // x ∈ xs } → World → Prop), Rs E W caps lb → ItC.Ok P ⟨xs, encv, E.L, W, l, J, Jx⟩ →
   IW P ⟨xs, encv, E.L, W, l, J, Jx⟩ c (yf xs) { n := lb.length + 1 + (fn.ntmps - (lb.length + 1)), l := .v (.func (.yield l) #[] #[]) :: lb.map .v, r := [], G := noG, nx := 0 } (false, [])) : ubi P gf caps xs encv :=
 fun E _ lb hrs hfr => um0 hrs hfr hf hb hr hone fun W l J Jx h1 _ ok => h E W lb l J Jx h1 ok
end Go.AB
namespace Go.AB
open Go Go.RowKit
variable {ρ : Option Nat}

def l3 : List (Nat × Option Nat) → Array Bool → Array Bool
  | [], l => l
  | p :: r, l => l3 r (l.setIfInBounds p.1 true)
def mz (ops : Array Oper) (late N : Nat → Bool) : List (Nat × Option Nat) → Array Bool → Bool
  | [], _ => true
  | (_, some _) :: _, _ => false
  | (i, none) :: rest, listed =>
    ((Region.ready .any ops listed).contains i && Region.free .any ops listed i && (ops[i]?).isSome &&
       (N i || ((List.range ops.size).all fun j => !late j || j == i || ph .any ops ops.size j i))) &&
    mz ops late N rest (listed.setIfInBounds i true)

section
variable {P : Program} {ops : Array Oper} {Q : Exit → Act → World → Prop} {S : World → Prop} {late N : Nat → Bool}
theorem yi (fin : Act → World → Prop) (fuel : Nat) (hs : Region.noSelect ops = true) (hQ : ∀ (o : Option Tmp) (v : Value) c a w, Q (.panic c) (a.put o v) w → Q (.panic c) a w) :
    ∀ (π : List (Nat × Option Nat)) (listed : Array Bool) (a : Act) (w : World), Closed .any ops listed → mz ops late N π listed = true → S w →
      (∀ a, fin a w → i4 P .any ops Q S late fuel (l3 π listed) a w) → gx P ops (jm fin) S late (fun _ => false) N π a w → i4 P .any ops Q S late (gw π + fuel) listed a w := by
  intro π
  induction π with
  | nil =>
    intro listed a w _ _ _ hf h
    have := hf a h
    simpa [gw, l3] using this
  | cons p rest ih =>
    obtain ⟨i, m⟩ := p
    intro listed a w hcl hc hSw hf h
    cases m with
    | some j => simp [mz] at hc
    | none =>
      simp only [mz, Bool.and_eq_true] at hc
      obtain ⟨⟨⟨⟨hready, hfree⟩, hsome⟩, hlate⟩, hc2⟩ := hc
      simp only [gx, Bool.false_eq_true, if_false] at h
      cases ho : ops[i]? with
      | none => rw [ho] at hsome; cases hsome
      | some o =>
        rw [ho] at h
        obtain ⟨v, hy, hrest⟩ := h
        have hi : i ∈ Region.ready .any ops listed := by simpa using hready
        have hrec := ih _ _ _ (hcl.set hi) hc2 hSw hf hrest
        have hp : gw ((i, none) :: rest) + fuel = gw rest + fuel + 1 := by simp only [gw]; omega
        rw [hp]
        by_cases hN : N i = true
        · rw [if_pos hN] at hy
          exact s9 (depth := ops.size) (fun _ => True) ho (Region.noSelect_spec hs) (fun c a w => hQ o.dst v c a w) (.inl fun _ => trivial) (gw rest + fuel) listed a w hcl (Region.free_spec ho hfree) hi hy trivial hrec
        · rw [if_neg hN] at hy
          refine s9 (depth := ops.size) S ho (Region.noSelect_spec hs) (fun c a w => hQ o.dst v c a w) (.inr ⟨rfl, ?_⟩) (gw rest + fuel) listed a w hcl (Region.free_spec ho hfree) hi hy hSw hrec
          intro j oj hoj hlj hne
          have hlate' := (Bool.or_eq_true _ _ ▸ hlate).resolve_left hN
          rw [List.all_eq_true] at hlate'
          have := hlate' j (List.mem_range.2 (Array.getElem?_eq_some_iff.1 hoj).1)
          simp only [Bool.or_eq_true, Bool.not_eq_true', beq_iff_eq] at this
          rcases this with (h1 | h1) | h1
          · rw [hlj] at h1; cases h1
          · exact absurd h1 hne
          · exact h1
end

section
variable (P : Program) (ol : List Oper) (K : St → Prop) (late : Nat → Bool)
/-- What is left, in whatever order. -/
def m6 (fuel : Nat) (listed : List Bool) (st : St) : Prop :=
  ∀ (E0 : Env) (w0 : World) (Q : Act → World → Prop), (∀ a' w' st' E', Ev E0 w0 E' w' → Sim E' w' st' a' → K st' → Q a' w') →
    ∀ E1 w1 a, Ev E0 w0 E1 w1 → Sim E1 w1 st a → i4 P .any ol.toArray (jm Q) (Keeps E0 (· ∈ ([] : List Nat)) w0) late fuel listed.toArray a w1
/-- One operation, then the rest. -/
def re (fuel : Nat) (listed : List Bool) (i : Nat) (st : St) : Prop :=
  ∃ o, ol[i]? = some o ∧ ((fe ol.toArray st o = some true ∧ EStep P o st (m6 P ol K late fuel (listed.set i true))) ∨ (fe ol.toArray st o = some false ∧ m6 P ol K late fuel (listed.set i true) (st.put o.dst (.tup []))))
def vq (fuel : Nat) (listed : List Bool) (st : St) : List Nat → Prop
  | [] => True
  | i :: is => re P ol K late fuel listed i st ∧ vq fuel listed st is
end
section
variable {P : Program} {ol : List Oper} {K : St → Prop} {late : Nat → Bool} {fuel : Nat} {listed : List Bool} {st : St} {i : Nat} {is : List Nat} {o : Oper} {c : C}
theorem ed : vq P ol K late fuel listed st [] := trivial
theorem ef (h : re P ol K late fuel listed i st) (k : vq P ol K late fuel listed st is) : vq P ol K late fuel listed st (i :: is) := ⟨h, k⟩
theorem i7 (hol : ol[i]? = some o) (hg : fe ol.toArray st o = some true) {listed' : List Bool} (hl : listed.set i true = listed') (h : EStep P o st (m6 P ol K late fuel listed')) : re P ol K late fuel listed i st :=
  ⟨o, hol, .inl ⟨hg, by rw [hl]; exact h⟩⟩
theorem uo3 (hol : ol[i]? = some o) (hg : fe ol.toArray st o = some true) {listed' : List Bool} (hl : listed.set i true = listed') (hq : SStep P (fun _ => True) o st c) (h : m6 P ol K late fuel listed' (st.put o.dst c)) : re P ol K late fuel listed i st :=
  i7 hol hg hl (hq.e.mono fun _ e => e ▸ h)
theorem qy (hol : ol[i]? = some o) (hg : fe ol.toArray st o = some true) {listed' : List Bool} (hl : listed.set i true = listed') (hq : NStep P o st c) (h : m6 P ol K late fuel listed' (st.put o.dst c)) : re P ol K late fuel listed i st :=
  uo3 hol hg hl hq.s h
theorem gm (hol : ol[i]? = some o) (hg : fe ol.toArray st o = some false) {listed' : List Bool} (hl : listed.set i true = listed') (h : m6 P ol K late fuel listed' (st.put o.dst (.tup []))) : re P ol K late fuel listed i st :=
  ⟨o, hol, .inr ⟨hg, by rw [hl]; exact h⟩⟩
theorem i3 (hr : (Region.ready .any ol.toArray listed.toArray == []) = true) (h : K st) : m6 P ol K late fuel listed st := by
  intro E0 w0 Q hQ E1 w1 a hev hs
  have hr' : Region.ready .any ol.toArray listed.toArray = [] := by simpa using hr
  have hq := hQ a w1 st E1 hev hs h
  cases fuel with
  | zero => exact ⟨hr', hq⟩
  | succ n => exact ⟨fun _ => hq, fun i hi => by rw [hr'] at hi; cases hi⟩
theorem eg (is : List Nat) (hr : (Region.ready .any ol.toArray listed.toArray == is) = true) (hne : is ≠ []) (h : vq P ol K late fuel listed st is) : m6 P ol K late (fuel + 1) listed st := by
  intro E0 w0 Q hQ E1 w1 a hev hs
  have hr' : Region.ready .any ol.toArray listed.toArray = is := by simpa using hr
  refine ⟨fun e => absurd (hr'.symm.trans e) hne, fun i hi => ?_⟩
  rw [hr'] at hi
  have hi' : re P ol K late fuel listed i st := by
    clear hr hr' hne
    induction is with
    | nil => cases hi
    | cons j is ih =>
      rcases List.mem_cons.1 hi with rfl | hi
      · exact h.1
      · exact ih h.2 hi
  obtain ⟨o, hol, hcase⟩ := hi'
  have ho : ol.toArray[i]? = some o := by simpa using hol
  have hset : listed.toArray.setIfInBounds i true = (listed.set i true).toArray := by simp
  refine wpOp_step ho fun Kr hK => ?_
  rcases hcase with ⟨hg, h1⟩ | ⟨hg, h1⟩
  · rw [if_pos (kf hg hs)]
    refine h1 E1 w1 a hs Kr _ fun a' w' st' E' q1 q2 q3 => ?_
    refine hK a' w' ⟨.inr fun hS => ⟨fun b j hj => (q1.cell b j (Nat.lt_of_lt_of_le hj (hev.L b))).trans (hS.1 b j hj), fun n hn => by cases hn⟩, ?_⟩
    rw [hset]
    exact q3 E0 w0 Q hQ E' w' a' (hev.trans q1) q2
  · rw [if_neg (by rw [kf hg hs]; simp)]
    refine hK _ _ ⟨.inr id, ?_⟩
    rw [hset]
    exact h1 E0 w0 Q hQ E1 w1 _ hev (hs.put o.dst (R.undef E1 w1))
theorem sk {id : Nat} {l : List Oper} {Q : Exit → St → Prop} (π : List (Nat × Option Nat)) (late N : Nat → Bool) (fuel : Nat) (listed : List Bool) (hm : P.follows .mixedOrders = true)
    (hchk : (rr l && (Region.noSelect l.toArray && (mz l.toArray late N π (Array.replicate l.toArray.size false) && ((l3 π (Array.replicate l.toArray.size false)).toList == listed && gw π + fuel == l.toArray.size)))) = true)
    (h : jp P l.toArray (m6 P l (Q .normal) late fuel listed) [] late (fun _ => false) N π st) : AW ρ P (.region id l.toArray true) Q st := by
  intro E w a hs
  simp only [Bool.and_eq_true, beq_iff_eq] at hchk
  obtain ⟨h0, h1, h2, h3, h4⟩ := hchk
  have hev : Ev E w E w.drew := Ev.same ((Below.refl _ _).drew) rfl
  have hend : l3 π (Array.replicate l.toArray.size false) = listed.toArray := by rw [← h3]
  have key : i4 P .any l.toArray (jm fun a' w' => mo E w Q .normal a' w') (Keeps E (· ∈ ([] : List Nat)) w.drew) late (gw π + fuel) (Array.replicate l.toArray.size false) a w.drew := by
    refine yi (fun a' w' => i4 P .any l.toArray (jm fun a' w' => mo E w Q .normal a' w') (Keeps E (· ∈ ([] : List Nat)) w.drew) late fuel listed.toArray a' w') fuel h1 (fun _ _ _ _ _ h => h) π _ a w.drew ?_ h2 (Keeps.refl _ _ _) (fun a' h' => by rw [hend]; exact h') ?_
    · intro j o _ hj
      rw [Array.getD_eq_getD_getElem?, Array.getElem?_replicate] at hj
      split at hj <;> simp at hj
    · exact h E w.drew _ (fun a' w' st' E' q1 q2 q3 => q3 E w.drew _ (fun a2 w2 st2 E2 r1 r2 r3 => ⟨st2, E2, hev.trans r1, r2, r3⟩) E' w' a' q1 q2) a hs.drew
  rw [h4] at key
  refine iv (Q := jm fun a' w' => mo E w Q .normal a' w') ?_ (uaz hm h0 (vu _ _ _ _ key))
  intro e a' w' hq
  cases e with
  | normal => exact hq
  | _ => exact hq.elim
end
/-! ### Quiet operations between what acts -/
def ua2 (ops : Array Oper) (listed : Array Bool) : Bool :=
  (List.range ops.size).all fun j => !listed.getD j false || match ops[j]? with
    | some o => o.after.toList.all fun e => !Region.binds .any e || listed.getD e.on false
    | none => true
theorem uf2 {ops : Array Oper} {listed : Array Bool} (h : ua2 ops listed = true) : Closed .any ops listed := by
  intro j o ho hj e he hb
  have hlt := (Array.getElem?_eq_some_iff.1 ho).1
  have := List.all_eq_true.1 h j (List.mem_range.2 hlt)
  simp only [hj, Bool.not_true, Bool.false_or, ho, List.all_eq_true] at this
  have := this e (by simpa using he)
  simpa [hb] using this
section
variable {P : Program} {ops : Array Oper} {Q : Exit → Act → World → Prop}
theorem ubo {S S2 : World → Prop} (hS : ∀ w, S2 w → S w) : ∀ (fuel : Nat) (listed : Array Bool) (a : Act) (w : World), S2 w → i4 P .any ops Q S2 (fun _ => false) fuel listed a w → i4 P .any ops Q S (fun _ => false) fuel listed a w
  | 0, _, _, _, _, h => h
  | fuel + 1, listed, a, w, hw, h => by
    refine ⟨h.1, fun i hi => wpOp_mono (fun a' w' h' => ?_) (h.2 i hi)⟩
    have h2 := (h'.1.resolve_left (by simp)) hw
    exact ⟨.inr fun _ => hS _ h2, ubo hS fuel _ a' w' h2 h'.2⟩
end
theorem fb {P : Program} {ol : List Oper} {K : St → Prop} {total : Nat} {listed : List Bool} {st : St} (π : List (Nat × Option Nat)) (N : Nat → Bool) (fuel : Nat) (listed' : List Bool)
    (hchk : (ua2 ol.toArray listed.toArray && (Region.noSelect ol.toArray && (mz ol.toArray (fun _ => false) N π listed.toArray && ((l3 π listed.toArray).toList == listed' && total == gw π + fuel)))) = true)
    (h : jp P ol.toArray (m6 P ol K (fun _ => false) fuel listed') [] (fun _ => false) (fun _ => false) N π st) : m6 P ol K (fun _ => false) total listed st := by
  simp only [Bool.and_eq_true, beq_iff_eq] at hchk
  obtain ⟨h0, h1, h2, h3, h4⟩ := hchk
  subst h4
  intro E0 w0 Q hQ E1 w1 a hev hs
  have hend : l3 π listed.toArray = listed'.toArray := by rw [← h3]
  refine ubo (S2 := Keeps E1 (· ∈ ([] : List Nat)) w1) (fun w' hk => ⟨fun b i hi => (hk.1 b i (Nat.lt_of_lt_of_le hi (hev.L b))).trans (hev.cell b i hi), fun n hn => by cases hn⟩) _ _ _ _ (Keeps.refl _ _ _) ?_
  refine yi (fun a' w' => i4 P .any ol.toArray (jm Q) (Keeps E1 (· ∈ ([] : List Nat)) w1) (fun _ => false) fuel listed'.toArray a' w') fuel h1 (fun _ _ _ _ _ h => h) π _ a w1 (uf2 h0) h2 (Keeps.refl _ _ _) (fun a' h' => by rw [hend]; exact h') ?_
  exact h E1 w1 _ (fun a' w' st' E' q1 q2 q3 => q3 E1 w1 Q (fun a2 w2 st2 E2 r1 r2 r3 => hQ a2 w2 st2 E2 (hev.trans r1) r2 r3) E' w' a' q1 q2) a hs
end Go.AB
namespace Go.AB
open Go Go.RowKit
open Go.AB.Enc (cells)
variable {ρ : Option Nat}
theorem C.low.mono {m k : Nat} {c : C} (h : c.low m) (hk : m ≤ k) : c.low k := by
 induction h with
 | v => exact .v
 | list _ h2 ih => exact .list ih fun n hn => Nat.lt_of_lt_of_le (h2 n hn) hk
 | elem _ ih => exact .elem ih
 | box h => exact .box (Nat.lt_of_lt_of_le h hk)
 | arr h => exact .arr (Nat.lt_of_lt_of_le h hk)
 | own h => exact .own (Nat.lt_of_lt_of_le h hk)
 | fn _ ih => exact .fn ih
 | map h => exact .map (Nat.lt_of_lt_of_le h hk)
 | agg _ ih => exact .agg ih
 | tup _ ih => exact .tup ih
 | any => exact .any
theorem GObj.low_mono {m k : Nat} {o : GObj} (h : o.low m) (hk : m ≤ k) : o.low k := by
 cases o with
 | box => exact fun c hc => (h c hc).mono hk
 | arr => exact fun c hc => (h c hc).mono hk
 | tip => trivial
 | fact => exact C.low.mono h hk
 | raw => trivial
 | map => exact fun x c hx => (h x c hx).mono hk
theorem SimG.lowG {E : Env} {w : World} {G : Nat → Option GObj} {nx : Nat} (hg : SimG E w G nx) {n : Nat} {o : GObj} (ho : G n = some o) : n < nx ∧ o.low nx := by
 have hnx := hg.nx
 have hlt : ∀ t, E.T n = some t → n < nx := fun t ht => by have := hg.lt n t ht; omega
 have := hg.obj n o ho
 cases o with
 | box => obtain ⟨b, us, tt, h1, _, _, h4, _⟩ := this; exact ⟨hlt _ h1, hnx ▸ h4.low⟩
 | arr => obtain ⟨b, us, h1, _, _, h4, _⟩ := this; exact ⟨hlt _ h1, hnx ▸ h4.low⟩
 | tip => obtain ⟨b, us, h1, _⟩ := this; exact ⟨hlt _ h1, trivial⟩
 | fact => exact ⟨hlt _ this.1, hnx ▸ this.2.low⟩
 | raw => obtain ⟨b, h1, _⟩ := this; exact ⟨hlt _ h1, trivial⟩
 | map wv ok f =>
  obtain ⟨r, es, cl, h1, _, h3, _⟩ := this
  refine ⟨hlt _ h1, fun x c hx => ?_⟩
  obtain ⟨e, he, rfl⟩ := h3.has x c hx
  obtain ⟨c', h4, h5⟩ := h3.val e he
  rw [hx] at h4; cases h4
  exact hnx ▸ h5.low

/-- A contract whose result has new named objects, out of the body's walk. -/
theorem ix {P : Program} {f : FuncId} {fn : Func} {c : Code} {args : List C} {r : C} {G : Nat → Option GObj} {nx : Nat} (g : Nat → Option GObj) (m : Nat) (hf : P.funcs[f]? = some fn) (hb : fn.body = some c) (hl : r.low m) (hm : nx ≤ m) (hg : (∀ n o, G n = some o → n < nx) → ∀ n o, g n = some o → G n = some o ∨ (n < m ∧ o.low m))
  (h : AW none P c (pa P fn r g m) { n := args.length + (fn.ntmps - args.length), l := args, r := [], G := G, nx := nx }) : PC P f args G nx fun r' G' nx' => r' = r ∧ G' = g ∧ nx' = m := by
 intro E w vs hr hg0
 have key := uc1 (K := fun r' G' nx' => r' = r ∧ m ≤ nx' ∧ ∀ n o, g n = some o → G' n = some o) hf hb (AW.mono h fun e st hq => by
  cases e with
  | normal => exact ⟨r, hq.1, rfl, hq.2.1, hq.2.2⟩
  | ret => exact ⟨r, hq.1, rfl, hq.2.1, hq.2.2⟩
  | _ => exact hq)
 refine (key E w vs hr hg0).mono ?_
 rintro e w' ⟨r', v, E', G', nx', e1, e2, e3, e4, rfl, e5, e6⟩
 have hnx := hg0.nx
 refine ⟨r', v, E'.drop m, g, m, e1, e2.drop (by omega), e3.drop hl, ?_, rfl, rfl, rfl⟩
 refine (e4.weak e6).drop fun n o ho => ?_
 rcases hg (fun n o ho => (hg0.lowG ho).1) n o ho with h1 | h1
 ·have := hg0.lowG h1
  exact ⟨by omega, GObj.low_mono this.2 hm⟩
 ·exact h1
theorem ve {P : Program} {o : Oper} {st : St} {K : St → Prop} {f : FuncId} [Fun P f] {fv : Operand} {args : List Operand} {ats : Array TypeId} {caps as1 : List C} {r : C} {g : Nat → Option GObj} {m : Nat} (ho : o.op = .call { callee := .value fv, args := args.toArray, argTypes := ats }) (hf : evC st fv = .fn (.func f) caps) (has : args.map (evC st) ++ caps = as1)
  (hp : PC P f as1 st.G st.nx fun r' G' nx' => r' = r ∧ G' = g ∧ nx' = m) (h : K (St.put { st with G := g, nx := m } o.dst r)) : EStep P o st K :=
 uaw ho hf has (hp.mono fun r' G' nx' ⟨e1, e2, e3⟩ => by subst e1; subst e2; subst e3; exact h)

/-! ### Reading what is owned -/
/-- So many cells lie in a block. -/
def qu (w : World) (b : Nat) : Nat := match w.heap[b]? with
 | some (.cells us _ _) => us.size
 | _ => 0
theorem uf5 {w : World} {b j : Nat} {u : Value} (h : w.cell? ⟨b, j, none⟩ = some u) : j < qu w b := by
 unfold World.cell? at h
 unfold qu
 dsimp only at h ⊢
 split at h
 ·rename_i c tt fz e
  rw [e]
  simp only [Option.isSome_none, Bool.false_eq_true, if_false] at h
  exact (Array.getElem?_eq_some_iff.1 h).1
 ·cases h
/-- All that lies in a world is laid. -/
def j2 (w : World) : Env := ⟨w.heap.size, fun b => qu w b, fun _ => none, 0, 0⟩
theorem uph (w : World) : SimG (j2 w) w noG 0 := by
 refine ⟨rfl, fun n o ho => (by cases ho), fun n t ht => (by cases ht), fun n ver wv val b ht => (by cases ht), fun n m t t' b ht => (by cases ht), fun b hb => ?_, Nat.le_refl _⟩
 show qu w b = 0
 unfold qu
 rw [Array.getElem?_eq_none hb]
/-! ### Own slices are laid for good -/
theorem udb {E : Env} {w : World} {G : Nat → Option GObj} {nx : Nat} (hg : SimG E w G nx) {α : Type} [Enc α] {n ver wv len sz : Nat} {tt : TypeId} {cs : List C} (xs : List α) (hG : G n = some (.arr ver wv tt sz len cs)) (hsz : sz = Enc.n α) (hcs : cs = dx xs) (hlen : len = xs.length) :
  ∃ E', Ev E w E' w ∧ SimG E' w (ms G n) nx ∧ ∀ v, R E w (.own n ver len) v → R E' w (lst xs) v := by
 subst hsz; subst hcs; subst hlen
 obtain ⟨val, us, hT, how, hone, hrs, hL, hpos⟩ := hg.obj n _ hG
 have hE : Ev E w { E with L := fun k => if blk val = some k then us.length else E.L k } w := by
  refine ⟨Below.refl _ _, rfl, fun k => ?_, fun _ _ _ => rfl, Nat.le_refl _, fun n _ ver wv val h => ⟨ver, wv, val, h, Nat.le_refl _, fun _ => ⟨rfl, fun _ _ _ => rfl⟩⟩, fun n ver wv wv' v h h' _ => by rw [show ({ E with L := fun k => if blk val = some k then us.length else E.L k } : Env).T = E.T from rfl, h] at h'; simp at h'; omega, ?_⟩
  ·show E.L k ≤ if blk val = some k then us.length else E.L k
   split
   ·rename_i e; rw [hL k e]; exact Nat.zero_le _
   ·exact Nat.le_refl _
  ·refine ⟨rfl, fun k hk => ?_, fun _ _ h _ => h, fun _ o h => ⟨o, h, rfl⟩, fun _ t _ _ h k _ => ⟨t, h, k⟩, fun n t t' _ _ h1 h2 hv _ => by rw [show ({ E with L := fun k => if blk val = some k then us.length else E.L k } : Env).T = E.T from rfl, h1] at h2; cases h2; omega⟩
   have hk' : E.L k < if blk val = some k then us.length else E.L k := hk
   split at hk'
   ·rename_i e
    have h0 : 0 < us.length := by omega
    exact ⟨us[0], by rw [qm how e (by rw [← how.1]; exact h0), List.getElem?_eq_getElem h0]⟩
   ·omega
 refine ⟨_, hE, ⟨hg.nx, fun k o ho => ?_, hg.lt, hg.tb, hg.ap, fun k hk => ?_, hg.base⟩, fun v hr => ?_⟩
 ·have hkn : k ≠ n := fun e => by subst e; simp [ms] at ho
  rw [mb hkn] at ho
  refine (hg.obj k o ho).keep hE rfl fun ver wv v' b' h1 h2 => ⟨rfl, ?_⟩
  show (if blk val = some b' then us.length else E.L b') = E.L b'
  rw [if_neg (fun e => hg.ap k n _ _ b' h1 hT hkn h2 e)]
 ·show (if blk val = some k then us.length else E.L k) = 0
  rw [if_neg (fun e => by have := (hg.tb n _ _ _ k hT e).2; omega)]
  exact hg.fresh k hk
 ·obtain ⟨rfl, _, a, cap, rfl, hc1, hc2⟩ := wu hr hT how
  have := R.mk_list (E := { E with L := fun k => if blk (.slice a xs.length cap) = some k then us.length else E.L k }) (w := w) (rows := xs.map cells) (a := a) (cap := cap) (sz := Enc.n α) (us := us) (tok := .none) (by simpa using hc1) hc2 hpos (ml xs) (fun r hr c hc => by
   obtain ⟨x, _, rfl⟩ := List.mem_map.1 hr
   exact Enc.one x c hc) (hrs.ev hE) (by
   rcases how.2 with ⟨e, h1⟩ | ⟨g, cap', cur, e, _, hh, h1, h2, h3, h4⟩
   ·exact .inl (by rw [List.length_eq_zero_iff] at h1; rw [h1]; rfl)
   ·cases e
    refine .inr ⟨g, 0, rfl, ?_, fun j u hu => ?_⟩
    ·show 0 + us.length ≤ if some g = some g then us.length else E.L g
     rw [if_pos rfl]; omega
    ·rw [Nat.zero_add, qm how rfl (by rw [← how.1]; exact (List.getElem?_eq_some_iff.1 hu).1)]
     exact hu) (by simp) (by simp) (by simp)
  rw [List.length_map] at this
  exact this
/-- .. as a temporary holds it. -/
theorem ubd {P : Program} {Q : Exit → St → Prop} {st : St} {c : Code} {α : Type} [Enc α] (i : Nat) {n ver wv len sz : Nat} {tt : TypeId} {cs : List C} (xs : List α) (h0 : st.at i = .own n ver len) (hG : st.G n = some (.arr ver wv tt sz len cs)) (hsz : sz = Enc.n α) (hcs : cs = dx xs) (hlen : len = xs.length) (h : AW ρ P c Q { st with r := (i, lst xs) :: st.r, G := ms st.G n }) : AW ρ P c Q st := by
 intro E w a hs
 obtain ⟨E', hE, hg', hl⟩ := udb hs.g xs hG hsz hcs hlen
 have hp := hs.at i
 rw [h0] at hp
 have hs2 := hs.evd hE hg'
 refine iv (fun _ _ _ hq => nw hE hq) (h _ w a ⟨hs.d.ev hE, hs.sz, fun j v hj => ?_, hg'⟩)
 simp only [cy]
 cases hb : Nat.beq i j
 ·exact hs2.t j v hj
 ·have hij := Nat.eq_of_beq_eq_true hb
  subst hij
  have hv : a.tmps.getD i undef = v := by rw [Array.getD_eq_getD_getElem?, hj]; rfl
  exact hl v (hv ▸ hp)
/-- .. as a variable's cell holds it. -/
theorem ubc {P : Program} {Q : Exit → St → Prop} {st : St} {c : Code} {α : Type} [Enc α] (m off : Nat) {n ver wv wm len sz : Nat} {tt : TypeId} {cs ds : List C} (xs : List α) (hM : st.G m = some (.box wm ds)) (h0 : ds[off]? = some (.own n ver len)) (hG : st.G n = some (.arr ver wv tt sz len cs)) (hnm : m ≠ n) (hsz : sz = Enc.n α) (hcs : cs = dx xs) (hlen : len = xs.length) (h : AW ρ P c Q { st with G := ay (ms st.G n) m (.box wm (ds.set off (lst xs))) }) : AW ρ P c Q st := by
 intro E w a hs
 obtain ⟨E', hE, hg', hl⟩ := udb hs.g xs hG hsz hcs hlen
 obtain ⟨b, us, tt2, hT, hh, hone, hr, hL⟩ := hg'.obj m (.box wm ds) (by rw [mb hnm]; exact hM)
 obtain ⟨b2, us2, tt3, hT2, hh2, _, hr2, _⟩ := hs.g.obj m _ hM
 have hs2 := hs.evd hE hg'
 have hTT : E'.T m = E.T m := by
  obtain ⟨ver1, wv1, val1, q1, q2, q3⟩ := hE.T m (hs.g.lt m _ hT2) _ _ _ hT
  rw [hT2] at q1
  simp only [Option.some.injEq, Prod.mk.injEq] at q1
  obtain ⟨rfl, rfl, rfl⟩ := q1
  rw [hT, hT2, (q3 rfl).1]
 have e1 : us = us2 := by
  rw [hTT, hT2] at hT
  simp only [Option.some.injEq, Prod.mk.injEq, Value.pointer.injEq, Addr.mk.injEq, true_and, and_true] at hT
  subst hT
  rw [hh2] at hh
  simp only [Option.some.injEq, Obj.cells.injEq] at hh
  exact hh.1.symm
 subst e1
 refine iv (fun _ _ _ hq => nw hE hq) (h E' w a ⟨hs.d.ev hE, hs.sz, hs2.t, ⟨hg'.nx, fun k o ho => ?_, hg'.lt, hg'.tb, hg'.ap, hg'.fresh, hg'.base⟩⟩)
 simp only [ay] at ho
 split at ho
 ·rename_i ek
  subst ek
  simp only [Option.some.injEq] at ho
  subst ho
  refine ⟨b, us, tt2, hT, hh, fun d hd => ?_, ⟨by rw [hr.1]; simp, fun j d v hd hv => ?_⟩, hL⟩
  ·rcases List.mem_or_eq_of_mem_set hd with hd | rfl
   ·exact hone d hd
   ·rfl
  ·rw [List.getElem?_set] at hd
   split at hd
   ·rename_i ej
    subst ej
    split at hd
    ·simp only [Option.some.injEq] at hd
     subst hd
     exact hl v (hr2.2 off _ v h0 hv)
    ·cases hd
   ·exact hr.2 j d v hd hv
 ·exact hg'.obj k o ho

/-- The length of a slice that is known as it is. -/
theorem f9 {P : Program} {o : Oper} {st : St} {t : TypeId} {x : Operand} {a : Option Addr} {n cap : Nat} {e : TypeId} [Elt P t e] (ho : o.op = .call { callee := .builtin .len, args := #[x], argTypes := #[t] }) (hx : evC st x = .v (.slice a n cap)) (hn : n ≤ 9223372036854775807) : NStep P o st (.v (.int .i64 (n : Int))) := fun E w ac hs => by
 have e1 := (hx ▸ hs.ev x).v_inv
 generalize hv : ac.eval x = v at e1
 subst e1
 refine ⟨_, .v (jh ⟨by omega, by omega⟩), fun w' => ?_⟩
 have q1 := Elt.spec (P := P) (t := t) (e := e)
 simp [execOp, ho, hv, resolve, invoke, builtin, Builtin.len_, run_underlying q1, goInt]
section
variable {P : Program} {st : St}
theorem ufk {fn : Func} {r1 r2 r3 : ResultVar} {r s t c1 c2 c3 : C} {G : Nat → Option GObj} {nx : Nat} (hf : fn.results = #[r1, r2, r3]) (h1 : RV P st r1 c1) (h2 : RV P st r2 c2) (h3 : RV P st r3 c3) (hn : nx ≤ st.nx) (hG : ∀ n o, G n = some o → st.G n = some o) (e1 : Wk c1 r) (e2 : Wk c2 s) (e3 : Wk c3 t) : pa P fn (.tup [r, s, t]) G nx .ret st :=
 ⟨ujs hf (h1.wk e1) (h2.wk e2) (h3.wk e3), hn, hG⟩
end
end Go.AB
namespace Go.AB
open Go Go.RowKit
open Go.AB.Enc (cells)
variable {ρ : Option Nat}
def u8s (s : ByteArray) : List U8 := s.data.toList.map fun b => ⟨(b.toNat : Int)⟩
theorem tg (s : ByteArray) : (u8s s).length = s.size := by simp [u8s]
section
variable {P : Program} {o : Oper} {st : St} {K : St → Prop}
theorem unz {src dst e : TypeId} [StrT P src] [Elt P dst e] {x : Operand} {s : ByteArray} (he : P.underlying e = some (.int .u8)) (ho : o.op = .convert src dst x) (hx : evC st x = .v (.string s)) (h : K (st.put o.dst (lst (u8s s)))) : EStep P o st K := ld fun E w a hs => by
 have hr := hx ▸ hs.ev x
 have e1 := hr.v_inv
 rw [e1] at hr
 have hsz : s.size ≤ 9223372036854775807 := by
  cases hr with | v h => exact okV_str.1 h
 have hrun := run_bytes_of_string (P := P) w src dst e s StrT.spec Elt.spec he
 have hcap : s.size ≤ grownCap w s.size 0 e := grownCap_ge w _ _ _
 have hcm : grownCap w s.size 0 e ≤ maxLen := grownCap_le_maxLen w _ _ _ (by simpa [maxLen] using hsz)
 generalize hc : grownCap w s.size 0 e = cap at hrun hcap hcm
 obtain ⟨ob, hob⟩ : ∃ ob, ob = Obj.cells (bytesRow s cap) e ((bytesRow s cap).size, (bytesRow s cap).size + 1) := ⟨_, rfl⟩
 rw [← hob] at hrun
 have hcell : ∀ j, (w.drew.alloc ob).cell? ⟨w.heap.size, j, none⟩ = (bytesRow s cap)[j]? := fun j => by
  rw [hob]
  exact World.cell?_alloc_mark w.drew (bytesRow s cap) e _ j
 have hrow : ∀ (j : Nat) (x : U8), (u8s s)[j]? = some x → (bytesRow s cap)[j]? = some (.int .u8 x.v) ∧ okV (.int .u8 x.v) = true := fun j x hj => by
  have hl := (List.getElem?_eq_some_iff.1 hj).1
  rw [tg] at hl
  unfold u8s at hj
  rw [List.getElem?_map, Array.getElem?_toList, Array.getElem?_eq_getElem hl] at hj
  simp only [Option.map_some, Option.some.injEq] at hj
  subst hj
  refine ⟨?_, zq ⟨by simp, by have := (s.data[j] : UInt8).toNat_lt; simp only; omega⟩⟩
  unfold bytesRow
  rw [Array.getElem?_append_left (by simpa using hl), Array.getElem?_map, Array.getElem?_eq_getElem hl]
  rfl
 have hx0 : s.size = 0 ∨ ∃ v, (w.drew.alloc ob).cell? ⟨w.heap.size, 0, none⟩ = some v := by
  rcases Nat.eq_zero_or_pos s.size with h | h
  ·exact .inl h
  ·obtain ⟨x, hx⟩ : ∃ x, (u8s s)[0]? = some x := ⟨_, List.getElem?_eq_getElem (by rw [tg]; exact h)⟩
   exact .inr ⟨_, (hcell 0).trans (hrow 0 x hx).1⟩
 have hev := Ev.laid hs.g (o := ob) s.size (.inr rfl) hx0
 refine ⟨.slice (some ⟨w.heap.size, 0, none⟩) s.size cap, w.drew.alloc ob, _, st.G, st.nx, lst (u8s s), ?_, hev, ?_, SimG.laid hs.g _ (.inr rfl) hx0, h⟩
 ·simp [execOp, ho, e1, hrun]
 ·have := R.mk_list (E := E.lay w.heap.size s.size) (w := w.drew.alloc ob) (rows := (u8s s).map cells) (a := some ⟨w.heap.size, 0, none⟩) (cap := cap) (sz := 1) (us := (u8s s).map fun x => .int .u8 x.v) (tok := .none) (by rw [List.length_map, tg]; exact hcap) hcm (Nat.le_refl _) (fun r hr => by
   obtain ⟨x, _, rfl⟩ := List.mem_map.1 hr; rfl) (fun r hr c hc => by
   obtain ⟨x, _, rfl⟩ := List.mem_map.1 hr
   exact Enc.one x c hc) ⟨by
    have : ∀ l : List U8, ((l.map cells).flatten).length = l.length := fun l => by rw [mr (ml l)]; simp [Enc.n]
    rw [this]; simp, fun j c v hc hv => by
    rw [List.getElem?_map] at hv
    cases hj : (u8s s)[j]? with
    | none => rw [hj] at hv; cases hv
    | some x =>
     rw [hj] at hv
     simp only [Option.map_some, Option.some.injEq] at hv
     subst hv
     have h1 := u7 (rows := (u8s s).map cells) (s := 1) (k := j) (j := 0) (c := .v (.int .u8 x.v)) (ml (u8s s)) (bu hj) rfl
     rw [Nat.mul_one, Nat.add_zero] at h1
     rw [h1] at hc
     cases hc
     exact .v (hrow j x hj).2⟩ (.inr ⟨w.heap.size, 0, rfl, by
    simp only [Env.lay, if_true, List.length_map, tg]; omega, fun j u hu => by
    rw [List.getElem?_map] at hu
    cases hj : (u8s s)[j]? with
    | none => rw [hj] at hu; cases hu
    | some x =>
     rw [hj] at hu
     simp only [Option.map_some, Option.some.injEq] at hu
     subst hu
     rw [Nat.zero_add, hcell j]
     exact (hrow j x hj).1⟩) (by simp) (by simp) (by simp)
  rw [List.length_map, tg] at this
  exact this
end
instance : KeyV Int where
 kv x := .int .i64 x
 kc x := .v (.int .i64 x)
 inv h := h.v_inv
 inj h := by simpa using h
 any h _ _ := by cases h with | v h => exact .v h
theorem xh {E : Env} {w : World} {x : Int} {v : Value} (h : R E w (.v (.int .i64 x)) v) : -9223372036854775808 ≤ x ∧ x ≤ 9223372036854775807 := by
 cases h with | v h => exact udn h
theorem xc {x : Int} (h : -9223372036854775808 ≤ x ∧ x ≤ 9223372036854775807) : (Lit.int .i64 x).wf = true := by
 simp [Lit.wf, IntKind.min, IntKind.max, IntKind.signed, IntKind.bits]; omega
/-- What a map has for a key, or nothing. -/
theorem we {P : Program} {o : Oper} {st : St} {α : Type} [KeyV α] {D : Nat → Prop} {t k e : TypeId} [MapT P t k e] [KeyT P k α] {x i : Operand} {n wv : Nat} {m : α → Option C} {c : C} {z : Value} [Zero P e z] (key : α) (ho : o.op = .lookup t x i false) (hx : evC st x = .map n) (hG : st.G n = some (i1 P k wv m)) (hD : D n) (hi : evC st i = KeyV.kc key) (hm : (m key).getD (o6 z) = c) : SStep P D o st c := by
 subst hm
 exact ujc key ho hx hG hD hi rfl
theorem i0 {P : Program} {α : Type} [KeyV α] {k : TypeId} {wv n : Nat} {m : α → Option C} (h : ∀ x c, m x = some c → C.low n c) : (i1 P k wv m).low n := by
 intro x c hx
 by_cases hex : ∃ y : α, x = KeyV.kv y
 ·obtain ⟨y, rfl⟩ := hex
  rw [ji] at hx
  exact h y c hx
 ·rw [ui _ hex] at hx; cases hx
theorem xm {P : Program} {α : Type} [KeyV α] {k : TypeId} {wv n cl : Nat} {β : Value → Nat} {m : α → Option C} (h : ∀ x c, m x = some c → C.low n c) : (o5 P k wv m β cl).low n := by
 intro x c hx
 by_cases hex : ∃ y : α, x = KeyV.kv y
 ·obtain ⟨y, rfl⟩ := hex
  rw [ji] at hx
  exact h y c hx
 ·rw [ui _ hex] at hx; cases hx
end Go.AB
namespace Go.AB
open Go Go.RowKit
open Go.AB.Enc (cells)
theorem zG {p : Prop} (h : p := by (try dsimp only); repeat (first | exact ng _ _ _ | assumption | rw [i5 (by omega)] | rw [mb (by omega)])) : p := h
theorem zN {p : Prop} (h : p := by first | exact Nat.le_refl _ | omega | (simp; try omega)) : p := h
theorem zS {p : Prop} (h : p := by intro n o h; first | exact h | (have := hlt n o h; (try dsimp only); repeat (first | exact h | rw [i5 (by omega)] | rw [mb (by omega)]))) : p := h
theorem zX {p : Prop} (h : p := by (repeat' (refine uig (by (try dsimp only); repeat (first | exact ng _ _ _ | assumption | rw [i5 (by omega)] | rw [mb (by omega)])) ?_)); (intro n o h; first | exact h | (have := hlt n o h; (try dsimp only); repeat (first | exact h | rw [i5 (by omega)] | rw [mb (by omega)])))) : p := h
theorem zL {p : Prop} (h : p := by (try dsimp only); repeat' (first | exact trivial | refine ⟨?_, ?_⟩ | exact .v | exact .any | refine .elem ?_ | exact co _ _ | exact f8 _ _ | exact ey _ _ | exact ge _ (by (try dsimp only); omega) | exact .box (by (try dsimp only); omega) | exact fp | exact dj | refine gj ?_ ?_ | exact .arr (by (try dsimp only); omega) | exact .own (by (try dsimp only); omega) | exact .map (by (try dsimp only); omega) | exact ff _ | refine ct ?_ ?_ | exact co _ _)) : p := h
theorem zH {p : Prop} (h : p := by (repeat' (refine lu ?_ (by (try dsimp only); omega) ?_)); all_goals (first | exact ly (by intro n o h; first | exact h | (have := hlt n o h; (try dsimp only); repeat (first | exact h | rw [i5 (by omega)] | rw [mb (by omega)]))) | (repeat' (first | exact trivial | refine ⟨?_, ?_⟩ | exact .v | exact .any | refine .elem ?_ | exact co _ _ | exact f8 _ _ | exact ey _ _ | exact ge _ (by (try dsimp only); omega) | exact .box (by (try dsimp only); omega) | exact fp | exact dj | refine gj ?_ ?_ | exact .arr (by (try dsimp only); omega) | exact .own (by (try dsimp only); omega) | exact .map (by (try dsimp only); omega) | exact ff _ | refine ct ?_ ?_ | exact co _ _)))) : p := h
theorem zF {p : Prop} (h : p := by repeat' (first | exact trivial | refine ⟨?_, ?_⟩ | exact .inr rfl | exact .inl rfl | exact .inr (congrArg C.v (congrArg (Value.int _) (by simp; try omega))))) : p := h
theorem zB {p : Prop} (h : p := by first | exact .inl rfl | (refine .inr ?_; repeat' (first | exact trivial | refine ⟨?_, ?_⟩ | exact .inr rfl | exact .inl rfl | exact .inr (congrArg C.v (congrArg (Value.int _) (by simp; try omega)))))) : p := h
theorem zD {p : Prop} (h : p := by repeat (first | exact ucc | refine ucd (by (try dsimp only [St.put]); exact (by (try dsimp only); repeat (first | exact ng _ _ _ | assumption | rw [i5 (by omega)] | rw [mb (by omega)]))) (by (try dsimp only [St.put]); exact (by (try dsimp only); repeat (first | exact ng _ _ _ | assumption | rw [i5 (by omega)] | rw [mb (by omega)]))) rfl ?_)) : p := h
theorem zA {p : Prop} (h : p := by first | omega | (simp only [List.length_take, List.length_cons, List.length_nil, List.length_append, List.length_map]; omega) | (simp; omega)) : p := h
theorem zO {p : Prop} (h : p := by first | (simp; done) | (simp; omega) | exact Nat.lt_of_lt_of_eq (by decide) (Enc.len _).symm) : p := h
theorem zE {p : Prop} (h : p := by first | rfl | simp) : p := h
theorem zC {p : Prop} (h : p := by first | exact List.cons_ne_nil _ _ | (simp; done) | (simp [putAt]; done)) : p := h
def rl : List Nat → List Bool
  | [] => []
  | [a] => List.replicate a true
  | a :: b :: r => List.replicate a true ++ (List.replicate b false ++ rl r)
theorem zQ {p q : Prop} (h : q) (e : p = q := by (simp only [firsts, cy, Nat.reduceAdd, List.getD_cons_zero, List.getD_cons_succ, List.getD_nil, ulo, Nat.reduceBEq, cond_true, cond_false]) <;> rfl) : p := e ▸ h
theorem zR {p : Prop} (h : p := by first | (simp; done) | (intro r hr; simp only [List.mem_cons, List.not_mem_nil, or_false] at hr; first | (subst hr; rfl) | (rcases hr with hr | hr <;> (subst hr; rfl)) | (rcases hr with hr | hr | hr <;> (subst hr; rfl)) | (rcases hr with hr | hr | hr | hr <;> (subst hr; rfl)))) : p := h
theorem zW {p : Prop} (h : p := by repeat' (first | exact Wk.refl _ | exact Wk.tok | refine Wk.agg ?_ | refine ⟨?_, ?_⟩ | exact trivial)) : p := h
section
variable {ρ : Option Nat} {P : Program} {ops : Array Oper} {K : St → Prop} {rest : List Oper} {o : Oper} {st : St} {Q : Exit → St → Prop} {x : Operand} {c : C}
theorem yM (ho : o.op = .move x) (hg : fe ops st o = some true) (h : gn ρ P ops K rest (st.put o.dst c)) (hx : Is (evC st x) c := by constructor) : gn ρ P ops K (o :: rest) st := aa hg (ba ho hx) h
theorem yA (ho : o.op = .assign x) (hg : fe ops st o = some true) (h : gn ρ P ops K rest (st.put o.dst c)) (hx : Is (evC st x) c := by constructor) : gn ρ P ops K (o :: rest) st := aa hg (bf ho hx) h
theorem yL {t : TypeId} {cs : List C} [Ty P t false 1] (ho : o.op = .load t x) (hg : fe ops st o = some true) (hx : evC st x = .elem (c :: cs)) (h : gn ρ P ops K rest (st.put o.dst c)) : gn ρ P ops K (o :: rest) st := ae hg (bh ho hx) h
theorem yE {α : Type} [Enc α] {t : TypeId} {a : α} [Ty P t true (Enc.n α)] (ho : o.op = .load t x) (hg : fe ops st o = some true) (hx : evC st x = .elem (cells a)) (h : gn ρ P ops K rest (st.put o.dst (.agg (cells a)))) : gn ρ P ops K (o :: rest) st := ae hg (aq ho hx (Enc.len a)) h
theorem yX {i : Nat} {cs : List C} (ho : o.op = .extract x i) (hg : fe ops st o = some true) (hx : evC st x = .tup cs) (hc : cs[i]? = some c) (h : gn ρ P ops K rest (st.put o.dst c)) : gn ρ P ops K (o :: rest) st := aa hg (ou ho hx hc) h
theorem yF {t : TypeId} {f off : Nat} {ft : TypeId} [Fld P t f off ft] {cs : List C} {d : C} {ds : List C} (ho : o.op = .fieldAddr t x f) (hg : fe ops st o = some true) (hx : evC st x = .elem cs) (hd : cs.drop off = d :: ds) (h : gn ρ P ops K rest (st.put o.dst (.elem (d :: ds)))) : gn ρ P ops K (o :: rest) st := aa hg (br ho hx hd) h
theorem yB {e : TypeId} {cs : List C} (ho : o.op = .box e x) (hg : fe ops st o = some true) (hx : j0 (evC st x) = some cs) (h : gn ρ P ops K rest (st.put o.dst (.elem cs))) (hne : cs ≠ [] := by simp) : gn ρ P ops K (o :: rest) st := af hg (ip ho hx hne h)
theorem yK (hg : fe ops st o = some false) (h : gn ρ P ops K rest (st.put o.dst (.tup []))) : gn ρ P ops K (o :: rest) st := j1 hg h
theorem yN (h : K st) : gn ρ P ops K [] st := av h
theorem yR {id : Nat} {l : List Oper} (h : gn ρ P l.toArray (Q .normal) l st) : AW ρ P (.region id l.toArray false) Q st := aw h
theorem yS {x y : Code} (h : ∀ K : St → Prop, (∀ st', AW ρ P y Q st' → K st') → AW ρ P x (mf K Q) st) : AW ρ P (.seq x y) Q st := ar h
end
section
variable {P : Program} {ol : List Oper} {K : St → Prop} {D : List Nat} {late Ef N : Nat → Bool} {i : Nat} {π : List (Nat × Option Nat)} {o : Oper} {st : St} {c : C} {x : Operand}
theorem xM (ho : o.op = .move x) (hE : Ef i = false) (hN : N i = true) (hol : ol[i]? = some o) (hg : fe ol.toArray st o = some true) (h : jp P ol.toArray K D late Ef N π (st.put o.dst c)) (hx : Is (evC st x) c := by constructor) : jp P ol.toArray K D late Ef N ((i, none) :: π) st := ah hE hN hol hg (ba ho hx) h
end
end Go.AB
namespace Go.AB
open Go Go.RowKit
variable {p : Program}

def RGe {α : Type} (d : Nat) : Result α → Prop
 | .ok _ w => d ≤ w.drawn
 | .halt _ w => d ≤ w.drawn
theorem RGe.le {α : Type} {d e : Nat} {r : Result α} (h : RGe e r) (hde : d ≤ e) : RGe d r := by
 cases r <;> exact Nat.le_trans hde h

theorem ube {α : Type} : ∀ (x : Ask α) (w : World), w.drawn ≤ (w.ask x).2.drawn
 | .done _, _ => Nat.le_refl _
 | .ask what range k, w => by
  unfold World.ask
  dsimp only
  split
  ·exact ube (k 0) w
  ·exact Nat.le_trans (Nat.le_succ _) (ube (k _) { w with drawn := w.drawn + 1 })
theorem uif (w : World) (c : Sys) : w.drawn ≤ (w.sys c).2.drawn := by
 unfold World.sys
 have h := ube (Kernel.perform c w.os) w
 split
 ·exact Nat.le_refl _
 ·rename_i e
  rw [e] at h
  exact h
theorem uhy {w w' : World} {at_ k : Addr} {u : TypeId} {v : Value} {b : Bool} {l : List Addr} (h : w.viewStore p at_ u k v b = .ok (w', l)) : w'.drawn = w.drawn := by
 unfold World.viewStore at h
 simp only [bind, Except.bind, pure, Except.pure, throw, throwThe, MonadExceptOf.throw] at h
 repeat' (first | (cases h; done) | split at h)
 all_goals (first | (cases h; rfl) | (simp only [Except.ok.injEq, Prod.mk.injEq] at h; obtain ⟨rfl, _⟩ := h; rfl))
theorem unm {w w' : World} {a : Addr} {v : Value} {b : Bool} {l : List Addr} (h : w.farStore p a v b = .ok (w', l)) : w'.drawn = w.drawn := by
 unfold World.farStore at h
 split at h
 ·split at h
  ·rename_i e
   cases h
   exact uhy e
  ·cases h
 ·cases h
theorem unb (w : World) (a : Addr) (n : Nat) : (w.freeze a n).drawn = w.drawn := by
 unfold World.freeze
 split <;> rfl

theorem wh {α : Type} (s : Sem α) : ∀ w : World, RGe w.drawn (s.run p w) := by
 induction s with
 | pure a => exact fun w => Nat.le_refl _
 | load m a k ih =>
  intro w
  simp only [Sem.run]
  split
  ·exact ih _ w
  ·split
   ·exact ih _ w
   ·exact Nat.le_refl _
 | store m a v k ih =>
  intro w
  cases v
  all_goals simp only [Sem.run]
  all_goals (first | exact Nat.le_refl _ | skip)
  all_goals split
  all_goals split
  all_goals (first | exact Nat.le_refl _ | exact ih (w.setCell a _) | (rename_i e; exact (ih _).le (Nat.le_of_eq (unm e).symm)))
 | new o k ih => exact fun w => ih _ { w with heap := w.heap.push o }
 | shape r k ih => exact fun w => ih _ w
 | freeze a n k ih => exact fun w => (ih (w.freeze a n)).le (Nat.le_of_eq (unb w a n).symm)
 | frozen a k ih => exact fun w => ih _ w
 | getObj r k ih =>
  intro w
  simp only [Sem.run]
  split
  ·exact Nat.le_refl _
  ·exact ih _ w
  ·exact Nat.le_refl _
 | setObj r o k ih =>
  intro w
  simp only [Sem.run]
  split
  ·exact Nat.le_refl _
  ·exact ih { w with heap := w.heap.setIfInBounds r o }
  ·exact Nat.le_refl _
 | choose q k ih =>
  intro w
  simp only [Sem.run]
  split
  ·exact ih _ w
  ·exact (ih _ { w with drawn := w.drawn + 1 }).le (Nat.le_succ _)
 | sys c k ih => exact fun w => (ih _ (w.sys c).2).le (uif w c)
 | program k ih => exact fun w => ih p w
 | mark m k ih => exact fun w => ih w
 | halt h => exact fun w => Nat.le_refl _
theorem ujg {α : Type} (s : Sem α) : ∀ (w : World) (es : Array Event), (s.runT p w es).1 = s.run p w := by
 induction s with
 | pure a => exact fun w es => rfl
 | load m a k ih =>
  intro w es
  simp only [Sem.run, Sem.runT]
  split
  ·exact ih _ _ _
  ·split
   ·exact ih _ _ _
   ·rfl
 | store m a v k ih =>
  intro w es
  cases v
  all_goals simp only [Sem.run, Sem.runT]
  all_goals (first | done | skip)
  all_goals split
  all_goals split
  all_goals (first | rfl | exact ih _ _)
 | new o k ih => exact fun w es => ih _ _ _
 | shape r k ih => exact fun w es => ih _ _ _
 | freeze a n k ih => exact fun w es => ih _ _
 | frozen a k ih => exact fun w es => ih _ _ _
 | getObj r k ih =>
  intro w es
  simp only [Sem.run, Sem.runT]
  split
  ·rfl
  ·exact ih _ _ _
  ·rfl
 | setObj r o k ih =>
  intro w es
  simp only [Sem.run, Sem.runT]
  split
  ·rfl
  ·exact ih _ _
  ·rfl
 | choose q k ih =>
  intro w es
  simp only [Sem.run, Sem.runT]
  split
  ·exact ih _ _ _
  ·exact ih _ _ _
 | sys c k ih => exact fun w es => ih _ _ _
 | program k ih => exact fun w es => ih _ _ _
 | mark m k ih => exact fun w es => ih _ _
 | halt h => exact fun w es => rfl
theorem og {α : Type} (s : Sem α) (w : World) (es : Array Event) : RGe w.drawn (s.runT p w es).1 := by
 rw [ujg]; exact wh s w

theorem j7 {α : Type} {s : Sem α} {w w1 : World} {a : α} (h : s.run p w = .ok a w1) : w.drawn ≤ w1.drawn := by
 have := wh (p := p) s w
 rw [h] at this
 exact this
theorem uc {α : Type} {s : Sem α} {w w1 : World} {a : α} {es es' : Array Event} (h : s.runT p w es = (.ok a w1, es')) : w.drawn ≤ w1.drawn := by
 have := og (p := p) s w es
 rw [h] at this
 exact this
theorem zt {α : Type} {s : Sem α} {w w1 : World} {a : Halt} {es es' : Array Event} (h : s.runT p w es = (.halt a w1, es')) : w.drawn ≤ w1.drawn := by
 have := og (p := p) s w es
 rw [h] at this
 exact this

theorem w5 {α : Type} {s : Sem α} {w w1 : World} {a : α} {es : Array Event} (h : (s.runT p w es).1 = .ok a w1) : w.drawn ≤ w1.drawn := by
 have := og (p := p) s w es
 rw [h] at this
 exact this
theorem uli {α : Type} {s : Sem α} {w w1 : World} {a : Halt} {es : Array Event} (h : (s.runT p w es).1 = .halt a w1) : w.drawn ≤ w1.drawn := by
 have := og (p := p) s w es
 rw [h] at this
 exact this

def GGe (d : Nat) : GStep → Prop
 | .go _ w _ | .comm _ _ _ _ w _ | .spawn _ _ w _ | .count _ w _ | .timer _ _ w _ | .alone _ _ w _ | .newcoro _ _ _ w _ | .coroswitch _ _ _ w _ | .collect _ w _ | .watch _ w _ => d ≤ w.drawn
 | .ended _ _ _ => True
theorem su {d : Nat} {es : Array Event} {g : GStep} (h : GGe d g) : GGe d (GStep.after es g) := by cases g <;> exact h
theorem um1 {d : Nat} {c : Prop} [Decidable c] {a b : GStep} (ha : GGe d a) (hb : GGe d b) : GGe d (if c then a else b) := by split <;> assumption
theorem uns {β : Type} {d : Nat} {o : Option β} {a : GStep} {f : β → GStep} (ha : GGe d a) (hf : ∀ x, GGe d (f x)) : GGe d (o.elim a f) := by
 cases o
 ·exact ha
 ·exact hf _
theorem ufm {d : Nat} {fr : Frame} {m : String} {w : World} (h : d ≤ w.drawn) : GGe d (endThrow fr m w) := h
theorem ufn {d : Nat} {fr : Frame} {v : Value} {w : World} (h : d ≤ w.drawn) : GGe d (endPrinting p fr v w) := by
 unfold endPrinting
 dsimp only
 split
 ·exact h
 ·trivial
theorem ufo {fr : Frame} {cs : List Frame} {dy : Option Dying} {m : String} {w : World} {d : Nat} (h : d ≤ w.drawn) : GGe d (endFatal p fr cs dy m w) := by
 unfold endFatal
 dsimp only
 split
 ·rename_i e
  exact Nat.le_trans h (j7 e)
 ·trivial
 ·trivial
theorem unq {d : Nat} {fd : Nat} {text : ByteArray} {o : Outcome} {w : World} : GGe d (endWith w fd text o) := by
 unfold endWith
 dsimp only
 split
 ·split <;> trivial
 ·trivial
 ·trivial
theorem uhf {fr : Frame} {dy : Dying} {f : Fatal} {w : World} : GGe w.drawn (writeOn p fr dy f w) := by
 unfold writeOn
 dsimp only
 split
 ·trivial
 ·split
  ·rename_i e
   first | exact uc e | exact zt e
  ·rename_i e
   first | exact uc e | exact zt e
  ·trivial
  ·trivial
theorem un7 {fr : Frame} {dy : Dying} {w : World} : GGe w.drawn (die p fr dy w) := by
 unfold die
 dsimp only
 split
 ·exact uhf
 ·split
  ·split
   ·exact Nat.le_refl _
   ·exact unq
  ·split
   ·exact Nat.le_refl _
   ·split
    ·rename_i e
     exact j7 e
    ·trivial
   ·refine su ?_
    rename_i t recv name _
    have key := og (p := p) (invoke (.fn (.method name) #[]) #[.iface t recv]) w #[]
    split <;> first | trivial | (rename_i e; rw [e] at key; first | exact key | exact ufn key)
   ·trivial
theorem xy {main : Bool} {fr : Frame} {cs : List Frame} {dy : Option Dying} {v : Value} {w : World} {d : Nat} (h : d ≤ w.drawn) : GGe d (doReturn p main fr cs dy v w) := by
 unfold doReturn
 dsimp only
 repeat' (first | exact h | trivial | split)
theorem uop {fr : Frame} {cs : List Frame} {dy : Option Dying} {de : Deferred} {w : World} : GGe w.drawn (callDeferred p fr cs dy de w) := by
 unfold callDeferred
 dsimp only
 refine um1 trivial ?_
 ·refine su ?_
  have key := og (p := p) (invoke de.target de.args) w #[]
  generalize (invoke de.target de.args).runT p w #[] = r at key ⊢
  obtain ⟨r, es⟩ := r
  dsimp only at key ⊢
  split <;> first | exact key | trivial | exact ufo key | exact ufm key | (split <;> first | exact key | trivial)
theorem uhz {main : Bool} {fr : Frame} {cs : List Frame} {dy : Option Dying} {w : World} : GGe w.drawn (unwind p main fr cs dy w) := by
 unfold unwind
 split
 ·rename_i block _ ds _
  refine su ?_
  have key := og (p := p) (Instr.takeDeferred block) w #[]
  split <;> first | trivial | (rename_i e; rw [e] at key; exact key)
 ·exact uop
 ·split
  ·trivial
  ·split
   ·trivial
   ·split
    ·exact Nat.le_refl _
    ·split
     ·split
      ·exact Nat.le_refl _
      ·split
       ·rename_i e
        exact j7 e
       ·trivial
       ·trivial
     ·split
      ·exact ufn (Nat.le_refl _)
      ·trivial
  ·split
   ·exact xy (Nat.le_refl _)
   ·rename_i fn _
    refine su ?_
    have key := og (p := p) (results fn fr.tmps) w #[]
    split <;> first | trivial | (rename_i e; rw [e] at key; exact xy key)
theorem ufq {fr : Frame} {cs : List Frame} {dy : Option Dying} {g : Nat} {w : World} {d : Nat} (h : d ≤ w.drawn) : GGe d (early p fr cs dy g w) := by
 unfold early
 dsimp only
 repeat' (first | exact h | trivial | split)
 all_goals (have key := wh (p := p) (choose (.early g)) w; simp only [*] at key; exact Nat.le_trans h key)
end Go.AB
namespace Go.AB
open Go Go.RowKit
variable {p : Program}

theorem vn {listen : Bool} {fr : Frame} {cs : List Frame} {dy : Option Dying} {s : Sem Next} {w : World} {d : Nat} (hd : d ≤ w.drawn) : GGe d (stepG.apply p listen fr cs dy s w) := by
 unfold stepG.apply
 have key : RGe d (if listen then s.runT p w #[] else (s.run p w, #[])).1 := by
  split
  ·exact (og s w #[]).le hd
  ·exact (wh s w).le hd
 dsimp only
 generalize (if listen then s.runT p w #[] else (s.run p w, #[])) = r at key ⊢
 obtain ⟨r, es⟩ := r
 dsimp only at key ⊢
 refine su ?_
 split <;> first | exact key | trivial | exact ufo key | exact ufm key | exact ufq key | (repeat' (first | exact key | exact ufq key | trivial | split))
theorem ulb {listen : Bool} {fr : Frame} {cs : List Frame} {dy : Option Dying} {w : World} : GGe w.drawn (stepG.oper p listen fr cs dy w) := by
 unfold stepG.oper
 split
 ·trivial
 ·split <;> exact vn (Nat.le_refl _)
theorem uno {main listen : Bool} {fr : Frame} {cs : List Frame} {dy : Option Dying} {w : World} : GGe w.drawn (stepG.exec p main listen fr cs dy w) := by
 unfold stepG.exec
 dsimp only
 repeat' (first | exact Nat.le_refl _ | trivial | exact vn (Nat.le_refl _) | exact vn (w5 (by assumption)) | refine uns ?_ (fun _ => ?_) | refine su ?_ | exact ulb | split)
 all_goals (try subst_vars)
 all_goals (first | exact vn (w5 (by assumption)) | exact xy (w5 (by assumption)) | exact (w5 (by assumption) : w.drawn ≤ _) | exact (uli (by assumption) : w.drawn ≤ _) | exact vn (uc (by assumption)) | exact xy (uc (by assumption)) | exact (uc (by assumption) : w.drawn ≤ _) | exact (zt (by assumption) : w.drawn ≤ _) | exact (j7 (by assumption) : w.drawn ≤ _))
theorem uip {main listen : Bool} {g : Goroutine} {w : World} : GGe w.drawn (stepG p main g w listen) := by
 unfold stepG
 dsimp only
 split
 ·exact un7
 ·exact uno
 ·exact uhz

/-! ### The machine -/
def SGe (d : Nat) : Stepped → Prop
 | .next m => d ≤ m.world.drawn
 | .ended _ _ => True
theorem uab {gs : Array Goroutine} {rest : Rest} {w : World} {d : Nat} (h : d ≤ w.drawn) : SGe d (look p gs rest w) := by
 unfold look
 dsimp only
 split
 ·split
  ·trivial
  ·split
   ·trivial
   ·split
    ·rename_i e
     first
     | exact h
     | (have h2 := Nat.le_trans h (j7 e); exact h2)
    ·first | trivial | exact h | (rename_i e; exact Nat.le_trans h (j7 e))
    ·trivial
 ·trivial
theorem uhx {rest : Rest} {cases : Array CommCase} {w w1 : World} (h : waitingAt rest cases w = some w1) : w1.drawn = w.drawn := by
 unfold waitingAt at h
 split at h
 ·split at h
  ·cases h; rfl
  ·cases h
 ·cases h; rfl
theorem un8 {rest : Rest} {gs : Array Goroutine} {i : Nat} {g : Goroutine} {cases : Array CommCase} {blocking : Bool} {shape : CommShape} {w : World} {d : Nat} (h : d ≤ w.drawn) : SGe d (communicate p rest gs i g cases blocking shape w).1 := by
 unfold communicate
 dsimp only
 split
 ·trivial
 ·split
  ·split
   ·split
    ·rename_i e
     exact Nat.le_trans h (Nat.le_of_eq (uhx e).symm)
    ·trivial
   ·exact h
  ·split
   ·trivial
   ·rename_i e
    have h2 := Nat.le_trans h (j7 e)
    repeat' (first | exact h2 | trivial | split)
    all_goals (have h3 := Nat.le_trans h2 (j7 (p := p) (by assumption)); exact h3)
theorem un3 (w : World) (c : Nat) : (drain w c).2.drawn = w.drawn := by
 unfold drain
 split <;> rfl
theorem ucp (m : Machine) (k : Nat) (t : Timer) (x y : Nat) : (retime m k t x y).2.world.drawn = m.world.drawn := by
 unfold retime
 dsimp only
 split
 ·exact un3 _ _
 ·rfl
theorem uh6 {m m1 : Machine} {op : TimerOp} {v : Value} (h : timerOp m op = .ok (v, m1)) : m1.world.drawn = m.world.drawn := by
 have named : ∀ (m0 : Machine) (var : Addr) (f : Nat → Timer → Value × Machine) (D : Nat), (∀ k t, (f k t).2.world.drawn = D) → timerOp.named m0 var f = .ok (v, m1) → m1.world.drawn = D := by
  intro m0 var f D hf h
  unfold timerOp.named at h
  split at h
  ·simp only [Except.ok.injEq] at h
   have := congrArg (fun z => z.2.world.drawn) h
   rw [← this]
   exact hf _ _
  ·cases h
 unfold timerOp at h
 dsimp only at h
 split at h
 ·split at h
  ·cases h; rfl
  ·split at h
   ·split at h
    ·cases h
    ·cases h; rfl
   ·cases h
 ·exact named _ _ _ _ (fun k t => ucp _ _ _ _ _) h
 ·split at h
  ·rename_i e
   have h2 := named _ _ _ _ (fun k t => ucp _ _ _ _ _) h
   rw [h2]
   unfold timerOp.opened at e
   split at e
   ·split at e
    ·cases e; rfl
    ·cases e
   ·cases e; rfl
  ·cases h
 ·cases h; rfl
theorem ujf {m : Machine} {i : Nat} {listen : Bool} : SGe m.world.drawn (runT p m i listen).1 := by
 unfold runT
 have key := uip (p := p) (main := i == 0) (listen := listen) (g := (m.gs.swapAt! i { (default : Goroutine) with status := .finished }).1) (w := m.world)
 dsimp only
 revert key
 generalize stepG p (i == 0) (m.gs.swapAt! i { (default : Goroutine) with status := .finished }).1 m.world listen = s
 intro key
 cases s <;> (try exact key)
 all_goals dsimp only
 all_goals (first | exact key | trivial | exact un8 key | exact uab key | skip)
 all_goals (repeat' (first | exact key | trivial | split))
 all_goals (first | (rename_i e; exact Nat.le_trans key (Nat.le_of_eq (uh6 e).symm)) | (rename_i e; cases e; exact key))

def MGe (d : Nat) : Move → Prop
 | .goroutine m _ => d ≤ m.world.drawn
 | .machine s _ => SGe d s
theorem ui7 {m : Machine} {k d : Nat} (h : d ≤ m.world.drawn) : SGe d (serve p m k) := by
 unfold serve
 dsimp only
 repeat' (first | exact h | trivial | split)
theorem ubf {m : Machine} {d : Nat} (h : d ≤ m.world.drawn) : MGe d (askOn p m) := by
 unfold askOn
 dsimp only
 split
 ·trivial
 ·rename_i e0
  have h0 := Nat.le_trans h (j7 e0)
  split
  ·exact ui7 h0
  ·split
   ·split
    ·exact h0
    ·split
     ·exact h0
     ·split <;> trivial
   ·split
    ·split
     ·trivial
     ·rename_i e1
      have h1 := Nat.le_trans h0 (j7 e1)
      split
      ·exact h1
      ·split
       ·trivial
       ·rename_i e2
        have q := j7 e2
        exact Nat.le_trans h1 q
    ·split
     ·trivial
     all_goals (rename_i e1; have h1 := Nat.le_trans h0 (j7 e1))
     all_goals (first | exact h1 | skip)
     all_goals split
     all_goals (first | trivial | skip)
     all_goals (rename_i e2; have q2 := j7 e2; have h2 := Nat.le_trans h1 q2)
     all_goals split
     all_goals (first | exact h2 | skip)
     all_goals split
     all_goals (first | trivial | (rename_i e3; have q3 := j7 e3; exact Nat.le_trans h2 q3))
theorem ugt {m : Machine} {d : Nat} (h : d ≤ m.world.drawn) : MGe d (ask p m) := by
 unfold ask
 split
 ·split
  ·trivial
  ·rename_i e
   have h1 := Nat.le_trans h (j7 e)
   split
   ·rename_i e2
    have := uab (p := p) (gs := m.gs) (rest := m.rest) h1
    rw [e2] at this
    exact ubf this
   ·exact uab h1
  ·rename_i e
   exact ubf (Nat.le_trans h (j7 e))
 ·exact ubf h
theorem ulw {m : Machine} {d : Nat} (h : d ≤ m.world.drawn) : MGe d (move p m) := by
 unfold move
 split
 ·split
  ·exact h
  ·trivial
 ·split
  ·split
   ·exact h
   ·exact ugt h
  ·exact ugt h
theorem uin {m : Machine} {d : Nat} (h : d ≤ m.world.drawn) : SGe d (step p m) := by
 unfold step stepT
 have key := ulw (p := p) h
 generalize move p m = v at key ⊢
 cases v with
 | goroutine m1 i =>
  have k2 := ujf (p := p) (m := m1) (i := i) (listen := true)
  dsimp only
  generalize (runT p m1 i true).1 = s at k2 ⊢
  cases s with
  | next m2 => exact Nat.le_trans key k2
  | ended => trivial
 | machine s ops => exact key
theorem ucj {d : Nat} : ∀ (n : Nat) (m m1 : Machine), d ≤ m.world.drawn → runN p n m = .next m1 → d ≤ m1.world.drawn
 | 0, m, m1, h, e => by simp only [runN, Stepped.next.injEq] at e; exact e ▸ h
 | n + 1, m, m1, h, e => by
  have key := uin (p := p) h
  simp only [runN] at e
  split at e
  ·rename_i e2
   rw [e2] at key
   exact ucj n _ m1 key e
  ·rename_i h2
   exact (h2 _ e).elim
theorem uim {m m1 : Machine} (h : Steps p m m1) : m.world.drawn ≤ m1.world.drawn := by
 obtain ⟨n, hn⟩ := h
 exact ucj n m m1 (Nat.le_refl _) hn
/-- A call that comes back never takes back what was drawn. -/
theorem uon {P : Program} {f : FuncId} {args : Array Value} {w : World} {R : Ending → World → Prop} (hr : ∀ e w', R e w' → ∃ v, e = .returned v) (h : Calls P f args w R) : Calls P f args w fun e w' => R e w' ∧ w.drawn ≤ w'.drawn := by
 intro cs
 obtain ⟨e, w', fr, h1, h2, h3, h4⟩ := h cs
 refine ⟨e, w', fr, ⟨h1, ?_⟩, h2, h3, h4⟩
 obtain ⟨v, rfl⟩ := hr e w' h1
 exact uim (p := P) h2
end Go.AB
namespace Go.PB
structure bg where
 id : Int
 lines : List (List ByteArray)
 deriving DecidableEq
abbrev aj := List bg
structure PlaceD where
 ch : Int
 ln : Int
 wd : Int
 deriving DecidableEq
structure bn where
 pl : PlaceD
 kind : Int
 word : ByteArray
 deriving DecidableEq
structure bq where
 id : Int
 rs : List bn
 deriving DecidableEq
/-- How lines may go on: a kind of readings; how many words of each are used. -/
structure bp where
 kind : Int
 one : Nat
 two : Nat
 deriving DecidableEq
end Go.PB
namespace Go.AB
open Go Go.RowKit
open Go.AB.Enc (cells)
open Go.PB (bg aj PlaceD bn bq bp)


instance : Enc bg := ⟨fun x => [.v (.int .i64 x.id), lst x.lines], 2, fun _ => rfl, fun m x c h => by
 simp only [List.mem_cons, List.not_mem_nil, or_false] at h; rcases h with rfl | rfl; exact .v; exact co m _, fun x c h => by
 simp only [List.mem_cons, List.not_mem_nil, or_false] at h; rcases h with rfl | rfl <;> rfl⟩
instance : Enc PlaceD := ⟨fun x => [.v (.int .i64 x.ch), .v (.int .i64 x.ln), .v (.int .i64 x.wd)], 3, fun _ => rfl, fun m x c h => by
 simp only [List.mem_cons, List.not_mem_nil, or_false] at h; rcases h with rfl | rfl | rfl <;> exact .v, fun x c h => by
 simp only [List.mem_cons, List.not_mem_nil, or_false] at h; rcases h with rfl | rfl | rfl <;> rfl⟩
/-- A struct by value. -/
def val {α : Type} [Enc α] (x : α) : C := .agg (cells x)
abbrev gp (t : aj) : C := .agg [lst t]

def I64 (n : Int) : Prop := -9223372036854775808 ≤ n ∧ n ≤ 9223372036854775807
theorem ueu {n : Int} (h : (C.v (.int .i64 n)).fit) : I64 n := udn (fit_v.1 h)
/-- lengths and numbers of a text that is read out of memory -/
structure ug4 (t : aj) : Prop where
 len : t.length ≤ 9223372036854775807
 id : ∀ c ∈ t, I64 c.id
 lines : ∀ c ∈ t, c.lines.length ≤ 9223372036854775807
 words : ∀ c ∈ t, ∀ l ∈ c.lines, l.length ≤ 9223372036854775807
 size : ∀ c ∈ t, ∀ l ∈ c.lines, ∀ s ∈ l, s.size ≤ 9223372036854775807
theorem ubs {l : List ByteArray} (h : (lst l).fit) : l.length ≤ 9223372036854775807 ∧ ∀ s ∈ l, s.size ≤ 9223372036854775807 := by
 obtain ⟨h1, h2⟩ := fit_lst.1 h
 exact ⟨h1, fun s hs => okV_str.1 (fit_v.1 (h2 s hs _ (List.mem_cons_self ..)))⟩
theorem uh7 {t : aj} (h : (lst t).fit) : ug4 t := by
 obtain ⟨h1, h2⟩ := fit_lst.1 h
 have h3 : ∀ c ∈ t, (lst c.lines).fit := fun c hc => h2 c hc _ (List.mem_cons_of_mem _ (List.mem_cons_self ..))
 have h4 : ∀ c ∈ t, ∀ l ∈ c.lines, (lst l).fit := fun c hc l hl => (fit_lst.1 (h3 c hc)).2 l hl _ (List.mem_cons_self ..)
 exact ⟨h1, fun c hc => ueu (h2 c hc _ (List.mem_cons_self ..)), fun c hc => (fit_lst.1 (h3 c hc)).1, fun c hc l hl => (ubs (h4 c hc l hl)).1, fun c hc l hl => (ubs (h4 c hc l hl)).2⟩
theorem yp {t : aj} (h : (gp t).fit) : ug4 t := uh7 (fit_agg.1 h _ (List.mem_cons_self ..))
/-! ### Lists -/
theorem g5 {α : Type} {l : List α} {k : Nat} {x : α} (h : l[k]? = some x) : x ∈ l := List.mem_of_getElem? h
theorem g9 {α : Type} {l : List α} {k : Nat} (h : l.length ≤ k) : l.take k = l := List.take_of_length_le h
theorem qz {α : Type} {l : List α} {k : Nat} {x : α} {p : α → Bool} (hx : l[k]? = some x) : (l.take (k + 1)).all p = ((l.take k).all p && p x) := by
 rw [List.take_add_one, hx]; simp
theorem kj {α : Type} {l : List α} {k : Nat} {x : α} {p : α → Bool} (hx : l[k]? = some x) (hp : p x = false) : l.all p = false :=
 List.all_eq_false.2 ⟨x, List.mem_of_getElem? hx, by simp [hp]⟩
theorem x9 {α : Type} {l : List α} {k : Nat} {x : α} {p : α → Bool} (hx : l[k]? = some x) : (l.take (k + 1)).any p = ((l.take k).any p || p x) := by
 rw [List.take_add_one, hx]; simp
theorem sr {α : Type} {l : List α} {k : Nat} {x : α} {p : α → Bool} (hx : l[k]? = some x) (hp : p x = true) : l.any p = true :=
 List.any_eq_true.2 ⟨x, List.mem_of_getElem? hx, hp⟩
theorem ubw {α : Type} {a b : List α} {k : Nat} {x : α} (h : a.take k = b.take k) (ha : a[k]? = some x) (hb : b[k]? = some x) : a.take (k + 1) = b.take (k + 1) := by
 rw [List.take_add_one, List.take_add_one, h, ha, hb]
theorem udq {α : Type} {a b : List α} {k : Nat} {x y : α} (ha : a[k]? = some x) (hb : b[k]? = some y) (h : x ≠ y) : a ≠ b := fun e => by
 subst e; rw [ha] at hb; exact h (by simpa using hb)
theorem pn {α β : Type} {l : List α} {k : Nat} {x : α} {f : α → β} (hx : l[k]? = some x) : (l.take (k + 1)).map f = (l.take k).map f ++ [f x] := by
 rw [List.take_add_one, hx]; simp
theorem zv {α β : Type} {l : List α} {j k : Nat} {x y : α} {f : α → β} (hj : l[j]? = some x) (hk : l[k]? = some y) (hlt : j < k) (hf : f x = f y) : ¬ (l.map f).Nodup := by
 intro h
 rw [List.Nodup, List.pairwise_iff_getElem] at h
 have h1 : (l.map f)[j]? = some (f x) := by simp [hj]
 have h2 : (l.map f)[k]? = some (f y) := by simp [hk]
 obtain ⟨hj', e1⟩ := List.getElem?_eq_some_iff.1 h1
 obtain ⟨hk', e2⟩ := List.getElem?_eq_some_iff.1 h2
 exact h j k hj' hk' hlt (by rw [e1, e2, hf])
theorem zw {α : Type} {l : List α} {x : α} (h : l.Nodup) (hx : x ∉ l) : (l ++ [x]).Nodup := by
 rw [List.nodup_append]
 exact ⟨h, by simp, fun a ha b hb => by simp at hb; subst hb; exact fun e => hx (e ▸ ha)⟩
theorem ulk {α β : Type} [DecidableEq β] {l : List α} {k : Nat} {f : α → β} {b : β} (h : (l.take k).any (fun d => decide (f d = b)) = false) : b ∉ (l.take k).map f := by
 intro hm
 obtain ⟨d, hd, e⟩ := List.mem_map.1 hm
 rw [List.any_eq_false] at h
 exact h d hd (by simp [e])

theorem xb {α β : Type} {f : Nat → α → β} {l : List α} {k : Nat} {x : α} (h : l[k]? = some x) : (l.take (k + 1)).mapIdx f = (l.take k).mapIdx f ++ [f k x] := by
 have hlt := (List.getElem?_eq_some_iff.1 h).1
 rw [List.take_add_one, h, List.mapIdx_append]
 simp [List.length_take, Nat.min_eq_left (Nat.le_of_lt hlt)]
theorem z8 {α β : Type} (f : Nat → α → β) (l : List α) (k : Nat) : (l.take k).mapIdx f <+: l.mapIdx f := by
 refine ⟨(l.drop k).mapIdx fun i => f (i + (l.take k).length), ?_⟩
 rw [← List.mapIdx_append, List.take_append_drop]
theorem ue5 {α : Type} {a b : List (List α)} (h : a <+: b) : a.flatten <+: b.flatten := by
 obtain ⟨r, rfl⟩ := h
 exact ⟨r.flatten, by simp⟩
/-! ### What the functions compute -/
/-- from lo to hi -/
def inB (n lo hi : Int) : Bool := decide (lo ≤ n) && decide (n ≤ hi)
theorem inB_true {n lo hi : Int} : inB n lo hi = true ↔ lo ≤ n ∧ n ≤ hi := by simp [inB]
theorem uw {n lo hi : Int} : inB n lo hi = false ↔ ¬ (lo ≤ n ∧ n ≤ hi) := by rw [← Bool.not_eq_true, inB_true]
def okc (c : UInt8) : Bool := decide (97 ≤ c.toNat) && decide (c.toNat ≤ 122)
def ko (s : ByteArray) : Bool := inB s.size 1 12 && s.data.toList.all okc
def ke (l : List ByteArray) : Bool := inB l.length 1 10 && l.all ko
def jl (c : bg) : Bool := inB c.id 0 9999 && inB c.lines.length 1 10 && c.lines.all ke
def c7 (t : aj) : Bool := inB t.length 1 6 && t.all jl && decide (t.map (·.id)).Nodup
def qr (l : List ByteArray) : Bool := decide (15 < l.length) || l.any fun s => decide (40 < s.size)
def o4 (c : bg) : Bool := decide (15 < c.lines.length) || c.lines.any qr
def n2 (t : aj) : Bool := decide (10 < t.length) || t.any o4
end Go.AB
namespace Go.AB
open Go Go.RowKit
open Go.AB.Enc (cells)
open Go.PB (bg aj PlaceD bn bq bp)

section
variable {E : Env} {w : World}
theorem R.okV {c : C} {v : Value} (h : R E w c v) (h1 : c.one = true) : okV v = true := by
 cases h with
 | v h => exact h
 | list => rfl
 | elem => rfl
 | box => rfl
 | arr => rfl
 | own => rfl
 | fn => rfl
 | map => rfl
 | agg => cases h1
 | tup => cases h1
 | any => cases h1
theorem R.exact {c : C} {v : Value} (h : R E w c v) (h1 : c.one = true) : R E w (.v v) v := .v (h.okV h1)
theorem Rs.exact {cs : List C} {vs : List Value} (h : Rs E w cs vs) (h1 : ∀ c ∈ cs, c.one = true) : Rs E w (vs.map .v) vs := by
 refine ⟨by simp, fun j c v hc hv => ?_⟩
 rw [List.getElem?_map, hv] at hc
 simp only [Option.map_some, Option.some.injEq] at hc
 subst hc
 have hlt : j < cs.length := by rw [← h.1]; exact (List.getElem?_eq_some_iff.1 hv).1
 exact (h.2 j _ v (List.getElem?_eq_getElem hlt) hv).exact (h1 _ (List.getElem_mem hlt))
theorem R.elem_exact {cs : List C} {v : Value} (h : R E w (.elem cs) v) : ∃ vs : List Value, R E w (.elem (vs.map .v)) v ∧ Rs E w cs vs := by
 cases h with
 | @elem _ b off us h1 h2 h3 h4 =>
  have hrs : Rs E w cs ((List.range cs.length).map us) := ⟨by simp, fun j c v hc hv => by
   rw [List.getElem?_map] at hv
   have hlt := (List.getElem?_eq_some_iff.1 hc).1
   rw [List.getElem?_range hlt] at hv
   simp only [Option.map_some, Option.some.injEq] at hv
   subst hv
   exact h4 j c hc⟩
  refine ⟨(List.range cs.length).map us, .elem (us := us) (by simpa using h1) (fun c hc => ?_) (by simpa using h3) (fun j c hc => ?_), hrs⟩
  ·obtain ⟨x, _, rfl⟩ := List.mem_map.1 hc; rfl
  ·have hex := hrs.exact h2
   rw [List.getElem?_map, List.getElem?_map] at hc
   by_cases hlt : j < cs.length
   ·rw [List.getElem?_range hlt] at hc
    simp only [Option.map_some, Option.some.injEq] at hc
    subst hc
    exact (h4 j _ (List.getElem?_eq_getElem hlt)).exact (h2 _ (List.getElem_mem hlt))
   ·rw [List.getElem?_eq_none (by simp; omega)] at hc; cases hc

def mc {α : Type} (sz : Nat) : Nat → List α → List (List α)
 | 0, _ => []
 | n + 1, l => l.take sz :: mc sz n (l.drop sz)
theorem uf3 {α : Type} (sz : Nat) : ∀ (n : Nat) (l : List α), (mc sz n l).length = n
 | 0, _ => rfl
 | n + 1, l => by simp [mc, uf3 sz n]
theorem uf4 {α : Type} (sz : Nat) : ∀ (n : Nat) (l : List α), l.length = n * sz → (mc sz n l).flatten = l
 | 0, l, h => by simp at h; subst h; rfl
 | n + 1, l, h => by
  rw [mc, List.flatten_cons, uf4 sz n (l.drop sz) (by rw [List.length_drop, h, Nat.add_mul]; omega), List.take_append_drop]
theorem ua4 {α : Type} (sz : Nat) : ∀ (n k : Nat) (l : List α), k < n → (mc sz n l)[k]? = some ((l.drop (k * sz)).take sz)
 | 0, k, l, h => by omega
 | n + 1, 0, l, h => by simp [mc]
 | n + 1, k + 1, l, h => by
  rw [mc, List.getElem?_cons_succ, ua4 sz n k (l.drop sz) (by omega), List.drop_drop, Nat.add_mul]
  congr 3; omega
theorem R.list_exact {rows : List (List C)} {tok : Tok} {v : Value} (h : R E w (.list rows tok) v) : ∃ vr : List (List Value), R E w (.list (vr.map fun r => r.map .v) .none) v ∧ vr.length = rows.length ∧ rows.length ≤ maxLen ∧ ∀ (k : Nat) (row : List C), rows[k]? = some row → ∃ vs, vr[k]? = some vs ∧ Rs E w row vs := by
 obtain ⟨a, cap, sz, us, rfl, h1, h2, h3, h4, h5, h6, h7, _⟩ := R.list_inv h
 have hul : us.length = rows.length * sz := by rw [h6.1]; exact mr h4
 have hfl := uf4 sz rows.length us hul
 have hlen := uf3 sz rows.length us
 have hex : Rs E w (us.map .v) us := h6.exact fun c hc => by
  obtain ⟨r, hr, hcr⟩ := List.mem_flatten.1 hc
  exact h5 r hr c hcr
 have hrow : ∀ (k : Nat) (row : List C), rows[k]? = some row → Rs E w row ((us.drop (k * sz)).take sz) := fun k row hk => by
  have hlt := (List.getElem?_eq_some_iff.1 hk).1
  have hrl := h4 row (List.mem_of_getElem? hk)
  have hm : (k + 1) * sz ≤ rows.length * sz := Nat.mul_le_mul_right _ hlt
  rw [Nat.add_mul] at hm
  refine ⟨by rw [List.length_take, List.length_drop]; omega, fun j c x hc hx => ?_⟩
  have hj : j < sz := by rw [← hrl]; exact (List.getElem?_eq_some_iff.1 hc).1
  rw [List.getElem?_take, if_pos hj, List.getElem?_drop] at hx
  exact h6.2 _ c x (u7 h4 hk hc) hx
 have hfm : ((mc sz rows.length us).map fun r => r.map C.v).flatten = us.map .v := by
  conv => rhs; rw [← hfl]
  rw [List.map_flatten]
 refine ⟨mc sz rows.length us, ?_, hlen, Nat.le_trans h1 h2, fun k row hk => ⟨_, ua4 sz _ k us (List.getElem?_eq_some_iff.1 hk).1, hrow k row hk⟩⟩
 have := R.mk_list (E := E) (w := w) (rows := (mc sz rows.length us).map fun r => r.map C.v) (a := a) (cap := cap) (sz := sz) (us := us) (tok := .none) (by simpa [hlen] using h1) h2 h3 (fun r hr => by
   obtain ⟨x, hx, rfl⟩ := List.mem_map.1 hr
   obtain ⟨k, hk⟩ := List.getElem?_of_mem hx
   have hlt := (List.getElem?_eq_some_iff.1 hk).1
   rw [hlen] at hlt
   rw [ua4 sz _ k us hlt] at hk
   simp only [Option.some.injEq] at hk
   subst hk
   have hm : (k + 1) * sz ≤ rows.length * sz := Nat.mul_le_mul_right _ hlt
   rw [Nat.add_mul] at hm
   rw [List.length_map, List.length_take, List.length_drop]; omega) (fun r hr c hc => by
   obtain ⟨x, _, rfl⟩ := List.mem_map.1 hr
   obtain ⟨y, _, rfl⟩ := List.mem_map.1 hc
   rfl) (by rw [hfm]; exact hex) (by
   rcases h7 with rfl | ⟨b, off, e, k1, k2⟩
   ·exact .inl (by simp [mc])
   ·exact .inr ⟨b, off, e, k1, k2⟩) (by simp) (by simp) (by simp)
 simpa [hlen] using this
end

/-- A text, value by value. -/
structure ug3 (L : Nat → Nat) (Ws : World) (t : aj) (V : Value) (lv : Nat → Value) (wv : Nat → Nat → Value) : Prop where
 top : Known L Ws V (.list (t.mapIdx fun k c => [.v (.int .i64 c.id), .v (lv k)]) .none)
 len : t.length ≤ 9223372036854775807
 lines : ∀ (k : Nat) (c : bg), t[k]? = some c → Known L Ws (lv k) (.list (c.lines.mapIdx fun n _ => [.v (wv k n)]) .none) ∧ c.lines.length ≤ 9223372036854775807
 words : ∀ (k : Nat) (c : bg) (n : Nat) (l : List ByteArray), t[k]? = some c → c.lines[n]? = some l → Known L Ws (wv k n) (lst l) ∧ l.length ≤ 9223372036854775807
theorem uh8 {E : Env} {W : World} {t : aj} {V : Value} (h0 : E.nx = 0) (h : R E W (lst t) V) : ∃ lv wv, ug3 E.L W t V lv wv := by
 obtain ⟨vr, h1, h2, h3, h4⟩ := R.list_exact h
 rw [List.length_map] at h2 h3
 have hmax : maxLen = 9223372036854775807 := rfl
 have hrow : ∀ (k : Nat) (c : bg), t[k]? = some c → ∃ v, vr[k]? = some [.int .i64 c.id, v] ∧ R E W (lst c.lines) v := fun k c hk => by
  obtain ⟨vs, q1, q2⟩ := h4 k (cells c) (bu hk)
  match vs, q2 with
  | [a, v], q2 =>
   have e1 := (q2.2 0 _ _ rfl rfl).v_inv
   subst e1
   exact ⟨v, q1, q2.2 1 (lst c.lines) _ rfl rfl⟩
  | [], q2 => exact absurd q2.1 (by simp [cells])
  | [_], q2 => exact absurd q2.1 (by simp [cells])
  | _ :: _ :: _ :: _, q2 => exact absurd q2.1 (by simp [cells])
 have hlv : ∀ k : Nat, ∃ v, ∀ c : bg, t[k]? = some c → vr[k]? = some [.int .i64 c.id, v] ∧ R E W (lst c.lines) v := fun k => by
  cases hk : t[k]? with
  | none => exact ⟨undef, fun c hc => by cases hc⟩
  | some c =>
   obtain ⟨v, q1, q2⟩ := hrow k c hk
   exact ⟨v, fun c' hc => by cases hc; exact ⟨q1, q2⟩⟩
 obtain ⟨lv, hlv⟩ := Classical.axiomOfChoice hlv
 have hwv : ∀ k : Nat, ∃ f : Nat → Value, ∀ c : bg, t[k]? = some c → R E W (.list (c.lines.mapIdx fun n _ => [.v (f n)]) .none) (lv k) ∧ c.lines.length ≤ maxLen ∧ ∀ (n : Nat) (l : List ByteArray), c.lines[n]? = some l → R E W (lst l) (f n) := fun k => by
  cases hk : t[k]? with
  | none => exact ⟨fun _ => undef, fun c hc => by cases hc⟩
  | some c =>
   obtain ⟨_, hl⟩ := hlv k c hk
   obtain ⟨wr, r1, r2, r3, r4⟩ := R.list_exact hl
   rw [List.length_map] at r2 r3
   have hw : ∀ n : Nat, ∃ v, ∀ l : List ByteArray, c.lines[n]? = some l → wr[n]? = some [v] ∧ R E W (lst l) v := fun n => by
    cases hn : c.lines[n]? with
    | none => exact ⟨undef, fun l hl => by cases hl⟩
    | some l =>
     obtain ⟨vs, q1, q2⟩ := r4 n (cells l) (bu hn)
     match vs, q2 with
     | [v], q2 => exact ⟨v, fun l' hl' => by cases hl'; exact ⟨q1, q2.2 0 (lst l) _ rfl rfl⟩⟩
     | [], q2 => exact absurd q2.1 (by simp [cells])
     | _ :: _ :: _, q2 => exact absurd q2.1 (by simp [cells])
   obtain ⟨f, hf⟩ := Classical.axiomOfChoice hw
   refine ⟨f, fun c' hc => ?_⟩
   cases hc
   refine ⟨?_, r3, fun n l hn => (hf n l hn).2⟩
   have : (wr.map fun r => r.map C.v) = c.lines.mapIdx fun n _ => [C.v (f n)] := by
    apply List.ext_getElem?
    intro n
    rw [List.getElem?_map, List.getElem?_mapIdx]
    cases hn : c.lines[n]? with
    | none =>
     have : wr[n]? = none := by rw [List.getElem?_eq_none_iff] at hn ⊢; omega
     rw [this]; rfl
    | some l => rw [(hf n l hn).1]; rfl
   rw [← this]; exact r1
 obtain ⟨wv, hwv⟩ := Classical.axiomOfChoice hwv
 refine ⟨lv, wv, Known.of h0 ?_, by rw [← hmax]; exact h3, fun k c hk => ⟨Known.of h0 (hwv k c hk).1, by rw [← hmax]; exact (hwv k c hk).2.1⟩, fun k c n l hk hn => ?_⟩
 ·have : (vr.map fun r => r.map C.v) = t.mapIdx fun k c => [C.v (.int .i64 c.id), C.v (lv k)] := by
   apply List.ext_getElem?
   intro k
   rw [List.getElem?_map, List.getElem?_mapIdx]
   cases hk : t[k]? with
   | none =>
    have : vr[k]? = none := by rw [List.getElem?_eq_none_iff] at hk ⊢; omega
    rw [this]; rfl
   | some c => rw [(hlv k c hk).1]; rfl
  rw [← this]; exact h1
 ·have := (hwv k c hk).2.2 n l hn
  refine ⟨Known.of h0 this, ?_⟩
  obtain ⟨a, cap, _, _, _, q1, q2, _⟩ := R.list_inv this
  rw [List.length_map] at q1
  rw [← hmax]; omega

/-! ### All places, with their words -/
abbrev PW := PlaceD × ByteArray
def jd (k n : Nat) (l : List ByteArray) : List PW := l.mapIdx fun w s => (⟨k, n, w⟩, s)
def j9 (k : Nat) (ls : List (List ByteArray)) : List PW := (ls.mapIdx fun n l => jd k n l).flatten
def fl (t : aj) : List PW := (t.mapIdx fun k c => j9 k c.lines).flatten
def encP (x : PW) : List Value := [.agg #[.int .i64 x.1.ch, .int .i64 x.1.ln, .int .i64 x.1.wd], .string x.2]
def clP (x : PW) : List C := [.agg [.v (.int .i64 x.1.ch), .v (.int .i64 x.1.ln), .v (.int .i64 x.1.wd)], .v (.string x.2)]
theorem unr {E : Env} {W : World} {k n w : Int} {s : ByteArray} {vs : List Value} (h : Rs E W [.agg [.v (.int .i64 k), .v (.int .i64 n), .v (.int .i64 w)], .v (.string s)] vs) : vs = encP (⟨k, n, w⟩, s) := by
 match vs, h with
 | [a, b], h =>
  have e2 := (h.2 1 _ _ rfl rfl).v_inv
  obtain ⟨us, e1, hu, _⟩ := (h.2 0 _ _ rfl rfl).agg_inv
  match us, hu with
  | [x, y, z], hu =>
   have q1 := (hu.2 0 _ _ rfl rfl).v_inv
   have q2 := (hu.2 1 _ _ rfl rfl).v_inv
   have q3 := (hu.2 2 _ _ rfl rfl).v_inv
   subst q1; subst q2; subst q3; subst e1; subst e2; rfl
  | [], hu => exact absurd hu.1 (by simp)
  | [_], hu => exact absurd hu.1 (by simp)
  | [_, _], hu => exact absurd hu.1 (by simp)
  | _ :: _ :: _ :: _ :: _, hu => exact absurd hu.1 (by simp)
 | [], h => exact absurd h.1 (by simp)
 | [_], h => exact absurd h.1 (by simp)
 | _ :: _ :: _ :: _, h => exact absurd h.1 (by simp)
theorem uec (k n : Nat) {l : List ByteArray} {w : Nat} {s : ByteArray} (h : l[w]? = some s) : jd k n (l.take (w + 1)) = jd k n (l.take w) ++ [(⟨k, n, w⟩, s)] := xb h
theorem ua5 (k : Nat) {ls : List (List ByteArray)} {n : Nat} {l : List ByteArray} (h : ls[n]? = some l) : j9 k (ls.take (n + 1)) = j9 k (ls.take n) ++ jd k n l := by
 unfold j9
 rw [xb h, List.flatten_append]; simp
theorem ubg {t : aj} {k : Nat} {c : bg} (h : t[k]? = some c) : fl (t.take (k + 1)) = fl (t.take k) ++ j9 k c.lines := by
 unfold fl
 rw [xb h, List.flatten_append]; simp
theorem upf (t : aj) (k : Nat) : fl (t.take k) <+: fl t := ue5 (z8 _ _ _)
theorem uol (k : Nat) (ls : List (List ByteArray)) (n : Nat) : j9 k (ls.take n) <+: j9 k ls := ue5 (z8 _ _ _)
theorem uma (k n : Nat) (l : List ByteArray) (w : Nat) : jd k n (l.take w) <+: jd k n l := z8 _ _ _
theorem ym {t : aj} {k n : Nat} {c : bg} {l : List ByteArray} (hc : t[k]? = some c) (hl : c.lines[n]? = some l) (w : Nat) : fl (t.take k) ++ j9 k (c.lines.take n) ++ jd k n (l.take w) <+: fl t := by
 refine List.IsPrefix.trans ?_ (upf t (k + 1))
 rw [ubg hc, List.append_assoc]
 refine (List.prefix_append_right_inj _).2 (List.IsPrefix.trans ?_ (uol k c.lines (n + 1)))
 rw [ua5 k hl]
 exact (List.prefix_append_right_inj _).2 (uma k n l w)
end Go.AB
namespace Go.Proofs.YtgffhbbcpgdjjaaGreatDoor
open Go Go.AB
instance : Ty Tryz.prog 3 false 1 := ⟨by kernel_rfl⟩
instance : ZeroC Tryz.prog 3 [.v (.int .i64 0)] := ⟨(.int .i64 0), by kernel_rfl, by rfl⟩
instance : Ty Tryz.prog 4 false 1 := ⟨by kernel_rfl⟩
instance : Zero Tryz.prog 4 (.bool false) := ⟨by kernel_rfl⟩
instance : ZeroC Tryz.prog 4 [.v (.bool false)] := ⟨(.bool false), by kernel_rfl, by rfl⟩
instance : Ty Tryz.prog 5 false 1 := ⟨by kernel_rfl⟩
instance : Ty Tryz.prog 9 false 1 := ⟨by kernel_rfl⟩
instance : StrT Tryz.prog 9 := ⟨by kernel_rfl⟩
instance : Ty Tryz.prog 22 false 1 := ⟨by kernel_rfl⟩
instance : Elt Tryz.prog 22 84 := ⟨by kernel_rfl⟩
instance : AppT Tryz.prog 22 84 2 32 := ⟨by kernel_rfl⟩
instance : Ty Tryz.prog 24 true 1 := ⟨by kernel_rfl⟩
instance : ZeroC Tryz.prog 24 [.list [] .nil] := ⟨(.agg #[(.slice none 0 0)]), by kernel_rfl, by rfl⟩
instance : Bld Tryz.prog 24 [(0, 1)] := ⟨by kernel_rfl⟩
instance : Fld Tryz.prog 24 0 0 22 := ⟨by kernel_rfl⟩
instance : Ty Tryz.prog 25 false 1 := ⟨by kernel_rfl⟩
instance : Elt Tryz.prog 25 47 := ⟨by kernel_rfl⟩
instance : AppT Tryz.prog 25 47 2 16 := ⟨by kernel_rfl⟩
instance : Ty Tryz.prog 26 false 1 := ⟨by kernel_rfl⟩
instance : Elt Tryz.prog 26 38 := ⟨by kernel_rfl⟩
instance : AppT Tryz.prog 26 38 6 80 := ⟨by kernel_rfl⟩
instance : Ty Tryz.prog 28 true 4 := ⟨by kernel_rfl⟩
instance : ZeroC Tryz.prog 28 [.list [] .nil, .list [] .nil, .list [] .nil, .list [] .nil] := ⟨(.agg #[(.slice none 0 0), (.slice none 0 0), (.slice none 0 0), (.slice none 0 0)]), by kernel_rfl, by rfl⟩
instance : Bld Tryz.prog 28 [(0, 1), (1, 1), (2, 1), (3, 1)] := ⟨by kernel_rfl⟩
instance : Fld Tryz.prog 28 0 0 24 := ⟨by kernel_rfl⟩
instance : Fld Tryz.prog 28 1 1 25 := ⟨by kernel_rfl⟩
instance : Fld Tryz.prog 28 2 2 25 := ⟨by kernel_rfl⟩
instance : Fld Tryz.prog 28 3 3 26 := ⟨by kernel_rfl⟩
instance : Ty Tryz.prog 33 false 1 := ⟨by kernel_rfl⟩
instance : ZeroC Tryz.prog 33 [.list [] .nil] := ⟨(.slice none 0 0), by kernel_rfl, by rfl⟩
instance : Elt Tryz.prog 33 3 := ⟨by kernel_rfl⟩
instance : AppT Tryz.prog 33 3 1 8 := ⟨by kernel_rfl⟩
instance : Ty Tryz.prog 36 false 1 := ⟨by kernel_rfl⟩
instance : Elt Tryz.prog 36 41 := ⟨by kernel_rfl⟩
instance : AppT Tryz.prog 36 41 3 24 := ⟨by kernel_rfl⟩
instance : Ty Tryz.prog 38 true 6 := ⟨by kernel_rfl⟩
instance : ZeroC Tryz.prog 38 [.v (.int .i64 0), .v (.int .i64 0), .v (.int .i64 0), .v (.int .i64 0), .list [] .nil, .list [] .nil] := ⟨(.agg #[(.int .i64 0), (.int .i64 0), (.int .i64 0), (.int .i64 0), (.slice none 0 0), (.slice none 0 0)]), by kernel_rfl, by rfl⟩
instance : Bld Tryz.prog 38 [(0, 1), (1, 1), (2, 1), (3, 1), (4, 1), (5, 1)] := ⟨by kernel_rfl⟩
instance : Fld Tryz.prog 38 0 0 3 := ⟨by kernel_rfl⟩
instance : Fld Tryz.prog 38 1 1 3 := ⟨by kernel_rfl⟩
instance : Fld Tryz.prog 38 2 2 3 := ⟨by kernel_rfl⟩
instance : Fld Tryz.prog 38 3 3 3 := ⟨by kernel_rfl⟩
instance : Fld Tryz.prog 38 4 4 36 := ⟨by kernel_rfl⟩
instance : Fld Tryz.prog 38 5 5 36 := ⟨by kernel_rfl⟩
instance : Ty Tryz.prog 41 true 3 := ⟨by kernel_rfl⟩
instance : ZeroC Tryz.prog 41 [.v (.int .i64 0), .v (.int .i64 0), .v (.int .i64 0)] := ⟨(.agg #[(.int .i64 0), (.int .i64 0), (.int .i64 0)]), by kernel_rfl, by rfl⟩
instance : Bld Tryz.prog 41 [(0, 1), (1, 1), (2, 1)] := ⟨by kernel_rfl⟩
instance : Fld Tryz.prog 41 0 0 3 := ⟨by kernel_rfl⟩
instance : Fld Tryz.prog 41 1 1 3 := ⟨by kernel_rfl⟩
instance : Fld Tryz.prog 41 2 2 3 := ⟨by kernel_rfl⟩
instance : Ty Tryz.prog 47 true 2 := ⟨by kernel_rfl⟩
instance : ZeroC Tryz.prog 47 [.v (.int .i64 0), .v (.int .i64 0)] := ⟨(.agg #[(.int .i64 0), (.int .i64 0)]), by kernel_rfl, by rfl⟩
instance : Bld Tryz.prog 47 [(0, 1), (1, 1)] := ⟨by kernel_rfl⟩
instance : Fld Tryz.prog 47 0 0 3 := ⟨by kernel_rfl⟩
instance : Fld Tryz.prog 47 1 1 3 := ⟨by kernel_rfl⟩
instance : Ty Tryz.prog 52 true 2 := ⟨by kernel_rfl⟩
instance : ZeroC Tryz.prog 52 [.v (.int .i64 0), .v (.int .i64 0)] := ⟨(.agg #[(.int .i64 0), (.int .i64 0)]), by kernel_rfl, by rfl⟩
instance : Bld Tryz.prog 52 [(0, 1), (1, 1)] := ⟨by kernel_rfl⟩
instance : Ty Tryz.prog 53 false 1 := ⟨by kernel_rfl⟩
instance : ZeroC Tryz.prog 53 [.v (.int .i64 0)] := ⟨(.int .i64 0), by kernel_rfl, by rfl⟩
instance : Ty Tryz.prog 82 false 1 := ⟨by kernel_rfl⟩
instance : Elt Tryz.prog 82 85 := ⟨by kernel_rfl⟩
instance : AppT Tryz.prog 82 85 1 24 := ⟨by kernel_rfl⟩
instance : Ty Tryz.prog 84 true 2 := ⟨by kernel_rfl⟩
instance : ZeroC Tryz.prog 84 [.v (.int .i64 0), .list [] .nil] := ⟨(.agg #[(.int .i64 0), (.slice none 0 0)]), by kernel_rfl, by rfl⟩
instance : Bld Tryz.prog 84 [(0, 1), (1, 1)] := ⟨by kernel_rfl⟩
instance : Fld Tryz.prog 84 0 0 3 := ⟨by kernel_rfl⟩
instance : Fld Tryz.prog 84 1 1 82 := ⟨by kernel_rfl⟩
instance : Ty Tryz.prog 85 false 1 := ⟨by kernel_rfl⟩
instance : Elt Tryz.prog 85 9 := ⟨by kernel_rfl⟩
instance : AppT Tryz.prog 85 9 1 16 := ⟨by kernel_rfl⟩
instance : Ty Tryz.prog 92 false 1 := ⟨by kernel_rfl⟩
instance : Elt Tryz.prog 92 33 := ⟨by kernel_rfl⟩
instance : AppT Tryz.prog 92 33 1 24 := ⟨by kernel_rfl⟩
instance : Ty Tryz.prog 94 true 3 := ⟨by kernel_rfl⟩
instance : ZeroC Tryz.prog 94 [.list [] .nil, .list [] .nil, .list [] .nil] := ⟨(.agg #[(.slice none 0 0), (.slice none 0 0), (.slice none 0 0)]), by kernel_rfl, by rfl⟩
instance : Bld Tryz.prog 94 [(0, 1), (1, 1), (2, 1)] := ⟨by kernel_rfl⟩
instance : Fld Tryz.prog 94 0 0 33 := ⟨by kernel_rfl⟩
instance : Fld Tryz.prog 94 1 1 33 := ⟨by kernel_rfl⟩
instance : Fld Tryz.prog 94 2 2 92 := ⟨by kernel_rfl⟩
instance : Ty Tryz.prog 97 false 1 := ⟨by kernel_rfl⟩
instance : Ty Tryz.prog 103 false 1 := ⟨by kernel_rfl⟩
instance : Ty Tryz.prog 104 false 1 := ⟨by kernel_rfl⟩
instance : Ty Tryz.prog 105 false 1 := ⟨by kernel_rfl⟩
instance : Ty Tryz.prog 107 true 3 := ⟨by kernel_rfl⟩
instance : ZeroC Tryz.prog 107 [.v .nilFunc, .v .nilFunc, .v .nilFunc] := ⟨(.agg #[.nilFunc, .nilFunc, .nilFunc]), by kernel_rfl, by rfl⟩
instance : Fld Tryz.prog 107 0 0 103 := ⟨by kernel_rfl⟩
instance : Fld Tryz.prog 107 1 1 104 := ⟨by kernel_rfl⟩
instance : Fld Tryz.prog 107 2 2 105 := ⟨by kernel_rfl⟩
instance : Ty Tryz.prog 108 true 6 := ⟨by kernel_rfl⟩
instance : ArrT Tryz.prog 108 2 107 := ⟨by kernel_rfl⟩
instance : Ty Tryz.prog 111 false 1 := ⟨by kernel_rfl⟩
instance : Elt Tryz.prog 111 36 := ⟨by kernel_rfl⟩
instance : AppT Tryz.prog 111 36 1 24 := ⟨by kernel_rfl⟩
instance : ZeroC Tryz.prog 113 [.list [] .nil, .list [] .nil, .list [] .nil, .list [] .nil, .list [] .nil, .list [] .nil, .list [] .nil] := ⟨(.agg #[(.slice none 0 0), (.slice none 0 0), (.slice none 0 0), (.slice none 0 0), (.slice none 0 0), (.slice none 0 0), (.slice none 0 0)]), by kernel_rfl, by rfl⟩
instance : Bld Tryz.prog 113 [(0, 4), (4, 1), (5, 1), (6, 1)] := ⟨by kernel_rfl⟩
instance : Fld Tryz.prog 113 0 0 28 := ⟨by kernel_rfl⟩
instance : Fld Tryz.prog 113 1 4 33 := ⟨by kernel_rfl⟩
instance : Fld Tryz.prog 113 2 5 111 := ⟨by kernel_rfl⟩
instance : Fld Tryz.prog 113 3 6 111 := ⟨by kernel_rfl⟩
instance : Ty Tryz.prog 114 false 1 := ⟨by kernel_rfl⟩
instance : Ty Tryz.prog 127 false 1 := ⟨by kernel_rfl⟩
instance : Ty Tryz.prog 128 false 1 := ⟨by kernel_rfl⟩
instance : MapT Tryz.prog 138 3 4 := ⟨by kernel_rfl⟩
instance : ZeroC Tryz.prog 144 [.list [] .nil] := ⟨(.agg #[(.slice none 0 0)]), by kernel_rfl, by rfl⟩
instance : Bld Tryz.prog 144 [(0, 1)] := ⟨by kernel_rfl⟩
instance : Fld Tryz.prog 144 0 0 24 := ⟨by kernel_rfl⟩
instance : MapT Tryz.prog 155 41 4 := ⟨by kernel_rfl⟩
instance : Elt Tryz.prog 162 5 := ⟨by kernel_rfl⟩
instance : Fun Tryz.prog 5 := ⟨by kernel_rfl⟩
instance : Fun Tryz.prog 6 := ⟨by kernel_rfl⟩
instance : Fun Tryz.prog 10 := ⟨by kernel_rfl⟩
instance : Fun Tryz.prog 14 := ⟨by kernel_rfl⟩
instance : Fun Tryz.prog 15 := ⟨by kernel_rfl⟩
instance : Fun Tryz.prog 16 := ⟨by kernel_rfl⟩
instance : Fun Tryz.prog 17 := ⟨by kernel_rfl⟩
instance : Fun Tryz.prog 18 := ⟨by kernel_rfl⟩
instance : Fun Tryz.prog 19 := ⟨by kernel_rfl⟩
instance : Fun Tryz.prog 20 := ⟨by kernel_rfl⟩
instance : Fun Tryz.prog 21 := ⟨by kernel_rfl⟩
instance : Fun Tryz.prog 22 := ⟨by kernel_rfl⟩
instance : Fun Tryz.prog 23 := ⟨by kernel_rfl⟩
instance : Fun Tryz.prog 24 := ⟨by kernel_rfl⟩
instance : Fun Tryz.prog 25 := ⟨by kernel_rfl⟩
instance : Fun Tryz.prog 26 := ⟨by kernel_rfl⟩
instance : Fun Tryz.prog 27 := ⟨by kernel_rfl⟩
instance : Fun Tryz.prog 28 := ⟨by kernel_rfl⟩
instance : Fun Tryz.prog 29 := ⟨by kernel_rfl⟩
instance : Fun Tryz.prog 30 := ⟨by kernel_rfl⟩
instance : Fun Tryz.prog 31 := ⟨by kernel_rfl⟩
instance : Fun Tryz.prog 32 := ⟨by kernel_rfl⟩
instance : Fun Tryz.prog 33 := ⟨by kernel_rfl⟩
instance : Fun Tryz.prog 34 := ⟨by kernel_rfl⟩
instance : Fun Tryz.prog 36 := ⟨by kernel_rfl⟩
instance : Fun Tryz.prog 41 := ⟨by kernel_rfl⟩
instance : Fun Tryz.prog 42 := ⟨by kernel_rfl⟩
instance : Fun Tryz.prog 43 := ⟨by kernel_rfl⟩
instance : Fun Tryz.prog 44 := ⟨by kernel_rfl⟩
instance : Fun Tryz.prog 45 := ⟨by kernel_rfl⟩
instance : Fun Tryz.prog 46 := ⟨by kernel_rfl⟩
instance : Fun Tryz.prog 47 := ⟨by kernel_rfl⟩
instance : Fun Tryz.prog 48 := ⟨by kernel_rfl⟩
instance : Fun Tryz.prog 49 := ⟨by kernel_rfl⟩
instance : Fun Tryz.prog 50 := ⟨by kernel_rfl⟩
instance : Fun Tryz.prog 51 := ⟨by kernel_rfl⟩
instance : Fun Tryz.prog 52 := ⟨by kernel_rfl⟩
instance : Fun Tryz.prog 53 := ⟨by kernel_rfl⟩
instance : Fun Tryz.prog 54 := ⟨by kernel_rfl⟩
instance : Fun Tryz.prog 55 := ⟨by kernel_rfl⟩
instance : Fun Tryz.prog 56 := ⟨by kernel_rfl⟩
instance : Fun Tryz.prog 57 := ⟨by kernel_rfl⟩
instance : Fun Tryz.prog 58 := ⟨by kernel_rfl⟩
instance : Fun Tryz.prog 59 := ⟨by kernel_rfl⟩
instance : Fun Tryz.prog 60 := ⟨by kernel_rfl⟩
instance : Fun Tryz.prog 61 := ⟨by kernel_rfl⟩
instance : Fun Tryz.prog 63 := ⟨by kernel_rfl⟩
instance : Fun Tryz.prog 64 := ⟨by kernel_rfl⟩
instance : Fun Tryz.prog 65 := ⟨by kernel_rfl⟩
instance : Fun Tryz.prog 66 := ⟨by kernel_rfl⟩
instance : Fun Tryz.prog 67 := ⟨by kernel_rfl⟩
instance : Fun Tryz.prog 68 := ⟨by kernel_rfl⟩
instance : Fun Tryz.prog 69 := ⟨by kernel_rfl⟩
instance : Fun Tryz.prog 70 := ⟨by kernel_rfl⟩
instance : Fun Tryz.prog 71 := ⟨by kernel_rfl⟩
instance : Fun Tryz.prog 72 := ⟨by kernel_rfl⟩
instance : Fun Tryz.prog 73 := ⟨by kernel_rfl⟩
instance : Fun Tryz.prog 74 := ⟨by kernel_rfl⟩
instance : Fun Tryz.prog 75 := ⟨by kernel_rfl⟩
instance : Fun Tryz.prog 76 := ⟨by kernel_rfl⟩
instance : Fun Tryz.prog 77 := ⟨by kernel_rfl⟩
instance : Fun Tryz.prog 78 := ⟨by kernel_rfl⟩
instance : Fun Tryz.prog 79 := ⟨by kernel_rfl⟩
instance : Fun Tryz.prog 80 := ⟨by kernel_rfl⟩
instance : Fun Tryz.prog 81 := ⟨by kernel_rfl⟩
instance : Fun Tryz.prog 82 := ⟨by kernel_rfl⟩
instance : Fun Tryz.prog 83 := ⟨by kernel_rfl⟩
instance : Fun Tryz.prog 84 := ⟨by kernel_rfl⟩
instance : Fun Tryz.prog 85 := ⟨by kernel_rfl⟩
instance : Fun Tryz.prog 86 := ⟨by kernel_rfl⟩
instance : Fun Tryz.prog 87 := ⟨by kernel_rfl⟩
instance : Fun Tryz.prog 88 := ⟨by kernel_rfl⟩
instance : Fun Tryz.prog 90 := ⟨by kernel_rfl⟩
instance : Fun Tryz.prog 91 := ⟨by kernel_rfl⟩
instance : Fun Tryz.prog 92 := ⟨by kernel_rfl⟩
instance : Fun Tryz.prog 93 := ⟨by kernel_rfl⟩
instance : Fun Tryz.prog 94 := ⟨by kernel_rfl⟩
instance : Fun Tryz.prog 95 := ⟨by kernel_rfl⟩
instance : Fun Tryz.prog 96 := ⟨by kernel_rfl⟩
instance : Fun Tryz.prog 97 := ⟨by kernel_rfl⟩
instance : Fun Tryz.prog 98 := ⟨by kernel_rfl⟩
instance : Fun Tryz.prog 101 := ⟨by kernel_rfl⟩
instance : Fun Tryz.prog 135 := ⟨by kernel_rfl⟩
instance : Fun Tryz.prog 136 := ⟨by kernel_rfl⟩
instance : Fun Tryz.prog 137 := ⟨by kernel_rfl⟩
instance : Fun Tryz.prog 138 := ⟨by kernel_rfl⟩
instance : Fun Tryz.prog 139 := ⟨by kernel_rfl⟩
instance : Fun Tryz.prog 140 := ⟨by kernel_rfl⟩
end Go.Proofs.YtgffhbbcpgdjjaaGreatDoor
namespace Go.Proofs.YtgffhbbcpgdjjaaGreatDoor
set_option maxRecDepth 10000
open Go.RowKit Go.AB
open Go.PB (bg aj PlaceD bn bq bp)

theorem ugw (t : aj) : ubi Tryz.prog 71 [.elem [.elem [lst t]]] (fl t) encP := by
 refine umz Tryz.func71 rfl rfl (by simp [C.one]) fun E W lb lx J Jx hr ok => ?_
 simp only [Tryz.ntmps71]
 -- not used: know 2.1, know 5.1
 obtain ⟨b, rfl⟩ : ∃ b, lb = [b] := by
  match lb, hr with
  | [b], _ => exact ⟨b, rfl⟩
  | [], hr => exact absurd hr.1 (by simp)
  | _ :: _ :: _, hr => exact absurd hr.1 (by simp)
 obtain ⟨vs1, h1, hq1⟩ := (hr.2 0 _ _ rfl rfl).elem_exact
 obtain ⟨v1, rfl⟩ : ∃ v, vs1 = [v] := by
  match vs1, hq1 with
  | [b], _ => exact ⟨b, rfl⟩
  | [], hr => exact absurd hr.1 (by simp)
  | _ :: _ :: _, hr => exact absurd hr.1 (by simp)
 obtain ⟨vs2, h2, hq2⟩ := (hq1.2 0 _ _ rfl rfl).elem_exact
 obtain ⟨V, rfl⟩ : ∃ v, vs2 = [v] := by
  match vs2, hq2 with
  | [b], _ => exact ⟨b, rfl⟩
  | [], hr => exact absurd hr.1 (by simp)
  | _ :: _ :: _, hr => exact absurd hr.1 (by simp)
 have h3 := hq2.2 0 _ _ rfl rfl
 have k1 : Known E.L W b (.elem [.v v1]) := Known.of (E := E.drop 0) rfl (h1.drop (.elem fun c hc => by simp at hc; subst hc; exact .v))
 have k2 : Known E.L W v1 (.elem [.v V]) := Known.of (E := E.drop 0) rfl (h2.drop (.elem fun c hc => by simp at hc; subst hc; exact .v))
 obtain ⟨lv, wv, hX⟩ := uh8 (E := E.drop 0) rfl (h3.drop (co _ _))
 dsimp only [List.length_cons, List.length_nil, List.map_cons, List.map_nil, Nat.reduceAdd, Nat.reduceSub]
 replace hX : ug3 E.L W t V lv wv := hX
 have htl := hX.len
 refine k6 fun K1 hK1 => ?_
 refine nz ok [(b, .elem [.v v1]), (v1, .elem [.v V]), (V, .list (t.mapIdx fun k c => [.v (.int .i64 c.id), .v (lv k)]) .none)] (py k1 (py k2 (py hX.top vc))) ?_
 dsimp only [j6]
 refine aw ?_
 try dsimp only [St.put]
 first | refine ae rfl (ne 1 0 rfl rfl (bh rfl rfl)) ?_ | refine ae rfl (ne 1 0 rfl rfl (aq rfl rfl (Enc.len _))) ?_ | refine ae rfl (ne 1 0 rfl rfl (aq rfl rfl rfl)) ?_ | refine ae rfl (ne 1 0 rfl rfl (bz rfl rfl zG trivial (by first | rfl | assumption))) ?_ | refine ae rfl (ne 1 0 rfl rfl (ca rfl rfl zG trivial (by rfl))) ?_ | refine ae rfl (ne 1 0 rfl rfl (cg rfl rfl zG trivial (by simp))) ?_ | refine ae rfl (ne 1 0 rfl rfl (ax rfl rfl zG trivial (ci (by assumption) rfl))) ?_ | refine ae rfl (ne 1 0 rfl rfl (ax rfl rfl zG trivial (by assumption))) ?_ | refine ae rfl (ne 1 0 rfl rfl (cj rfl rfl zG trivial rfl (by assumption) rfl (by decide))) ?_ | refine ae rfl (ne 1 0 rfl rfl (cd rfl rfl zG (by rfl))) ?_
 first | refine aa rfl (jy 9 1 rfl rfl (ku rfl rfl)) ?_ | refine aa rfl (jy 9 1 rfl rfl (jn rfl rfl)) ?_ | refine aa rfl (jy 9 1 rfl rfl (uf rfl rfl)) ?_
 first | refine aa rfl (br rfl rfl rfl) ?_ | refine aa rfl (cr rfl rfl) ?_
 first | refine aa rfl (br rfl rfl rfl) ?_ | refine aa rfl (cr rfl rfl) ?_
 try dsimp only [St.put]
 first | refine ae rfl (bh rfl rfl) ?_ | refine ae rfl (aq rfl rfl (Enc.len _)) ?_ | refine ae rfl (aq rfl rfl rfl) ?_ | refine ae rfl (bz rfl rfl zG trivial (by first | rfl | assumption)) ?_ | refine ae rfl (ca rfl rfl zG trivial (by rfl)) ?_ | refine ae rfl (cg rfl rfl zG trivial (by simp)) ?_ | refine ae rfl (ax rfl rfl zG trivial (ci (by assumption) rfl)) ?_ | refine ae rfl (ax rfl rfl zG trivial (by assumption)) ?_ | refine ae rfl (cj rfl rfl zG trivial rfl (by assumption) rfl (by decide)) ?_ | refine ae rfl (cd rfl rfl zG (by rfl)) ?_
 refine aa rfl (jy 13 2 rfl rfl (bj (k := t.length) rfl rfl List.length_mapIdx)) ?_
 refine aa rfl (ba rfl (by constructor)) ?_
 refine av ?_
 refine ⟨rfl, ?_⟩
 dsimp only [St.put, jj, List.map, exC]
 refine hK1 _ _ ?_
 refine r9 ?_
 refine uad 16 ?_
 refine zQ ?_
 refine uae (X := Nat) (fun k => k ≤ t.length) (fun k => t.length - k) (fun k => [(15, .v (.int .i64 (k : Int)))]) (fun k => (false, fl (t.take k))) 0 rfl ?_ ?_ ?_ ?_
 ·exact Nat.zero_le _
 ·exact zF
 ·rfl
 ·rintro k hI
  dsimp only at hI ⊢
  refine k6 fun K2 hK2 => ?_
  refine nz ok [] (fun p hp => by cases hp) ?_
  dsimp only [j6]
  refine aw ?_
  refine aa rfl (c5 rfl rfl rfl) ?_
  refine av ?_
  refine ⟨rfl, ?_⟩
  dsimp only [St.put, jj, List.map, exC]
  refine hK2 _ _ ?_
  refine k6 fun K3 hK3 => ?_
  refine ut rfl (fun hc => ?_) (fun hc => ?_)
  ·replace hc := of_decide_eq_true hc
   obtain ⟨c, hk⟩ : ∃ c, t[k]? = some c := ⟨_, List.getElem?_eq_getElem (by omega)⟩
   have hk' : (t.mapIdx fun k c => [C.v (.int .i64 c.id), C.v (lv k)])[k]? = some [.v (.int .i64 c.id), .v (lv k)] := by rw [List.getElem?_mapIdx, hk]; rfl
   obtain ⟨hl1, hl2⟩ := hX.lines k c hk
   refine xj ?_
   refine hK3 _ _ ?_
   refine k6 fun K4 hK4 => ?_
   refine r9 ?_
   refine umw ok [(V, .list (t.mapIdx fun k c => [.v (.int .i64 c.id), .v (lv k)]) .none), (lv k, .list (c.lines.mapIdx fun n _ => [.v (wv k n)]) .none)] (py hX.top (py hl1 vc)) ?_
   dsimp only [j6]
   refine aw ?_
   refine aa rfl (ba rfl (by constructor)) ?_
   try dsimp only [St.put]
   refine aa rfl (jy 13 0 rfl rfl (bk (k := k) rfl rfl rfl rfl hk' rfl)) ?_
   try dsimp only [St.put]
   first | refine ae rfl (bh rfl rfl) ?_ | refine ae rfl (aq rfl rfl (Enc.len _)) ?_ | refine ae rfl (aq rfl rfl rfl) ?_ | refine ae rfl (bz rfl rfl zG trivial (by first | rfl | assumption)) ?_ | refine ae rfl (ca rfl rfl zG trivial (by rfl)) ?_ | refine ae rfl (cg rfl rfl zG trivial (by simp)) ?_ | refine ae rfl (ax rfl rfl zG trivial (ci (by assumption) rfl)) ?_ | refine ae rfl (ax rfl rfl zG trivial (by assumption)) ?_ | refine ae rfl (cj rfl rfl zG trivial rfl (by assumption) rfl (by decide)) ?_ | refine ae rfl (cd rfl rfl zG (by rfl)) ?_
   try dsimp only [St.put]
   refine af rfl (dt rfl ?_)
   refine aa rfl (bf rfl (by constructor)) ?_
   try dsimp only [St.put]
   first | refine af rfl (da rfl rfl rfl zG rfl rfl (by rfl) ?_) | refine af rfl (g7 rfl rfl rfl zG (by constructor) rfl zO ?_)
   refine av ?_
   dsimp only [St.put]
   refine aw ?_
   first | refine aa rfl (br rfl rfl rfl) ?_ | refine aa rfl (cr rfl rfl) ?_
   try dsimp only [St.put]
   first | refine ae rfl (bh rfl rfl) ?_ | refine ae rfl (aq rfl rfl (Enc.len _)) ?_ | refine ae rfl (aq rfl rfl rfl) ?_ | refine ae rfl (bz rfl rfl zG trivial (by first | rfl | assumption)) ?_ | refine ae rfl (ca rfl rfl zG trivial (by rfl)) ?_ | refine ae rfl (cg rfl rfl zG trivial (by simp)) ?_ | refine ae rfl (ax rfl rfl zG trivial (ci (by assumption) rfl)) ?_ | refine ae rfl (ax rfl rfl zG trivial (by assumption)) ?_ | refine ae rfl (cj rfl rfl zG trivial rfl (by assumption) rfl (by decide)) ?_ | refine ae rfl (cd rfl rfl zG (by rfl)) ?_
   refine aa rfl (jy 21 1 rfl rfl (bj (k := c.lines.length) rfl rfl List.length_mapIdx)) ?_
   refine aa rfl (ba rfl (by constructor)) ?_
   refine av ?_
   refine ⟨rfl, ?_⟩
   dsimp only [St.put, jj, List.map, exC]
   refine r9 ?_
   refine uad 24 ?_
   refine zQ ?_
   refine uae (X := Nat) (fun n => n ≤ c.lines.length) (fun n => c.lines.length - n) (fun n => [(23, .v (.int .i64 (n : Int)))]) (fun n => (false, fl (t.take k) ++ j9 k (c.lines.take n))) 0 rfl ?_ ?_ ?_ ?_
   ·exact Nat.zero_le _
   ·exact zF
   ·simp [j9]
   ·rintro n hI
    dsimp only at hI ⊢
    refine k6 fun K6 hK6 => ?_
    refine nz ok [] (fun p hp => by cases hp) ?_
    dsimp only [j6]
    refine aw ?_
    refine aa rfl (c5 rfl rfl rfl) ?_
    refine av ?_
    refine ⟨rfl, ?_⟩
    dsimp only [St.put, jj, List.map, exC]
    refine hK6 _ _ ?_
    refine k6 fun K7 hK7 => ?_
    refine ut rfl (fun hc => ?_) (fun hc => ?_)
    ·replace hc := of_decide_eq_true hc
     obtain ⟨l, hn⟩ : ∃ l, c.lines[n]? = some l := ⟨_, List.getElem?_eq_getElem (by omega)⟩
     have hn' : (c.lines.mapIdx fun n _ => [C.v (wv k n)])[n]? = some [.v (wv k n)] := by rw [List.getElem?_mapIdx, hn]; rfl
     obtain ⟨hw1, hw2⟩ := hX.words k c n l hk hn
     refine xj ?_
     refine hK7 _ _ ?_
     refine k6 fun K8 hK8 => ?_
     refine r9 ?_
     refine k6 fun K9 hK9 => ?_
     refine nz ok [(lv k, .list (c.lines.mapIdx fun n _ => [.v (wv k n)]) .none)] (py hl1 vc) ?_
     dsimp only [j6]
     refine aw ?_
     refine aa rfl (ba rfl (by constructor)) ?_
     try dsimp only [St.put]
     refine aa rfl (jy 21 0 rfl rfl (bk (k := n) rfl rfl rfl rfl hn' rfl)) ?_
     try dsimp only [St.put]
     first | refine ae rfl (bh rfl rfl) ?_ | refine ae rfl (aq rfl rfl (Enc.len _)) ?_ | refine ae rfl (aq rfl rfl rfl) ?_ | refine ae rfl (bz rfl rfl zG trivial (by first | rfl | assumption)) ?_ | refine ae rfl (ca rfl rfl zG trivial (by rfl)) ?_ | refine ae rfl (cg rfl rfl zG trivial (by simp)) ?_ | refine ae rfl (ax rfl rfl zG trivial (ci (by assumption) rfl)) ?_ | refine ae rfl (ax rfl rfl zG trivial (by assumption)) ?_ | refine ae rfl (cj rfl rfl zG trivial rfl (by assumption) rfl (by decide)) ?_ | refine ae rfl (cd rfl rfl zG (by rfl)) ?_
     refine aa rfl (bf rfl (by constructor)) ?_
     refine aa rfl (bf rfl (by constructor)) ?_
     refine av ?_
     refine ⟨rfl, ?_⟩
     dsimp only [St.put, jj, List.map, exC]
     refine hK9 _ _ ?_
     refine k6 fun K10 hK10 => ?_
     refine nz ok [(wv k n, lst l)] (py hw1 vc) ?_
     dsimp only [j6]
     refine aw ?_
     refine aa rfl (ba rfl (by constructor)) ?_
     first | refine aa rfl (jy 28 0 rfl rfl (bj rfl rfl (List.length_map _))) ?_ | refine aa rfl (jy 28 0 rfl rfl (bj rfl rfl rfl)) ?_ | refine aa rfl (jy 28 0 rfl rfl (f7 rfl rfl)) ?_ | refine aa rfl (jy 28 0 rfl rfl (gd rfl rfl)) ?_ | refine aa rfl (jy 28 0 rfl rfl (ga rfl rfl)) ?_ | refine aa rfl (jy 28 0 rfl rfl (f9 rfl rfl (by omega))) ?_
     refine aa rfl (ba rfl (by constructor)) ?_
     refine av ?_
     refine ⟨rfl, ?_⟩
     dsimp only [St.put, jj, List.map, exC]
     refine hK10 _ _ ?_
     refine r9 ?_
     refine uad 31 ?_
     refine zQ ?_
     refine uae (X := Nat) (fun w => w ≤ l.length) (fun w => l.length - w) (fun w => [(30, .v (.int .i64 (w : Int)))]) (fun w => (false, fl (t.take k) ++ j9 k (c.lines.take n) ++ jd k n (l.take w))) 0 rfl ?_ ?_ ?_ ?_
     ·exact Nat.zero_le _
     ·exact zF
     ·simp [jd]
     ·rintro w hI
      dsimp only at hI ⊢
      refine k6 fun K11 hK11 => ?_
      refine nz ok [] (fun p hp => by cases hp) ?_
      dsimp only [j6]
      refine aw ?_
      refine aa rfl (c5 rfl rfl rfl) ?_
      refine av ?_
      refine ⟨rfl, ?_⟩
      dsimp only [St.put, jj, List.map, exC]
      refine hK11 _ _ ?_
      refine k6 fun K12 hK12 => ?_
      refine ut rfl (fun hc => ?_) (fun hc => ?_)
      ·replace hc := of_decide_eq_true hc
       obtain ⟨s, hw⟩ : ∃ s, l[w]? = some s := ⟨_, List.getElem?_eq_getElem (by omega)⟩
       have hpre := ym hk hn (w + 1)
       rw [uec k n hw, ← List.append_assoc] at hpre
       refine xj ?_
       refine hK12 _ _ ?_
       refine k6 fun K13 hK13 => ?_
       refine r9 ?_
       refine k6 fun K14 hK14 => ?_
       refine nz ok [(wv k n, lst l)] (py hw1 vc) ?_
       dsimp only [j6]
       refine aw ?_
       refine aa rfl (ba rfl (by constructor)) ?_
       try dsimp only [St.put]
       first | refine aa rfl (jy 28 0 rfl rfl (bk rfl rfl rfl rfl (bu (by assumption)) (Enc.len _))) ?_ | refine aa rfl (jy 28 0 rfl rfl (bk rfl rfl rfl rfl (by assumption) rfl)) ?_ | refine aa rfl (jy 28 0 rfl rfl (g4 rfl rfl rfl (by first | exact g6 _ | exact rfl) (by omega))) ?_ | refine aa rfl (jy 28 0 rfl rfl (bk rfl rfl rfl (by omega) (bu (by assumption)) (Enc.len _))) ?_
       try dsimp only [St.put]
       first | refine ae rfl (bh rfl rfl) ?_ | refine ae rfl (aq rfl rfl (Enc.len _)) ?_ | refine ae rfl (aq rfl rfl rfl) ?_ | refine ae rfl (bz rfl rfl zG trivial (by first | rfl | assumption)) ?_ | refine ae rfl (ca rfl rfl zG trivial (by rfl)) ?_ | refine ae rfl (cg rfl rfl zG trivial (by simp)) ?_ | refine ae rfl (ax rfl rfl zG trivial (ci (by assumption) rfl)) ?_ | refine ae rfl (ax rfl rfl zG trivial (by assumption)) ?_ | refine ae rfl (cj rfl rfl zG trivial rfl (by assumption) rfl (by decide)) ?_ | refine ae rfl (cd rfl rfl zG (by rfl)) ?_
       refine aa rfl (bf rfl (by constructor)) ?_
       refine aa rfl (bf rfl (by constructor)) ?_
       refine av ?_
       refine ⟨rfl, ?_⟩
       dsimp only [St.put, jj, List.map, exC]
       refine hK14 _ _ ?_
       refine k6 fun K15 hK15 => ?_
       refine umy ?_
       refine pq rfl (ba rfl (by constructor)) ?_
       refine pq rfl (ba rfl (by constructor)) ?_
       refine pq rfl (ba rfl (by constructor)) ?_
       refine pq rfl (ba rfl (by constructor)) ?_
       refine pq rfl (ie rfl rfl) ?_
       refine pq rfl (ba rfl (by constructor)) ?_
       try dsimp only [St.put]
       refine um2 ok (x := ((⟨k, n, w⟩, s) : PW)) (hpre.subset (by simp)) rfl rfl rfl rfl (fun E W vs h => unr h) (Nat.lt_of_lt_of_le (by simp) hpre.length_le) ?_ ?_
       ·refine pq rfl (ei rfl rfl) ?_
        refine uer ?_
        dsimp only [St.put]
        refine hK15 _ _ ?_
        refine ut rfl (fun h => by cases h) (fun _ => ?_)
        refine xj ?_
        refine hK13 _ _ ?_
        refine nz ok [] (fun p hp => by cases hp) ?_
        dsimp only [j6]
        refine aw ?_
        first | refine aa rfl (cm rfl rfl rfl (by omega)) ?_ | refine aa rfl (il rfl rfl rfl) ?_
        refine aa rfl (ba rfl (by constructor)) ?_
        refine av ?_
        refine ⟨rfl, ?_⟩
        dsimp only [St.put, jj, List.map, exC]
        exact ⟨w + 1, by omega, by omega, by rw [uec k n hw, List.append_assoc], rfl, rfl, ⟨⟨rfl, rfl⟩, zF, zB, zN, zX⟩⟩
       ·dsimp only [St.put, jj, List.map, exC]
        refine pq rfl (ei rfl rfl) ?_
        refine uer ?_
        dsimp only [St.put]
        refine hK15 _ _ ?_
        refine ut rfl (fun _ => ?_) (fun h => by cases h)
        refine umx ?_
        exact um5 (st := ⟨0, [], [], noG, 0, 0⟩) hpre
      ·replace hc := of_decide_eq_false hc
       obtain rfl : w = l.length := by omega
       refine uaf ?_
       refine hK8 _ _ ?_
       refine nz ok [] (fun p hp => by cases hp) ?_
       dsimp only [j6]
       refine aw ?_
       first | refine aa rfl (cm rfl rfl rfl (by omega)) ?_ | refine aa rfl (il rfl rfl rfl) ?_
       refine aa rfl (ba rfl (by constructor)) ?_
       refine av ?_
       refine ⟨rfl, ?_⟩
       dsimp only [St.put, jj, List.map, exC]
       exact ⟨n + 1, by omega, by omega, by rw [ua5 k hn, List.take_length, List.append_assoc], rfl, rfl, ⟨⟨rfl, rfl⟩, zF, zB, zN, zX⟩⟩
    ·replace hc := of_decide_eq_false hc
     obtain rfl : n = c.lines.length := by omega
     refine uaf ?_
     refine hK4 _ _ ?_
     refine nz ok [] (fun p hp => by cases hp) ?_
     dsimp only [j6]
     refine aw ?_
     first | refine aa rfl (cm rfl rfl rfl (by omega)) ?_ | refine aa rfl (il rfl rfl rfl) ?_
     refine aa rfl (ba rfl (by constructor)) ?_
     refine av ?_
     refine ⟨rfl, ?_⟩
     dsimp only [St.put, jj, List.map, exC]
     exact ⟨k + 1, by omega, by omega, by rw [ubg hk, List.take_length], rfl, rfl, ⟨⟨rfl, rfl⟩, zF, zB, zN, zX⟩⟩
  ·replace hc := of_decide_eq_false hc
   obtain rfl : k = t.length := by omega
   refine uaf ?_
   exact um6 (st := ⟨0, [], [], noG, 0, 0⟩) (by rw [List.take_length])
end Go.Proofs.YtgffhbbcpgdjjaaGreatDoor
namespace Go.AB
open Go Go.RowKit
open Go.AB.Enc (cells)
open Go.PB (bg aj PlaceD bn bq bp)
structure km where
 ch : Int
 fr : Int
 tt : Int
 au : Int
 fi : Int
 deriving DecidableEq
structure up3 where
 id : Int
 ss : List km
 deriving DecidableEq
structure RowD where
 ch : Int
 ln : Int
 au : Int
 nu : Int
 ws : Int
 deriving DecidableEq
/-- numbers of an edition that is read out of memory -/
structure SFit (s : km) : Prop where
 ch : I64 s.ch
 fr : I64 s.fr
 tt : I64 s.tt
 au : I64 s.au
 fi : I64 s.fi
structure EFit (e : up3) : Prop where
 id : I64 e.id
 len : e.ss.length ≤ 9223372036854775807
 ss : ∀ s ∈ e.ss, SFit s
/-! ### What the functions compute -/
/-- so many lines has a chapter -/
def lm (t : aj) (c : Int) : Nat := match t[c.toNat]? with
 | some x => x.lines.length
 | none => 0
/-- the error of a text -/
def fw (t : aj) : Int := bif c7 t then 0 else 10
/-- what is so of a valid stretch -/
structure SOk (s : km) : Prop where
 fr : 0 ≤ s.fr
 lt : s.fr < s.tt
 tt : s.tt ≤ 10
 ch : 0 ≤ s.ch ∧ s.ch ≤ 5
 au : 1 ≤ s.au ∧ s.au ≤ 999
 fi : 1 ≤ s.fi ∧ s.fi + (s.tt - s.fr) ≤ 1000
theorem lj {t : aj} (h : c7 t = true) : 1 ≤ t.length ∧ t.length ≤ 6 ∧ ∀ c ∈ t, 1 ≤ c.lines.length ∧ c.lines.length ≤ 10 ∧ ∀ l ∈ c.lines, 1 ≤ l.length ∧ l.length ≤ 10 := by
 simp only [c7, Bool.and_eq_true, inB_true, List.all_eq_true, jl, ke] at h
 refine ⟨by omega, by omega, fun c hc => ?_⟩
 have := h.1.2 c hc
 refine ⟨by omega, by omega, fun l hl => ?_⟩
 have := this.2 l hl
 omega
theorem udp {t : aj} {c : Int} {k : Nat} {x : bg} (hc : c = (k : Int)) (hx : t[k]? = some x) : lm t c = x.lines.length := by
 subst hc; simp [lm, hx]
end Go.AB
namespace Go.AB
/-- where the first one stands of which it is so; -1 if there is none -/
def ox {α : Type} (p : α → Bool) (xs : List α) : Int := match xs.findIdx? p with
 | some n => (n : Int)
 | none => -1
theorem uai {α : Type} {p : α → Bool} {xs : List α} (h : ∀ x ∈ xs, p x = false) : ox p xs = -1 := by
 have : xs.findIdx? p = none := List.findIdx?_eq_none_iff.2 h
 simp [ox, this]
theorem uah {α : Type} {p : α → Bool} {xs : List α} {k : Nat} {x : α} (hx : xs[k]? = some x) (hp : p x = true) (h : ∀ y ∈ xs.take k, p y = false) : ox p xs = k := by
 have : xs.findIdx? p = some k := by
  rw [List.findIdx?_eq_some_iff_getElem]
  obtain ⟨hlt, rfl⟩ := List.getElem?_eq_some_iff.1 hx
  refine ⟨hlt, hp, fun j hj => ?_⟩
  have := h xs[j] (List.mem_of_getElem? (i := j) (by rw [List.getElem?_take, if_pos hj, List.getElem?_eq_getElem (by omega)]))
  simp [this]
 simp [ox, this]
theorem uaj {α : Type} {p : α → Bool} {xs : List α} : decide (0 ≤ ox p xs) = xs.any p := by
 unfold ox
 cases h : xs.findIdx? p with
 | none =>
  have h1 := List.findIdx?_eq_none_iff.1 h
  have : xs.any p = false := by rw [List.any_eq_false]; intro x hx; simp [h1 x hx]
  rw [this]; simp
 | some n =>
  rw [List.findIdx?_eq_some_iff_getElem] at h
  obtain ⟨hlt, hp, _⟩ := h
  have : xs.any p = true := List.any_eq_true.2 ⟨_, List.getElem_mem hlt, hp⟩
  rw [this]; simp
def mj (n lo hi : Int) : Bool := decide (n < lo) || decide (hi < n)
def xk (lo hi : Int) (xs : List Int) : Bool := !xs.any fun n => mj n lo hi
theorem uk7 (n lo hi : Int) : (!mj n lo hi) = inB n lo hi := by
 simp only [mj, inB, Bool.not_or]
 rw [← decide_not, ← decide_not]
 congr 1 <;> (congr 1; simp)
theorem gu {lo hi n : Int} : xk lo hi [n] = inB n lo hi := by rw [← uk7]; simp [xk]
end Go.AB
namespace Go.Proofs.YtgffhbbcpgdjjaaGreatDoor
set_option maxRecDepth 10000
open Go.RowKit Go.AB
open Go.AB.Enc (cells)
open Go.PB (bg aj PlaceD bn bq bp)

theorem up0 (xs : List Int) (p : Int → Bool) (k : Nat) (caps : List C) [Fun Tryz.prog k] (hp : ∀ x ∈ xs, Pure Tryz.prog k (.v (.int .i64 x) :: caps) (.v (.bool (p x)))) : Pure Tryz.prog 90 [lst xs, .fn (.func k) caps] (.v (.int .i64 (ox p xs))) := by
 refine di Tryz.func90 rfl (fun m => .v) fun G nx => ?_
 simp only [Tryz.ntmps90, List.length_cons, List.length_nil, Nat.reduceAdd, Nat.reduceSub]
 refine cp fun hlt => ?_
 dsimp only at hlt
 refine lf 0 (fun hf => ?_)
 replace hf := (fit_lst.1 hf).1
 refine ar fun K1 hK1 => ?_
 refine aw ?_
 refine aa rfl (bf rfl (by constructor)) ?_
 refine av ?_
 dsimp only [St.put]
 refine hK1 _ ?_
 refine ar fun K2 hK2 => ?_
 refine ar fun K3 hK3 => ?_
 refine aw ?_
 refine aa rfl (ba rfl (by constructor)) ?_
 first | refine aa rfl (bj rfl rfl (List.length_map _)) ?_ | refine aa rfl (bj rfl rfl rfl) ?_ | refine aa rfl (f7 rfl rfl) ?_ | refine aa rfl (gd rfl rfl) ?_ | refine aa rfl (ga rfl rfl) ?_ | refine aa rfl (f9 rfl rfl (by omega)) ?_
 refine aa rfl (ba rfl (by constructor)) ?_
 refine av ?_
 dsimp only [St.put]
 refine hK3 _ ?_
 refine cb ?_
 refine dh 9 ?_
 refine zQ ?_
 refine du (G) zX ?_
 dsimp only
 refine dz (X := Nat) (fun k => k ≤ xs.length ∧ ∀ y ∈ xs.take k, p y = false) (fun k => xs.length - k) (fun k => [(4, .any), (5, .any), (8, .v (.int .i64 (k : Int)))]) (fun k G' => G') 0 rfl ?_ ?_ (fun _ _ h => h) ?_ ?_ ?_
 ·exact ⟨by simp, by simp⟩
 ·exact zF
 ·rintro k hI
  exact zL
 ·exact fun _ _ _ _ h => .inl h
 ·rintro k hI
  dsimp only at hI ⊢
  refine ar fun K4 hK4 => ?_
  refine aw ?_
  refine aa rfl (c5 rfl rfl rfl) ?_
  refine av ?_
  dsimp only [St.put]
  refine hK4 _ ?_
  refine ar fun K5 hK5 => ?_
  refine bd rfl (fun hc => ?_) (fun hc => ?_)
  ·replace hc := of_decide_eq_true hc
   obtain ⟨x, hx⟩ : ∃ x, xs[k]? = some x := d8 (by omega)
   refine bi ?_
   refine hK5 _ ?_
   refine ar fun K6 hK6 => ?_
   refine cb ?_
   refine ar fun K7 hK7 => ?_
   refine aw ?_
   refine aa rfl (ba rfl (by constructor)) ?_
   refine aa rfl (bf rfl (by constructor)) ?_
   refine av ?_
   dsimp only [St.put]
   refine hK7 _ ?_
   refine ar fun K8 hK8 => ?_
   refine aw ?_
   refine aa rfl (ba rfl (by constructor)) ?_
   refine aa rfl (ba rfl (by constructor)) ?_
   refine aa rfl (ba rfl (by constructor)) ?_
   try dsimp only [St.put]
   first | refine aa rfl (bk rfl rfl rfl rfl (bu (by assumption)) (Enc.len _)) ?_ | refine aa rfl (bk rfl rfl rfl rfl (by assumption) rfl) ?_ | refine aa rfl (g4 rfl rfl rfl (by first | exact g6 _ | exact rfl) (by omega)) ?_ | refine aa rfl (bk rfl rfl rfl (by omega) (bu (by assumption)) (Enc.len _)) ?_
   try dsimp only [St.put]
   first | refine ae rfl (bh rfl rfl) ?_ | refine ae rfl (aq rfl rfl (Enc.len _)) ?_ | refine ae rfl (aq rfl rfl rfl) ?_ | refine ae rfl (bz rfl rfl zG trivial (by first | rfl | assumption)) ?_ | refine ae rfl (ca rfl rfl zG trivial (by rfl)) ?_ | refine ae rfl (cg rfl rfl zG trivial (by simp)) ?_ | refine ae rfl (ax rfl rfl zG trivial (ci (by assumption) rfl)) ?_ | refine ae rfl (ax rfl rfl zG trivial (by assumption)) ?_ | refine ae rfl (cj rfl rfl zG trivial rfl (by assumption) rfl (by decide)) ?_ | refine ae rfl (cd rfl rfl zG (by rfl)) ?_
   try dsimp only [St.put]
   refine af rfl (bl rfl rfl rfl (hp x (g5 hx)) ?_)
   refine av ?_
   dsimp only [St.put]
   refine hK8 _ ?_
   refine bd rfl (fun hc => ?_) (fun hc => ?_)
   ·skip
    refine ar fun K9 hK9 => ?_
    refine aw ?_
    refine aa rfl (ba rfl (by constructor)) ?_
    refine aa rfl (bf rfl (by constructor)) ?_
    refine av ?_
    dsimp only [St.put]
    refine hK9 _ ?_
    refine bc ?_
    refine bx rfl (by constructor) zN zS ?_
    exact vi (uah hx hc hI.2).symm
   ·skip
    refine bi ?_
    refine hK6 _ ?_
    refine aw ?_
    first | refine aa rfl (cm rfl rfl rfl (by omega)) ?_ | refine aa rfl (il rfl rfl rfl) ?_
    refine aa rfl (ba rfl (by constructor)) ?_
    refine av ?_
    dsimp only [St.put]
    exact ⟨k + 1, by omega, ⟨by omega, fun y hy => by
      rw [List.take_add_one, hx] at hy
      simp only [Option.toList_some, List.mem_append, List.mem_singleton] at hy
      rcases hy with hy | rfl
      ·exact hI.2 y hy
      ·simpa using hc⟩, ⟨⟨rfl, rfl⟩, zF, zB, zN, zX⟩⟩
  ·try replace hc := of_decide_eq_false hc
   refine dq ?_
   refine hK2 _ ?_
   refine ar fun K10 hK10 => ?_
   refine aw ?_
   refine aa rfl (bf rfl (by constructor)) ?_
   refine av ?_
   dsimp only [St.put]
   refine hK10 _ ?_
   refine bc ?_
   refine bx rfl (by constructor) zN zS ?_
   exact vi (by
    rw [uai]
    have := hI.2
    rwa [g9 (by omega)] at this)

theorem yg (xs : List Int) (p : Int → Bool) (k : Nat) (caps : List C) [Fun Tryz.prog k] (hp : ∀ x ∈ xs, Pure Tryz.prog k (.v (.int .i64 x) :: caps) (.v (.bool (p x)))) : Pure Tryz.prog 69 [lst xs, .fn (.func k) caps] (.v (.bool (xs.any p))) := by
 refine di Tryz.func69 rfl (fun m => .v) fun G nx => ?_
 simp only [Tryz.ntmps69, List.length_cons, List.length_nil, Nat.reduceAdd, Nat.reduceSub]
 refine cp fun hlt => ?_
 dsimp only at hlt
 refine ar fun K1 hK1 => ?_
 refine aw ?_
 refine aa rfl (bf rfl (by constructor)) ?_
 refine av ?_
 dsimp only [St.put]
 refine hK1 _ ?_
 refine ar fun K2 hK2 => ?_
 refine aw ?_
 refine aa rfl (ba rfl (by constructor)) ?_
 refine aa rfl (ba rfl (by constructor)) ?_
 try dsimp only [St.put]
 refine af rfl (bl rfl rfl rfl (up0 xs p k caps hp) ?_)
 refine aa rfl (kx rfl rfl rfl) ?_
 refine aa rfl (bf rfl (by constructor)) ?_
 refine av ?_
 dsimp only [St.put]
 refine hK2 _ ?_
 refine bc ?_
 refine bx rfl (by constructor) zN zS ?_
 exact vb uaj

end Go.Proofs.YtgffhbbcpgdjjaaGreatDoor
namespace Go.Proofs.YtgffhbbcpgdjjaaGreatDoor
set_option maxRecDepth 10000
open Go.RowKit Go.AB
open Go.PB (bg aj PlaceD bn bq bp)

theorem pd (n lo hi : Int) : Pure Tryz.prog 51 [.v (.int .i64 n), .v (.int .i64 lo), .v (.int .i64 hi)] (.v (.bool (inB n lo hi))) := by
 refine di Tryz.func51 rfl (fun m => .v) fun G nx => ?_
 simp only [Tryz.ntmps51, List.length_cons, List.length_nil, Nat.reduceAdd, Nat.reduceSub]
 refine cp fun hlt => ?_
 dsimp only at hlt
 refine ar fun K1 hK1 => ?_
 refine aw ?_
 refine aa rfl (bf rfl (by constructor)) ?_
 refine av ?_
 dsimp only [St.put]
 refine hK1 _ ?_
 refine ar fun K2 hK2 => ?_
 refine aw ?_
 refine aa rfl (ba rfl (by constructor)) ?_
 refine aa rfl (ba rfl (by constructor)) ?_
 refine aa rfl (kx rfl rfl rfl) ?_
 refine er (fun hs => ?_) (fun hs => ?_)
 ·try replace hs := of_decide_eq_true hs
  refine aa rfl (ba rfl (by constructor)) ?_
  refine aa rfl (ba rfl (by constructor)) ?_
  refine aa rfl (ba rfl (by constructor)) ?_
  refine aa rfl (ug rfl rfl rfl) ?_
  first | refine aa rfl (cn rfl rfl (by constructor)) ?_ | refine aa rfl (cv rfl rfl (by constructor)) ?_ | refine aa rfl (nt rfl rfl rfl rfl) ?_ | refine aa rfl (nm rfl rfl rfl rfl) ?_
  refine aa rfl (bf rfl (by constructor)) ?_
  refine av ?_
  dsimp only [St.put]
  refine hK2 _ ?_
  refine bc ?_
  refine bx rfl (by constructor) zN zS ?_
  exact vb (by simp [inB, hs]; try omega)
 ·try replace hs := of_decide_eq_false hs
  refine aa rfl (ba rfl (by constructor)) ?_
  refine j1 rfl ?_
  refine j1 rfl ?_
  refine j1 rfl ?_
  first | refine aa rfl (cn rfl rfl (by constructor)) ?_ | refine aa rfl (cv rfl rfl (by constructor)) ?_ | refine aa rfl (nt rfl rfl rfl rfl) ?_ | refine aa rfl (nm rfl rfl rfl rfl) ?_
  refine aa rfl (bf rfl (by constructor)) ?_
  refine av ?_
  dsimp only [St.put]
  refine hK2 _ ?_
  refine bc ?_
  refine bx rfl (by constructor) zN zS ?_
  exact vb (by simp [inB, hs]; try omega)

theorem upv (s : ByteArray) : Pure Tryz.prog 91 [.v (.string s)] (.v (.bool (ko s))) := by
 refine di Tryz.func91 rfl (fun m => .v) fun G nx => ?_
 simp only [Tryz.ntmps91, List.length_cons, List.length_nil, Nat.reduceAdd, Nat.reduceSub]
 refine cp fun hlt => ?_
 dsimp only at hlt
 refine lf 0 (fun hf => ?_)
 have hm : s.size ≤ 9223372036854775807 := okV_str.1 (fit_v.1 hf)
 clear hf
 refine ar fun K1 hK1 => ?_
 refine aw ?_
 refine aa rfl (bf rfl (by constructor)) ?_
 refine av ?_
 dsimp only [St.put]
 refine hK1 _ ?_
 refine ar fun K2 hK2 => ?_
 refine ar fun K3 hK3 => ?_
 refine aw ?_
 refine aa rfl (bf rfl (by constructor)) ?_
 refine av ?_
 dsimp only [St.put]
 refine hK3 _ ?_
 refine cb ?_
 refine dh 4 ?_
 refine zQ ?_
 refine du (G) zX ?_
 dsimp only
 refine dz (X := Nat) (fun k => k ≤ s.size ∧ (s.data.toList.take k).all okc = true) (fun k => s.size - k) (fun k => [(3, .v (.int .i64 (k : Int)))]) (fun k G' => G') 0 rfl ?_ ?_ (fun _ _ h => h) ?_ ?_ ?_
 ·exact ⟨by simp, by simp⟩
 ·exact zF
 ·rintro k hI
  exact zL
 ·exact fun _ _ _ _ h => .inl h
 ·rintro k hI
  dsimp only at hI ⊢
  refine ar fun K4 hK4 => ?_
  refine ar fun K5 hK5 => ?_
  refine aw ?_
  refine aa rfl (ba rfl (by constructor)) ?_
  refine aa rfl (ba rfl (by constructor)) ?_
  first | refine aa rfl (bj rfl rfl (List.length_map _)) ?_ | refine aa rfl (bj rfl rfl rfl) ?_ | refine aa rfl (f7 rfl rfl) ?_ | refine aa rfl (gd rfl rfl) ?_ | refine aa rfl (ga rfl rfl) ?_ | refine aa rfl (f9 rfl rfl (by omega)) ?_
  refine aa rfl (c5 rfl rfl rfl) ?_
  refine av ?_
  dsimp only [St.put]
  refine hK5 _ ?_
  refine bd rfl (fun hc => ?_) (fun hc => ?_)
  ·replace hc := of_decide_eq_true hc
   obtain ⟨b, hb⟩ : ∃ b, s.data.toList[k]? = some b := d8 (by simp; omega)
   refine bi ?_
   refine hK4 _ ?_
   refine ar fun K6 hK6 => ?_
   refine cb ?_
   refine ar fun K7 hK7 => ?_
   refine aw ?_
   refine aa rfl (ba rfl (by constructor)) ?_
   refine aa rfl (ba rfl (by constructor)) ?_
   first | refine aa rfl (udv rfl rfl rfl rfl (by assumption)) ?_ | refine aa rfl (n_index_arr rfl rfl rfl rfl rfl) ?_
   refine aa rfl (c5 rfl rfl rfl) ?_
   refine er (fun hs => ?_) (fun hs => ?_)
   ·try replace hs := of_decide_eq_true hs
    refine aa rfl (ba rfl (by constructor)) ?_
    refine j1 rfl ?_
    refine j1 rfl ?_
    refine j1 rfl ?_
    refine j1 rfl ?_
    first | refine aa rfl (cn rfl rfl (by constructor)) ?_ | refine aa rfl (cv rfl rfl (by constructor)) ?_ | refine aa rfl (nt rfl rfl rfl rfl) ?_ | refine aa rfl (nm rfl rfl rfl rfl) ?_
    refine av ?_
    dsimp only [St.put]
    refine hK7 _ ?_
    refine bd rfl (fun _ => ?_) (fun h => by cases h)
    refine ar fun K8 hK8 => ?_
    refine aw ?_
    refine aa rfl (bf rfl (by constructor)) ?_
    refine av ?_
    dsimp only [St.put]
    refine hK8 _ ?_
    refine bc ?_
    refine bx rfl (by constructor) zN zS ?_
    exact vb (by
     have : s.data.toList.all okc = false := kj hb (by simp [okc]; omega)
     simp [ko, this])
   ·try replace hs := of_decide_eq_false hs
    refine aa rfl (ba rfl (by constructor)) ?_
    refine aa rfl (ba rfl (by constructor)) ?_
    refine aa rfl (ba rfl (by constructor)) ?_
    first | refine aa rfl (udv rfl rfl rfl rfl (by assumption)) ?_ | refine aa rfl (n_index_arr rfl rfl rfl rfl rfl) ?_
    refine aa rfl (im rfl rfl rfl) ?_
    first | refine aa rfl (cn rfl rfl (by constructor)) ?_ | refine aa rfl (cv rfl rfl (by constructor)) ?_ | refine aa rfl (nt rfl rfl rfl rfl) ?_ | refine aa rfl (nm rfl rfl rfl rfl) ?_
    refine av ?_
    dsimp only [St.put]
    refine hK7 _ ?_
    refine bd rfl (fun hc => ?_) (fun hc => ?_)
    ·try replace hc := of_decide_eq_true hc
     refine ar fun K9 hK9 => ?_
     refine aw ?_
     refine aa rfl (bf rfl (by constructor)) ?_
     refine av ?_
     dsimp only [St.put]
     refine hK9 _ ?_
     refine bc ?_
     refine bx rfl (by constructor) zN zS ?_
     exact vb (by
      have : s.data.toList.all okc = false := kj hb (by simp [okc]; omega)
      simp [ko, this])
    ·try replace hc := of_decide_eq_false hc
     refine bi ?_
     refine hK6 _ ?_
     refine aw ?_
     refine aa rfl (ba rfl (by constructor)) ?_
     first | refine aa rfl (cm rfl rfl rfl (by omega)) ?_ | refine aa rfl (il rfl rfl rfl) ?_
     refine aa rfl (bf rfl (by constructor)) ?_
     refine av ?_
     dsimp only [St.put]
     exact ⟨k + 1, by omega, ⟨by omega, by rw [qz hb, hI.2]; simp [okc]; omega⟩, ⟨⟨rfl, rfl⟩, zF, zB, zN, zX⟩⟩
  ·try replace hc := of_decide_eq_false hc
   refine dq ?_
   refine hK2 _ ?_
   refine ar fun K10 hK10 => ?_
   refine aw ?_
   refine aa rfl (ba rfl (by constructor)) ?_
   first | refine aa rfl (bj rfl rfl (List.length_map _)) ?_ | refine aa rfl (bj rfl rfl rfl) ?_ | refine aa rfl (f7 rfl rfl) ?_ | refine aa rfl (gd rfl rfl) ?_ | refine aa rfl (ga rfl rfl) ?_ | refine aa rfl (f9 rfl rfl (by omega)) ?_
   try dsimp only [St.put]
   refine af rfl (bl rfl rfl rfl (pd _ _ _) ?_)
   refine aa rfl (bf rfl (by constructor)) ?_
   refine av ?_
   dsimp only [St.put]
   refine hK10 _ ?_
   refine bc ?_
   refine bx rfl (by constructor) zN zS ?_
   exact vb (by
    have h1 := hI.2
    rw [List.take_of_length_le (by simp; omega)] at h1
    simp [ko, h1])

end Go.Proofs.YtgffhbbcpgdjjaaGreatDoor
namespace Go.AB
open Go Go.RowKit
open Go.AB.Enc (cells)
open Go.PB (bg aj PlaceD bn bq bp)
/-- Data that are read as they are. -/
class FlatV (α : Type) [Enc α] where
 vals : α → List Value
 eq : ∀ x, cells x = (vals x).map C.v
theorem FlatV.agg {α : Type} [Enc α] [FlatV α] {E : Env} {w : World} {x : α} {v : Value} (h : R E w (.agg (cells x)) v) : v = .agg (FlatV.vals x).toArray := by
 rw [FlatV.eq] at h
 obtain ⟨vs, rfl, h1, _⟩ := h.agg_inv
 congr 2
 apply List.ext_getElem?
 intro j
 have hl := h1.1
 simp only [List.length_map] at hl
 by_cases hj : j < (FlatV.vals x).length
 ·have h2 := h1.2 j (.v (FlatV.vals x)[j]) vs[j] (by rw [List.getElem?_map, List.getElem?_eq_getElem hj]; rfl) (List.getElem?_eq_getElem (by omega))
  rw [List.getElem?_eq_getElem (by omega), List.getElem?_eq_getElem hj, h2.v_inv]
 ·rw [List.getElem?_eq_none (by omega), List.getElem?_eq_none (by omega)]
class EqT (P : Program) (t : TypeId) (α : Type) [Enc α] [FlatV α] [DecidableEq α] : Prop where
 guard : ∀ (op : BinOp) (w : World) (X Y : Operand) (xs ys : Array Value), (eqGuard op t X Y (.agg xs) (.agg ys)).run P w = .ok () w
 same : ∀ (w : World) (x y : α), (Op.equalIn 10000 t (.agg (FlatV.vals x).toArray) (.agg (FlatV.vals y).toArray)).run P w = .ok (decide (x = y)) w
section
variable {P : Program} {o : Oper} {st : St}
theorem ky {α : Type} [Enc α] [FlatV α] [DecidableEq α] {t t' : TypeId} [EqT P t α] {X Y : Operand} {x y : α} (ho : o.op = .binOp .eql t X Y t') (hx : evC st X = .agg (cells x)) (hy : evC st Y = .agg (cells y)) : NStep P o st (.v (.bool (decide (x = y)))) := fun E w a hs => by
 have e1 := (hx ▸ hs.ev X).agg_inv
 have e1 := FlatV.agg (hx ▸ hs.ev X)
 have e2 := FlatV.agg (hy ▸ hs.ev Y)
 refine ⟨_, .v rfl, fun w' => ?_⟩
 have hg := EqT.guard (P := P) (t := t) (α := α) .eql w' X Y (FlatV.vals x).toArray (FlatV.vals y).toArray
 have hq := EqT.same (P := P) (t := t) w' x y
 have hb : binOp .eql t (.agg (FlatV.vals x).toArray) (.agg (FlatV.vals y).toArray) = (do pure (.bool (← Op.equal t (.agg (FlatV.vals x).toArray) (.agg (FlatV.vals y).toArray))) : Sem Value) := rfl
 simp only [execOp, ho, e1, e2, Sem.run_bind, hg, Result.andThen_ok, hb, Op.equal, Op.maxDepth, hq]
 rfl
theorem rx {α : Type} [Enc α] [FlatV α] [DecidableEq α] {t t' : TypeId} [EqT P t α] {X Y : Operand} {x y : α} (ho : o.op = .binOp .neq t X Y t') (hx : evC st X = .agg (cells x)) (hy : evC st Y = .agg (cells y)) : NStep P o st (.v (.bool (!decide (x = y)))) := fun E w a hs => by
 have e1 := FlatV.agg (hx ▸ hs.ev X)
 have e2 := FlatV.agg (hy ▸ hs.ev Y)
 refine ⟨_, .v rfl, fun w' => ?_⟩
 have hg := EqT.guard (P := P) (t := t) (α := α) .neq w' X Y (FlatV.vals x).toArray (FlatV.vals y).toArray
 have hq := EqT.same (P := P) (t := t) w' x y
 have hb : binOp .neq t (.agg (FlatV.vals x).toArray) (.agg (FlatV.vals y).toArray) = (do pure (.bool (!(← Op.equal t (.agg (FlatV.vals x).toArray) (.agg (FlatV.vals y).toArray)))) : Sem Value) := rfl
 simp only [execOp, ho, e1, e2, Sem.run_bind, hg, Result.andThen_ok, hb, Op.equal, Op.maxDepth, hq]
 rfl
end
instance : FlatV PlaceD := ⟨fun x => [.int .i64 x.ch, .int .i64 x.ln, .int .i64 x.wd], fun _ => rfl⟩
end Go.AB

namespace Go.Proofs.YtgffhbbcpgdjjaaGreatDoor
open Go Go.RowKit Go.AB
open Go.AB.Enc (cells)
open Go.PB (bg aj PlaceD bn bq bp)
theorem uh1 : Tryz.prog.underlying 41 = some (.struct (Tryz.prog.fieldsOf 41)) := by kernel_rfl
theorem ui5 : Tryz.prog.stoodInHeld 41 = false := by kernel_rfl
instance : EqT Tryz.prog 41 PlaceD where
 guard op w x y xs ys := run_eqGuard_agg w op _ x y xs ys (by kernel_rfl)
 same w x y := by
  obtain ⟨a, b, c⟩ := x
  obtain ⟨a', b', c'⟩ := y
  simp only [FlatV.vals]
  rw [run_equalIn_agg _ _ _ _ _ uh1 ui5]
  by_cases h1 : a = a' <;> by_cases h2 : b = b' <;> by_cases h3 : c = c' <;> simp [go_sem, h1, h2, h3]
end Go.Proofs.YtgffhbbcpgdjjaaGreatDoor
namespace Go.Proofs.YtgffhbbcpgdjjaaGreatDoor
set_option maxRecDepth 10000
open Go.RowKit Go.AB
open Go.PB (bg aj PlaceD bn bq bp)



theorem up2 (t : aj) : Pure Tryz.prog 59 [gp t] (.v (.bool (n2 t))) := by
 refine di Tryz.func59 rfl (fun m => .v) fun G nx => ?_
 simp only [Tryz.ntmps59, List.length_cons, List.length_nil, Nat.reduceAdd, Nat.reduceSub]
 refine cp fun hlt => ?_
 dsimp only at hlt
 refine lf 0 (fun hf => ?_)
 replace hf := yp hf
 refine ar fun K1 hK1 => ?_
 refine aw ?_
 try dsimp only [St.put]
 refine af rfl (ip rfl rfl (by simp) ?_)
 refine aa rfl (bf rfl (by constructor)) ?_
 refine av ?_
 dsimp only [St.put]
 refine hK1 _ ?_
 refine ar fun K2 hK2 => ?_
 refine ar fun K3 hK3 => ?_
 refine aw ?_
 first | refine aa rfl (br rfl rfl rfl) ?_ | refine aa rfl (cr rfl rfl) ?_
 try dsimp only [St.put]
 first | refine ae rfl (bh rfl rfl) ?_ | refine ae rfl (aq rfl rfl (Enc.len _)) ?_ | refine ae rfl (aq rfl rfl rfl) ?_ | refine ae rfl (bz rfl rfl zG trivial (by first | rfl | assumption)) ?_ | refine ae rfl (ca rfl rfl zG trivial (by rfl)) ?_ | refine ae rfl (cg rfl rfl zG trivial (by simp)) ?_ | refine ae rfl (ax rfl rfl zG trivial (ci (by assumption) rfl)) ?_ | refine ae rfl (ax rfl rfl zG trivial (by assumption)) ?_ | refine ae rfl (cj rfl rfl zG trivial rfl (by assumption) rfl (by decide)) ?_ | refine ae rfl (cd rfl rfl zG (by rfl)) ?_
 first | refine aa rfl (bj rfl rfl (List.length_map _)) ?_ | refine aa rfl (bj rfl rfl rfl) ?_ | refine aa rfl (f7 rfl rfl) ?_ | refine aa rfl (gd rfl rfl) ?_ | refine aa rfl (ga rfl rfl) ?_ | refine aa rfl (f9 rfl rfl (by omega)) ?_
 refine aa rfl (im rfl rfl rfl) ?_
 refine av ?_
 dsimp only [St.put]
 refine hK3 _ ?_
 refine bd rfl (fun hc => ?_) (fun hc => ?_)
 ·skip
  refine ar fun K4 hK4 => ?_
  refine aw ?_
  refine aa rfl (bf rfl (by constructor)) ?_
  refine av ?_
  dsimp only [St.put]
  refine hK4 _ ?_
  refine bc ?_
  refine bx rfl (by constructor) zN zS ?_
  exact vb (by have := of_decide_eq_true (hc : decide _ = true); simp [n2]; omega)
 ·replace hc := of_decide_eq_false hc
  refine bi ?_
  refine hK2 _ ?_
  refine ar fun K5 hK5 => ?_
  refine ar fun K6 hK6 => ?_
  refine aw ?_
  refine aa rfl (bf rfl (by constructor)) ?_
  refine av ?_
  dsimp only [St.put]
  refine hK6 _ ?_
  refine cb ?_
  refine dh 6 ?_
  refine zQ ?_
  refine du (G) zX ?_
  dsimp only
  refine dz (X := Nat) (fun k => k ≤ t.length ∧ (t.take k).any o4 = false) (fun k => t.length - k) (fun k => [(3, .v (.int .i64 (k : Int))), (4, .any), (5, .any)]) (fun k G' => G') 0 rfl ?_ ?_ (fun _ _ h => h) ?_ ?_ ?_
  ·exact ⟨by simp, by simp⟩
  ·exact zF
  ·rintro k hI
   exact zL
  ·exact fun _ _ _ _ h => .inl h
  ·rintro k hI
   dsimp only at hI ⊢
   refine ar fun K7 hK7 => ?_
   refine ar fun K8 hK8 => ?_
   refine aw ?_
   refine aa rfl (ba rfl (by constructor)) ?_
   first | refine aa rfl (br rfl rfl rfl) ?_ | refine aa rfl (cr rfl rfl) ?_
   try dsimp only [St.put]
   first | refine ae rfl (bh rfl rfl) ?_ | refine ae rfl (aq rfl rfl (Enc.len _)) ?_ | refine ae rfl (aq rfl rfl rfl) ?_ | refine ae rfl (bz rfl rfl zG trivial (by first | rfl | assumption)) ?_ | refine ae rfl (ca rfl rfl zG trivial (by rfl)) ?_ | refine ae rfl (cg rfl rfl zG trivial (by simp)) ?_ | refine ae rfl (ax rfl rfl zG trivial (ci (by assumption) rfl)) ?_ | refine ae rfl (ax rfl rfl zG trivial (by assumption)) ?_ | refine ae rfl (cj rfl rfl zG trivial rfl (by assumption) rfl (by decide)) ?_ | refine ae rfl (cd rfl rfl zG (by rfl)) ?_
   first | refine aa rfl (bj rfl rfl (List.length_map _)) ?_ | refine aa rfl (bj rfl rfl rfl) ?_ | refine aa rfl (f7 rfl rfl) ?_ | refine aa rfl (gd rfl rfl) ?_ | refine aa rfl (ga rfl rfl) ?_ | refine aa rfl (f9 rfl rfl (by omega)) ?_
   refine aa rfl (c5 rfl rfl rfl) ?_
   refine av ?_
   dsimp only [St.put]
   refine hK8 _ ?_
   refine bd rfl (fun hc => ?_) (fun hc => ?_)
   ·replace hc := of_decide_eq_true hc
    obtain ⟨c, hx⟩ : ∃ x, t[k]? = some x := d8 (by omega)
    have hf1 := hf.lines c (g5 hx)
    have hf0 := hf.len
    refine bi ?_
    refine hK7 _ ?_
    refine ar fun K9 hK9 => ?_
    refine cb ?_
    refine ar fun K10 hK10 => ?_
    refine ar fun K11 hK11 => ?_
    refine aw ?_
    first | refine aa rfl (br rfl rfl rfl) ?_ | refine aa rfl (cr rfl rfl) ?_
    try dsimp only [St.put]
    first | refine ae rfl (bh rfl rfl) ?_ | refine ae rfl (aq rfl rfl (Enc.len _)) ?_ | refine ae rfl (aq rfl rfl rfl) ?_ | refine ae rfl (bz rfl rfl zG trivial (by first | rfl | assumption)) ?_ | refine ae rfl (ca rfl rfl zG trivial (by rfl)) ?_ | refine ae rfl (cg rfl rfl zG trivial (by simp)) ?_ | refine ae rfl (ax rfl rfl zG trivial (ci (by assumption) rfl)) ?_ | refine ae rfl (ax rfl rfl zG trivial (by assumption)) ?_ | refine ae rfl (cj rfl rfl zG trivial rfl (by assumption) rfl (by decide)) ?_ | refine ae rfl (cd rfl rfl zG (by rfl)) ?_
    refine aa rfl (ba rfl (by constructor)) ?_
    try dsimp only [St.put]
    first | refine aa rfl (bk rfl rfl rfl rfl (bu (by assumption)) (Enc.len _)) ?_ | refine aa rfl (bk rfl rfl rfl rfl (by assumption) rfl) ?_ | refine aa rfl (g4 rfl rfl rfl (by first | exact g6 _ | exact rfl) (by omega)) ?_ | refine aa rfl (bk rfl rfl rfl (by omega) (bu (by assumption)) (Enc.len _)) ?_
    first | refine aa rfl (br rfl rfl rfl) ?_ | refine aa rfl (cr rfl rfl) ?_
    try dsimp only [St.put]
    first | refine ae rfl (bh rfl rfl) ?_ | refine ae rfl (aq rfl rfl (Enc.len _)) ?_ | refine ae rfl (aq rfl rfl rfl) ?_ | refine ae rfl (bz rfl rfl zG trivial (by first | rfl | assumption)) ?_ | refine ae rfl (ca rfl rfl zG trivial (by rfl)) ?_ | refine ae rfl (cg rfl rfl zG trivial (by simp)) ?_ | refine ae rfl (ax rfl rfl zG trivial (ci (by assumption) rfl)) ?_ | refine ae rfl (ax rfl rfl zG trivial (by assumption)) ?_ | refine ae rfl (cj rfl rfl zG trivial rfl (by assumption) rfl (by decide)) ?_ | refine ae rfl (cd rfl rfl zG (by rfl)) ?_
    first | refine aa rfl (bj rfl rfl (List.length_map _)) ?_ | refine aa rfl (bj rfl rfl rfl) ?_ | refine aa rfl (f7 rfl rfl) ?_ | refine aa rfl (gd rfl rfl) ?_ | refine aa rfl (ga rfl rfl) ?_ | refine aa rfl (f9 rfl rfl (by omega)) ?_
    refine aa rfl (im rfl rfl rfl) ?_
    refine av ?_
    dsimp only [St.put]
    refine hK11 _ ?_
    refine bd rfl (fun hc => ?_) (fun hc => ?_)
    ·skip
     refine ar fun K12 hK12 => ?_
     refine aw ?_
     refine aa rfl (bf rfl (by constructor)) ?_
     refine av ?_
     dsimp only [St.put]
     refine hK12 _ ?_
     refine bc ?_
     refine bx rfl (by constructor) zN zS ?_
     exact vb (by have h0 := of_decide_eq_true (hc : decide _ = true); have := sr (p := o4) hx (by simp [o4]; omega); simp [n2, this])
    ·have h15 := of_decide_eq_false hc
     refine bi ?_
     refine hK10 _ ?_
     refine ar fun K13 hK13 => ?_
     refine aw ?_
     refine aa rfl (bf rfl (by constructor)) ?_
     refine av ?_
     dsimp only [St.put]
     refine hK13 _ ?_
     refine cb ?_
     refine dh 6 ?_
     refine zQ ?_
     refine du (G) zX ?_
     dsimp only
     refine dz (X := Nat) (fun n => n ≤ c.lines.length ∧ (c.lines.take n).any qr = false) (fun n => c.lines.length - n) (fun n => [(4, .v (.int .i64 (n : Int))), (5, .any)]) (fun n G' => G') 0 rfl ?_ ?_ (fun _ _ h => h) ?_ ?_ ?_
     ·exact ⟨by simp, by simp⟩
     ·exact zF
     ·rintro n hI
      exact zL
     ·exact fun _ _ _ _ h => .inl h
     ·rintro n hJ
      dsimp only at hJ ⊢
      refine ar fun K14 hK14 => ?_
      refine ar fun K15 hK15 => ?_
      refine aw ?_
      refine aa rfl (ba rfl (by constructor)) ?_
      first | refine aa rfl (br rfl rfl rfl) ?_ | refine aa rfl (cr rfl rfl) ?_
      try dsimp only [St.put]
      first | refine ae rfl (bh rfl rfl) ?_ | refine ae rfl (aq rfl rfl (Enc.len _)) ?_ | refine ae rfl (aq rfl rfl rfl) ?_ | refine ae rfl (bz rfl rfl zG trivial (by first | rfl | assumption)) ?_ | refine ae rfl (ca rfl rfl zG trivial (by rfl)) ?_ | refine ae rfl (cg rfl rfl zG trivial (by simp)) ?_ | refine ae rfl (ax rfl rfl zG trivial (ci (by assumption) rfl)) ?_ | refine ae rfl (ax rfl rfl zG trivial (by assumption)) ?_ | refine ae rfl (cj rfl rfl zG trivial rfl (by assumption) rfl (by decide)) ?_ | refine ae rfl (cd rfl rfl zG (by rfl)) ?_
      refine aa rfl (ba rfl (by constructor)) ?_
      try dsimp only [St.put]
      first | refine aa rfl (bk rfl rfl rfl rfl (bu (by assumption)) (Enc.len _)) ?_ | refine aa rfl (bk rfl rfl rfl rfl (by assumption) rfl) ?_ | refine aa rfl (g4 rfl rfl rfl (by first | exact g6 _ | exact rfl) (by omega)) ?_ | refine aa rfl (bk rfl rfl rfl (by omega) (bu (by assumption)) (Enc.len _)) ?_
      first | refine aa rfl (br rfl rfl rfl) ?_ | refine aa rfl (cr rfl rfl) ?_
      try dsimp only [St.put]
      first | refine ae rfl (bh rfl rfl) ?_ | refine ae rfl (aq rfl rfl (Enc.len _)) ?_ | refine ae rfl (aq rfl rfl rfl) ?_ | refine ae rfl (bz rfl rfl zG trivial (by first | rfl | assumption)) ?_ | refine ae rfl (ca rfl rfl zG trivial (by rfl)) ?_ | refine ae rfl (cg rfl rfl zG trivial (by simp)) ?_ | refine ae rfl (ax rfl rfl zG trivial (ci (by assumption) rfl)) ?_ | refine ae rfl (ax rfl rfl zG trivial (by assumption)) ?_ | refine ae rfl (cj rfl rfl zG trivial rfl (by assumption) rfl (by decide)) ?_ | refine ae rfl (cd rfl rfl zG (by rfl)) ?_
      first | refine aa rfl (bj rfl rfl (List.length_map _)) ?_ | refine aa rfl (bj rfl rfl rfl) ?_ | refine aa rfl (f7 rfl rfl) ?_ | refine aa rfl (gd rfl rfl) ?_ | refine aa rfl (ga rfl rfl) ?_ | refine aa rfl (f9 rfl rfl (by omega)) ?_
      refine aa rfl (c5 rfl rfl rfl) ?_
      refine av ?_
      dsimp only [St.put]
      refine hK15 _ ?_
      refine bd rfl (fun hc => ?_) (fun hc => ?_)
      ·replace hc := of_decide_eq_true hc
       obtain ⟨l, hl⟩ : ∃ x, c.lines[n]? = some x := d8 (by omega)
       have hf3 := hf.words c (g5 hx) l (g5 hl)
       refine bi ?_
       refine hK14 _ ?_
       refine ar fun K16 hK16 => ?_
       refine cb ?_
       refine ar fun K17 hK17 => ?_
       refine ar fun K18 hK18 => ?_
       refine aw ?_
       first | refine aa rfl (br rfl rfl rfl) ?_ | refine aa rfl (cr rfl rfl) ?_
       try dsimp only [St.put]
       first | refine ae rfl (bh rfl rfl) ?_ | refine ae rfl (aq rfl rfl (Enc.len _)) ?_ | refine ae rfl (aq rfl rfl rfl) ?_ | refine ae rfl (bz rfl rfl zG trivial (by first | rfl | assumption)) ?_ | refine ae rfl (ca rfl rfl zG trivial (by rfl)) ?_ | refine ae rfl (cg rfl rfl zG trivial (by simp)) ?_ | refine ae rfl (ax rfl rfl zG trivial (ci (by assumption) rfl)) ?_ | refine ae rfl (ax rfl rfl zG trivial (by assumption)) ?_ | refine ae rfl (cj rfl rfl zG trivial rfl (by assumption) rfl (by decide)) ?_ | refine ae rfl (cd rfl rfl zG (by rfl)) ?_
       refine aa rfl (ba rfl (by constructor)) ?_
       try dsimp only [St.put]
       first | refine aa rfl (bk rfl rfl rfl rfl (bu (by assumption)) (Enc.len _)) ?_ | refine aa rfl (bk rfl rfl rfl rfl (by assumption) rfl) ?_ | refine aa rfl (g4 rfl rfl rfl (by first | exact g6 _ | exact rfl) (by omega)) ?_ | refine aa rfl (bk rfl rfl rfl (by omega) (bu (by assumption)) (Enc.len _)) ?_
       first | refine aa rfl (br rfl rfl rfl) ?_ | refine aa rfl (cr rfl rfl) ?_
       try dsimp only [St.put]
       first | refine ae rfl (bh rfl rfl) ?_ | refine ae rfl (aq rfl rfl (Enc.len _)) ?_ | refine ae rfl (aq rfl rfl rfl) ?_ | refine ae rfl (bz rfl rfl zG trivial (by first | rfl | assumption)) ?_ | refine ae rfl (ca rfl rfl zG trivial (by rfl)) ?_ | refine ae rfl (cg rfl rfl zG trivial (by simp)) ?_ | refine ae rfl (ax rfl rfl zG trivial (ci (by assumption) rfl)) ?_ | refine ae rfl (ax rfl rfl zG trivial (by assumption)) ?_ | refine ae rfl (cj rfl rfl zG trivial rfl (by assumption) rfl (by decide)) ?_ | refine ae rfl (cd rfl rfl zG (by rfl)) ?_
       refine aa rfl (ba rfl (by constructor)) ?_
       try dsimp only [St.put]
       first | refine aa rfl (bk rfl rfl rfl rfl (bu (by assumption)) (Enc.len _)) ?_ | refine aa rfl (bk rfl rfl rfl rfl (by assumption) rfl) ?_ | refine aa rfl (g4 rfl rfl rfl (by first | exact g6 _ | exact rfl) (by omega)) ?_ | refine aa rfl (bk rfl rfl rfl (by omega) (bu (by assumption)) (Enc.len _)) ?_
       try dsimp only [St.put]
       first | refine ae rfl (bh rfl rfl) ?_ | refine ae rfl (aq rfl rfl (Enc.len _)) ?_ | refine ae rfl (aq rfl rfl rfl) ?_ | refine ae rfl (bz rfl rfl zG trivial (by first | rfl | assumption)) ?_ | refine ae rfl (ca rfl rfl zG trivial (by rfl)) ?_ | refine ae rfl (cg rfl rfl zG trivial (by simp)) ?_ | refine ae rfl (ax rfl rfl zG trivial (ci (by assumption) rfl)) ?_ | refine ae rfl (ax rfl rfl zG trivial (by assumption)) ?_ | refine ae rfl (cj rfl rfl zG trivial rfl (by assumption) rfl (by decide)) ?_ | refine ae rfl (cd rfl rfl zG (by rfl)) ?_
       first | refine aa rfl (bj rfl rfl (List.length_map _)) ?_ | refine aa rfl (bj rfl rfl rfl) ?_ | refine aa rfl (f7 rfl rfl) ?_ | refine aa rfl (gd rfl rfl) ?_ | refine aa rfl (ga rfl rfl) ?_ | refine aa rfl (f9 rfl rfl (by omega)) ?_
       refine aa rfl (im rfl rfl rfl) ?_
       refine av ?_
       dsimp only [St.put]
       refine hK18 _ ?_
       refine bd rfl (fun hc => ?_) (fun hc => ?_)
       ·skip
        refine ar fun K19 hK19 => ?_
        refine aw ?_
        refine aa rfl (bf rfl (by constructor)) ?_
        refine av ?_
        dsimp only [St.put]
        refine hK19 _ ?_
        refine bc ?_
        refine bx rfl (by constructor) zN zS ?_
        exact vb (by have h0 := of_decide_eq_true (hc : decide _ = true); have h1 := sr (p := qr) hl (by simp [qr]; omega); have := sr (p := o4) hx (by simp [o4, h1]); simp [n2, this])
       ·have h16 := of_decide_eq_false hc
        refine bi ?_
        refine hK17 _ ?_
        refine ar fun K20 hK20 => ?_
        refine aw ?_
        refine aa rfl (bf rfl (by constructor)) ?_
        refine av ?_
        dsimp only [St.put]
        refine hK20 _ ?_
        refine cb ?_
        refine dh 6 ?_
        refine zQ ?_
        refine du (G) zX ?_
        dsimp only
        refine dz (X := Nat) (fun m => m ≤ l.length ∧ (l.take m).any (fun s => decide (40 < s.size)) = false) (fun m => l.length - m) (fun m => [(5, .v (.int .i64 (m : Int)))]) (fun m G' => G') 0 rfl ?_ ?_ (fun _ _ h => h) ?_ ?_ ?_
        ·exact ⟨by simp, by simp⟩
        ·exact zF
        ·rintro m hI
         exact zL
        ·exact fun _ _ _ _ h => .inl h
        ·rintro m hL
         dsimp only at hL ⊢
         refine ar fun K21 hK21 => ?_
         refine ar fun K22 hK22 => ?_
         refine aw ?_
         refine aa rfl (ba rfl (by constructor)) ?_
         first | refine aa rfl (br rfl rfl rfl) ?_ | refine aa rfl (cr rfl rfl) ?_
         try dsimp only [St.put]
         first | refine ae rfl (bh rfl rfl) ?_ | refine ae rfl (aq rfl rfl (Enc.len _)) ?_ | refine ae rfl (aq rfl rfl rfl) ?_ | refine ae rfl (bz rfl rfl zG trivial (by first | rfl | assumption)) ?_ | refine ae rfl (ca rfl rfl zG trivial (by rfl)) ?_ | refine ae rfl (cg rfl rfl zG trivial (by simp)) ?_ | refine ae rfl (ax rfl rfl zG trivial (ci (by assumption) rfl)) ?_ | refine ae rfl (ax rfl rfl zG trivial (by assumption)) ?_ | refine ae rfl (cj rfl rfl zG trivial rfl (by assumption) rfl (by decide)) ?_ | refine ae rfl (cd rfl rfl zG (by rfl)) ?_
         refine aa rfl (ba rfl (by constructor)) ?_
         try dsimp only [St.put]
         first | refine aa rfl (bk rfl rfl rfl rfl (bu (by assumption)) (Enc.len _)) ?_ | refine aa rfl (bk rfl rfl rfl rfl (by assumption) rfl) ?_ | refine aa rfl (g4 rfl rfl rfl (by first | exact g6 _ | exact rfl) (by omega)) ?_ | refine aa rfl (bk rfl rfl rfl (by omega) (bu (by assumption)) (Enc.len _)) ?_
         first | refine aa rfl (br rfl rfl rfl) ?_ | refine aa rfl (cr rfl rfl) ?_
         try dsimp only [St.put]
         first | refine ae rfl (bh rfl rfl) ?_ | refine ae rfl (aq rfl rfl (Enc.len _)) ?_ | refine ae rfl (aq rfl rfl rfl) ?_ | refine ae rfl (bz rfl rfl zG trivial (by first | rfl | assumption)) ?_ | refine ae rfl (ca rfl rfl zG trivial (by rfl)) ?_ | refine ae rfl (cg rfl rfl zG trivial (by simp)) ?_ | refine ae rfl (ax rfl rfl zG trivial (ci (by assumption) rfl)) ?_ | refine ae rfl (ax rfl rfl zG trivial (by assumption)) ?_ | refine ae rfl (cj rfl rfl zG trivial rfl (by assumption) rfl (by decide)) ?_ | refine ae rfl (cd rfl rfl zG (by rfl)) ?_
         refine aa rfl (ba rfl (by constructor)) ?_
         try dsimp only [St.put]
         first | refine aa rfl (bk rfl rfl rfl rfl (bu (by assumption)) (Enc.len _)) ?_ | refine aa rfl (bk rfl rfl rfl rfl (by assumption) rfl) ?_ | refine aa rfl (g4 rfl rfl rfl (by first | exact g6 _ | exact rfl) (by omega)) ?_ | refine aa rfl (bk rfl rfl rfl (by omega) (bu (by assumption)) (Enc.len _)) ?_
         try dsimp only [St.put]
         first | refine ae rfl (bh rfl rfl) ?_ | refine ae rfl (aq rfl rfl (Enc.len _)) ?_ | refine ae rfl (aq rfl rfl rfl) ?_ | refine ae rfl (bz rfl rfl zG trivial (by first | rfl | assumption)) ?_ | refine ae rfl (ca rfl rfl zG trivial (by rfl)) ?_ | refine ae rfl (cg rfl rfl zG trivial (by simp)) ?_ | refine ae rfl (ax rfl rfl zG trivial (ci (by assumption) rfl)) ?_ | refine ae rfl (ax rfl rfl zG trivial (by assumption)) ?_ | refine ae rfl (cj rfl rfl zG trivial rfl (by assumption) rfl (by decide)) ?_ | refine ae rfl (cd rfl rfl zG (by rfl)) ?_
         first | refine aa rfl (bj rfl rfl (List.length_map _)) ?_ | refine aa rfl (bj rfl rfl rfl) ?_ | refine aa rfl (f7 rfl rfl) ?_ | refine aa rfl (gd rfl rfl) ?_ | refine aa rfl (ga rfl rfl) ?_ | refine aa rfl (f9 rfl rfl (by omega)) ?_
         refine aa rfl (c5 rfl rfl rfl) ?_
         refine av ?_
         dsimp only [St.put]
         refine hK22 _ ?_
         refine bd rfl (fun hc => ?_) (fun hc => ?_)
         ·replace hc := of_decide_eq_true hc
          obtain ⟨s, hs⟩ : ∃ x, l[m]? = some x := d8 (by omega)
          refine bi ?_
          refine hK21 _ ?_
          refine ar fun K23 hK23 => ?_
          refine cb ?_
          refine ar fun K24 hK24 => ?_
          refine aw ?_
          first | refine aa rfl (br rfl rfl rfl) ?_ | refine aa rfl (cr rfl rfl) ?_
          try dsimp only [St.put]
          first | refine ae rfl (bh rfl rfl) ?_ | refine ae rfl (aq rfl rfl (Enc.len _)) ?_ | refine ae rfl (aq rfl rfl rfl) ?_ | refine ae rfl (bz rfl rfl zG trivial (by first | rfl | assumption)) ?_ | refine ae rfl (ca rfl rfl zG trivial (by rfl)) ?_ | refine ae rfl (cg rfl rfl zG trivial (by simp)) ?_ | refine ae rfl (ax rfl rfl zG trivial (ci (by assumption) rfl)) ?_ | refine ae rfl (ax rfl rfl zG trivial (by assumption)) ?_ | refine ae rfl (cj rfl rfl zG trivial rfl (by assumption) rfl (by decide)) ?_ | refine ae rfl (cd rfl rfl zG (by rfl)) ?_
          refine aa rfl (ba rfl (by constructor)) ?_
          try dsimp only [St.put]
          first | refine aa rfl (bk rfl rfl rfl rfl (bu (by assumption)) (Enc.len _)) ?_ | refine aa rfl (bk rfl rfl rfl rfl (by assumption) rfl) ?_ | refine aa rfl (g4 rfl rfl rfl (by first | exact g6 _ | exact rfl) (by omega)) ?_ | refine aa rfl (bk rfl rfl rfl (by omega) (bu (by assumption)) (Enc.len _)) ?_
          first | refine aa rfl (br rfl rfl rfl) ?_ | refine aa rfl (cr rfl rfl) ?_
          try dsimp only [St.put]
          first | refine ae rfl (bh rfl rfl) ?_ | refine ae rfl (aq rfl rfl (Enc.len _)) ?_ | refine ae rfl (aq rfl rfl rfl) ?_ | refine ae rfl (bz rfl rfl zG trivial (by first | rfl | assumption)) ?_ | refine ae rfl (ca rfl rfl zG trivial (by rfl)) ?_ | refine ae rfl (cg rfl rfl zG trivial (by simp)) ?_ | refine ae rfl (ax rfl rfl zG trivial (ci (by assumption) rfl)) ?_ | refine ae rfl (ax rfl rfl zG trivial (by assumption)) ?_ | refine ae rfl (cj rfl rfl zG trivial rfl (by assumption) rfl (by decide)) ?_ | refine ae rfl (cd rfl rfl zG (by rfl)) ?_
          refine aa rfl (ba rfl (by constructor)) ?_
          try dsimp only [St.put]
          first | refine aa rfl (bk rfl rfl rfl rfl (bu (by assumption)) (Enc.len _)) ?_ | refine aa rfl (bk rfl rfl rfl rfl (by assumption) rfl) ?_ | refine aa rfl (g4 rfl rfl rfl (by first | exact g6 _ | exact rfl) (by omega)) ?_ | refine aa rfl (bk rfl rfl rfl (by omega) (bu (by assumption)) (Enc.len _)) ?_
          try dsimp only [St.put]
          first | refine ae rfl (bh rfl rfl) ?_ | refine ae rfl (aq rfl rfl (Enc.len _)) ?_ | refine ae rfl (aq rfl rfl rfl) ?_ | refine ae rfl (bz rfl rfl zG trivial (by first | rfl | assumption)) ?_ | refine ae rfl (ca rfl rfl zG trivial (by rfl)) ?_ | refine ae rfl (cg rfl rfl zG trivial (by simp)) ?_ | refine ae rfl (ax rfl rfl zG trivial (ci (by assumption) rfl)) ?_ | refine ae rfl (ax rfl rfl zG trivial (by assumption)) ?_ | refine ae rfl (cj rfl rfl zG trivial rfl (by assumption) rfl (by decide)) ?_ | refine ae rfl (cd rfl rfl zG (by rfl)) ?_
          refine aa rfl (ba rfl (by constructor)) ?_
          try dsimp only [St.put]
          first | refine aa rfl (bk rfl rfl rfl rfl (bu (by assumption)) (Enc.len _)) ?_ | refine aa rfl (bk rfl rfl rfl rfl (by assumption) rfl) ?_ | refine aa rfl (g4 rfl rfl rfl (by first | exact g6 _ | exact rfl) (by omega)) ?_ | refine aa rfl (bk rfl rfl rfl (by omega) (bu (by assumption)) (Enc.len _)) ?_
          try dsimp only [St.put]
          first | refine ae rfl (bh rfl rfl) ?_ | refine ae rfl (aq rfl rfl (Enc.len _)) ?_ | refine ae rfl (aq rfl rfl rfl) ?_ | refine ae rfl (bz rfl rfl zG trivial (by first | rfl | assumption)) ?_ | refine ae rfl (ca rfl rfl zG trivial (by rfl)) ?_ | refine ae rfl (cg rfl rfl zG trivial (by simp)) ?_ | refine ae rfl (ax rfl rfl zG trivial (ci (by assumption) rfl)) ?_ | refine ae rfl (ax rfl rfl zG trivial (by assumption)) ?_ | refine ae rfl (cj rfl rfl zG trivial rfl (by assumption) rfl (by decide)) ?_ | refine ae rfl (cd rfl rfl zG (by rfl)) ?_
          first | refine aa rfl (bj rfl rfl (List.length_map _)) ?_ | refine aa rfl (bj rfl rfl rfl) ?_ | refine aa rfl (f7 rfl rfl) ?_ | refine aa rfl (gd rfl rfl) ?_ | refine aa rfl (ga rfl rfl) ?_ | refine aa rfl (f9 rfl rfl (by omega)) ?_
          refine aa rfl (im rfl rfl rfl) ?_
          refine av ?_
          dsimp only [St.put]
          refine hK24 _ ?_
          refine bd rfl (fun hc => ?_) (fun hc => ?_)
          ·skip
           refine ar fun K25 hK25 => ?_
           refine aw ?_
           refine aa rfl (bf rfl (by constructor)) ?_
           refine av ?_
           dsimp only [St.put]
           refine hK25 _ ?_
           refine bc ?_
           refine bx rfl (by constructor) zN zS ?_
           exact vb (by have h0 := of_decide_eq_true (hc : decide _ = true); have h2 : l.any (fun s => decide (40 < s.size)) = true := sr hs (by simp; omega); have h1 := sr (p := qr) hl (by simp [qr, h2]); have := sr (p := o4) hx (by simp [o4, h1]); simp [n2, this])
          ·skip
           refine bi ?_
           refine hK23 _ ?_
           refine aw ?_
           refine aa rfl (ba rfl (by constructor)) ?_
           first | refine aa rfl (cm rfl rfl rfl (by omega)) ?_ | refine aa rfl (il rfl rfl rfl) ?_
           refine aa rfl (bf rfl (by constructor)) ?_
           refine av ?_
           dsimp only [St.put]
           exact ⟨m + 1, by omega, ⟨by omega, by rw [x9 hs, hL.2]; have := of_decide_eq_false hc; simp; omega⟩, ⟨⟨rfl, rfl⟩, zF, zB, zN, zX⟩⟩
         ·try replace hc := of_decide_eq_false hc
          refine dq ?_
          refine hK16 _ ?_
          refine aw ?_
          refine aa rfl (ba rfl (by constructor)) ?_
          first | refine aa rfl (cm rfl rfl rfl (by omega)) ?_ | refine aa rfl (il rfl rfl rfl) ?_
          refine aa rfl (bf rfl (by constructor)) ?_
          refine av ?_
          dsimp only [St.put]
          exact ⟨n + 1, by omega, ⟨by omega, by rw [x9 hl, hJ.2]; have h1 := hL.2; rw [g9 (by omega)] at h1; simp [qr, h1]; omega⟩, ⟨⟨rfl, rfl⟩, zF, zB, zN, zX⟩⟩
      ·try replace hc := of_decide_eq_false hc
       refine dq ?_
       refine hK9 _ ?_
       refine aw ?_
       refine aa rfl (ba rfl (by constructor)) ?_
       first | refine aa rfl (cm rfl rfl rfl (by omega)) ?_ | refine aa rfl (il rfl rfl rfl) ?_
       refine aa rfl (bf rfl (by constructor)) ?_
       refine av ?_
       dsimp only [St.put]
       exact ⟨k + 1, by omega, ⟨by omega, by rw [x9 hx, hI.2]; have h1 := hJ.2; rw [g9 (by omega)] at h1; simp [o4, h1]; omega⟩, ⟨⟨rfl, rfl⟩, zF, zB, zN, zX⟩⟩
   ·try replace hc := of_decide_eq_false hc
    refine dq ?_
    refine hK5 _ ?_
    refine ar fun K26 hK26 => ?_
    refine aw ?_
    refine aa rfl (bf rfl (by constructor)) ?_
    refine av ?_
    dsimp only [St.put]
    refine hK26 _ ?_
    refine bc ?_
    refine bx rfl (by constructor) zN zS ?_
    exact vb (by have h1 := hI.2; rw [g9 (by omega)] at h1; simp [n2, h1]; omega)
structure Small (t : aj) : Prop where
 len : t.length ≤ 10
 lines : ∀ c ∈ t, c.lines.length ≤ 15
 words : ∀ c ∈ t, ∀ l ∈ c.lines, l.length ≤ 15
 size : ∀ c ∈ t, ∀ l ∈ c.lines, ∀ s ∈ l, s.size ≤ 40
end Go.Proofs.YtgffhbbcpgdjjaaGreatDoor
namespace Go.Proofs.YtgffhbbcpgdjjaaGreatDoor
set_option maxRecDepth 10000
open Go.RowKit Go.AB
open Go.PB (bg aj PlaceD bn bq bp)

end Go.Proofs.YtgffhbbcpgdjjaaGreatDoor
namespace Go.Proofs.YtgffhbbcpgdjjaaGreatDoor
set_option maxRecDepth 10000
open Go.RowKit Go.AB
open Go.PB (bg aj PlaceD bn bq bp)

theorem upw (t : aj) : Pure Tryz.prog 78 [gp t] (.v (.bool (c7 t))) := by
 refine di Tryz.func78 rfl (fun m => .v) fun G nx => ?_
 simp only [Tryz.ntmps78, List.length_cons, List.length_nil, Nat.reduceAdd, Nat.reduceSub]
 refine cp fun hlt => ?_
 dsimp only at hlt
 refine lf 0 (fun hf => ?_)
 replace hf := yp hf
 have hf0 := hf.len
 refine yS fun _ K1 => ?_
 refine yR ?_
 try dsimp only [St.put]
 refine yB rfl rfl rfl ?_
 refine yA rfl rfl ?_
 refine yN ?_
 dsimp only [St.put]
 refine K1 _ ?_
 refine yS fun _ K2 => ?_
 refine yS fun _ K3 => ?_
 refine yR ?_
 refine yF rfl rfl rfl rfl ?_
 refine yL rfl rfl rfl ?_
 refine aa rfl (bj rfl rfl (List.length_map _)) ?_
 try dsimp only [St.put]
 refine af rfl (bl rfl rfl rfl (pd _ _ _) ?_)
 refine aa rfl (ei rfl rfl) ?_
 refine yN ?_
 dsimp only [St.put]
 refine K3 _ ?_
 refine bd rfl (fun hc => ?_) (fun hc => ?_)
 ·try replace hc := of_decide_eq_true hc
  refine yS fun _ K4 => ?_
  refine yR ?_
  refine yA rfl rfl ?_
  refine yN ?_
  dsimp only [St.put]
  refine K4 _ ?_
  refine bc ?_
  refine bx rfl (by constructor) zN zS ?_
  exact vb (by simp at hc; simp [c7, hc])
 have hc0 : inB t.length 1 6 = true := by simpa using hc
 clear hc
 refine bi ?_
 refine K2 _ ?_
 refine yS fun _ K5 => ?_
 refine yS fun _ K6 => ?_
 refine yR ?_
 refine yA rfl rfl ?_
 refine yN ?_
 dsimp only [St.put]
 refine K6 _ ?_
 refine cb ?_
 refine dh 8 ?_
 refine zQ ?_
 refine du (G) zX ?_
 dsimp only
 refine dz (X := Nat) (fun i => i ≤ t.length ∧ (t.take i).all jl = true ∧ ((t.take i).map (·.id)).Nodup) (fun i => t.length - i) (fun i => [(3, .v (.int .i64 (i : Int))), (4, .any), (5, .any), (6, .any), (7, .any)]) (fun i G' => G') 0 rfl ?_ ?_ (fun _ _ h => h) ?_ ?_ ?_
 ·exact ⟨by simp, by simp, by simp⟩
 ·exact zF
 ·rintro i hI
  exact zL
 ·exact fun _ _ _ _ h => .inl h
 rintro i hI
 dsimp only at hI ⊢
 refine yS fun _ K7 => ?_
 refine yS fun _ K8 => ?_
 refine yR ?_
 refine yM rfl rfl ?_
 refine yF rfl rfl rfl rfl ?_
 refine yL rfl rfl rfl ?_
 refine aa rfl (bj rfl rfl (List.length_map _)) ?_
 refine aa rfl (c5 rfl rfl rfl) ?_
 refine yN ?_
 dsimp only [St.put]
 refine K8 _ ?_
 refine bd rfl (fun hc => ?_) (fun hc => ?_)
 ·replace hc := of_decide_eq_true hc
  obtain ⟨c, hx⟩ : ∃ x, t[i]? = some x := d8 (by omega)
  have hf1 := hf.lines c (g5 hx)
  refine bi ?_
  refine K7 _ ?_
  refine yS fun _ K9 => ?_
  refine cb ?_
  refine yS fun _ K10 => ?_
  refine yR ?_
  refine yF rfl rfl rfl rfl ?_
  refine yL rfl rfl rfl ?_
  refine yM rfl rfl ?_
  refine aa rfl (bk rfl rfl rfl rfl (bu (by assumption)) (Enc.len _)) ?_
  refine yE rfl rfl rfl ?_
  try dsimp only [St.put]
  refine af rfl (dt rfl ?_)
  try dsimp only [St.put]
  refine af rfl (da rfl rfl rfl zG rfl rfl (by rfl) ?_)
  refine yN ?_
  dsimp only [St.put]
  refine K10 _ ?_
  refine gl (i := 4) rfl zG zC ?_
  dsimp only
  refine yS fun _ K11 => ?_
  refine yS fun _ K12 => ?_
  refine yR ?_
  refine yF rfl rfl rfl rfl ?_
  refine yL rfl rfl rfl ?_
  try dsimp only [St.put]
  refine af rfl (bl rfl rfl rfl (pd _ _ _) ?_)
  refine aa rfl (ei rfl rfl) ?_
  refine yM rfl rfl ?_
  refine er (fun hs => ?_) (fun hs => ?_)
  ·try replace hs := of_decide_eq_true hs
   refine yK rfl ?_
   refine yK rfl ?_
   refine yK rfl ?_
   refine yK rfl ?_
   refine yK rfl ?_
   refine aa rfl (cn rfl rfl (by constructor)) ?_
   refine yN ?_
   dsimp only [St.put]
   refine K12 _ ?_
   refine bd rfl (fun _ => ?_) (fun h => by cases h)
   skip
   refine yS fun _ K13 => ?_
   refine yR ?_
   refine yA rfl rfl ?_
   refine yN ?_
   dsimp only [St.put]
   refine K13 _ ?_
   refine bc ?_
   refine bx rfl (by constructor) zN zS ?_
   exact vb (by
    have : t.all jl = false := kj hx (by simp_all [jl])
    simp [c7, this])
  try replace hs := of_decide_eq_false hs
  refine yF rfl rfl rfl rfl ?_
  refine yL rfl rfl rfl ?_
  refine aa rfl (bj rfl rfl (List.length_map _)) ?_
  try dsimp only [St.put]
  refine af rfl (bl rfl rfl rfl (pd _ _ _) ?_)
  refine aa rfl (ei rfl rfl) ?_
  refine aa rfl (cv rfl rfl (by constructor)) ?_
  refine yN ?_
  dsimp only [St.put]
  refine K12 _ ?_
  refine bd rfl (fun hc => ?_) (fun hc => ?_)
  ·skip
   refine yS fun _ K14 => ?_
   refine yR ?_
   refine yA rfl rfl ?_
   refine yN ?_
   dsimp only [St.put]
   refine K14 _ ?_
   refine bc ?_
   refine bx rfl (by constructor) zN zS ?_
   exact vb (by
    have : t.all jl = false := kj hx (by simp_all [jl])
    simp [c7, this])
  have hid : inB c.id 0 9999 = true := by simpa using hs
  have hln : inB c.lines.length 1 10 = true := by simpa using hc
  refine bi ?_
  refine K11 _ ?_
  refine yS fun _ K15 => ?_
  refine yS fun _ K16 => ?_
  refine yR ?_
  refine yA rfl rfl ?_
  refine yN ?_
  dsimp only [St.put]
  refine K16 _ ?_
  refine cb ?_
  refine dh 8 ?_
  refine zQ ?_
  refine du (G) zX ?_
  dsimp only
  refine dz (X := Nat) (fun k => k ≤ i ∧ ((t.take i).take k).any (fun d => decide (d.id = c.id)) = false) (fun k => i - k) (fun k => [(5, .v (.int .i64 (k : Int))), (6, .any), (7, .any)]) (fun k G' => G') 0 rfl ?_ ?_ (fun _ _ h => h) ?_ ?_ ?_
  ·exact ⟨by simp, by simp⟩
  ·exact zF
  ·rintro k hI
   exact zL
  ·exact fun _ _ _ _ h => .inl h
  rintro k hJ
  dsimp only at hJ ⊢
  refine yS fun _ K17 => ?_
  refine yS fun _ K18 => ?_
  refine yR ?_
  refine yM rfl rfl ?_
  refine yM rfl rfl ?_
  refine aa rfl (c5 rfl rfl rfl) ?_
  refine yN ?_
  dsimp only [St.put]
  refine K18 _ ?_
  refine bd rfl (fun hc => ?_) (fun hc => ?_)
  ·replace hc := of_decide_eq_true hc
   obtain ⟨d, hd0⟩ : ∃ x, t[k]? = some x := d8 (by omega)
   have hd : (t.take i)[k]? = some d := by rw [List.getElem?_take, if_pos (by omega)]; exact hd0
   refine bi ?_
   refine K17 _ ?_
   refine yS fun _ K19 => ?_
   refine cb ?_
   refine yS fun _ K20 => ?_
   refine g8 [(0, none), (1, none), (2, none), (3, none), (4, none), (5, none), (6, none), (7, none), (8, none)] (fun i => [].contains i) (fun i => [].contains i) (fun i => [0, 2, 3, 4, 6, 8].contains i) [] (by kernel_rfl) (by kernel_rfl) ?_
   refine ah rfl rfl rfl rfl (br rfl rfl rfl) ?_
   try dsimp only [St.put]
   refine ai rfl rfl rfl rfl (bh rfl rfl) ?_
   refine xM rfl rfl rfl rfl rfl ?_
   try dsimp only [St.put]
   refine ah rfl rfl rfl rfl (bk rfl rfl rfl rfl (bu (by assumption)) (Enc.len _)) ?_
   refine ah rfl rfl rfl rfl (br rfl rfl rfl) ?_
   try dsimp only [St.put]
   refine ai rfl rfl rfl rfl (bh rfl rfl) ?_
   refine ah rfl rfl rfl rfl (br rfl rfl rfl) ?_
   try dsimp only [St.put]
   refine ai rfl rfl rfl rfl (bh rfl rfl) ?_
   refine ah rfl rfl rfl rfl (f3 rfl rfl rfl) ?_
   refine cz ?_
   dsimp only [St.put]
   refine K20 _ ?_
   refine bd rfl (fun hc => ?_) (fun hc => ?_)
   ·skip
    refine yS fun _ K21 => ?_
    refine yR ?_
    refine yA rfl rfl ?_
    refine yN ?_
    dsimp only [St.put]
    refine K21 _ ?_
    refine bc ?_
    refine bx rfl (by constructor) zN zS ?_
    exact vb (by
     have := zv (f := (·.id)) hd0 hx (by omega) (by simpa using hc)
     simp [c7, this])
   skip
   refine bi ?_
   refine K19 _ ?_
   refine yR ?_
   refine yM rfl rfl ?_
   refine aa rfl (cm rfl rfl rfl (by omega)) ?_
   refine yA rfl rfl ?_
   refine yN ?_
   dsimp only [St.put]
   exact ⟨k + 1, by omega, ⟨by omega, by rw [x9 hd, hJ.2]; simpa using hc⟩, ⟨⟨rfl, rfl⟩, zF, zB, zN, zX⟩⟩
  try replace hc := of_decide_eq_false hc
  refine dq ?_
  refine K15 _ ?_
  refine yS fun _ K22 => ?_
  refine yR ?_
  refine yA rfl rfl ?_
  refine yN ?_
  dsimp only [St.put]
  refine K22 _ ?_
  refine cb ?_
  refine dh 8 ?_
  refine zQ ?_
  refine du (G) zX ?_
  dsimp only
  refine dz (X := Nat) (fun n => n ≤ c.lines.length ∧ (c.lines.take n).all ke = true) (fun n => c.lines.length - n) (fun n => [(6, .v (.int .i64 (n : Int))), (7, .any)]) (fun n G' => G') 0 rfl ?_ ?_ (fun _ _ h => h) ?_ ?_ ?_
  ·exact ⟨by simp, by simp⟩
  ·exact zF
  ·rintro n hI
   exact zL
  ·exact fun _ _ _ _ h => .inl h
  rintro n hL
  dsimp only at hL ⊢
  refine yS fun _ K23 => ?_
  refine yS fun _ K24 => ?_
  refine yR ?_
  refine yM rfl rfl ?_
  refine yF rfl rfl rfl rfl ?_
  refine yL rfl rfl rfl ?_
  refine aa rfl (bj rfl rfl (List.length_map _)) ?_
  refine aa rfl (c5 rfl rfl rfl) ?_
  refine yN ?_
  dsimp only [St.put]
  refine K24 _ ?_
  refine bd rfl (fun hc => ?_) (fun hc => ?_)
  ·replace hc := of_decide_eq_true hc
   obtain ⟨l, hl⟩ : ∃ x, c.lines[n]? = some x := d8 (by omega)
   have hf2 := hf.words c (g5 hx) l (g5 hl)
   refine bi ?_
   refine K23 _ ?_
   refine yS fun _ K25 => ?_
   refine cb ?_
   refine yS fun _ K26 => ?_
   refine yS fun _ K27 => ?_
   refine yR ?_
   refine yF rfl rfl rfl rfl ?_
   refine yL rfl rfl rfl ?_
   refine yM rfl rfl ?_
   refine aa rfl (bk rfl rfl rfl rfl (bu (by assumption)) (Enc.len _)) ?_
   refine yL rfl rfl rfl ?_
   refine aa rfl (bj rfl rfl (List.length_map _)) ?_
   try dsimp only [St.put]
   refine af rfl (bl rfl rfl rfl (pd _ _ _) ?_)
   refine aa rfl (ei rfl rfl) ?_
   refine yN ?_
   dsimp only [St.put]
   refine K27 _ ?_
   refine bd rfl (fun hc => ?_) (fun hc => ?_)
   ·skip
    refine yS fun _ K28 => ?_
    refine yR ?_
    refine yA rfl rfl ?_
    refine yN ?_
    dsimp only [St.put]
    refine K28 _ ?_
    refine bc ?_
    refine bx rfl (by constructor) zN zS ?_
    exact vb (by
     have h1 : c.lines.all ke = false := kj hl (by simp_all [ke])
     have : t.all jl = false := kj hx (by simp [jl, h1])
     simp [c7, this])
   have hll : inB l.length 1 10 = true := by simpa using hc
   refine bi ?_
   refine K26 _ ?_
   refine yS fun _ K29 => ?_
   refine yR ?_
   refine yA rfl rfl ?_
   refine yN ?_
   dsimp only [St.put]
   refine K29 _ ?_
   refine cb ?_
   refine dh 8 ?_
   refine zQ ?_
   refine du (G) zX ?_
   dsimp only
   refine dz (X := Nat) (fun m => m ≤ l.length ∧ (l.take m).all ko = true) (fun m => l.length - m) (fun m => [(7, .v (.int .i64 (m : Int)))]) (fun m G' => G') 0 rfl ?_ ?_ (fun _ _ h => h) ?_ ?_ ?_
   ·exact ⟨by simp, by simp⟩
   ·exact zF
   ·rintro m hI
    exact zL
   ·exact fun _ _ _ _ h => .inl h
   rintro m hM
   dsimp only at hM ⊢
   refine yS fun _ K30 => ?_
   refine yS fun _ K31 => ?_
   refine yR ?_
   refine yM rfl rfl ?_
   refine yF rfl rfl rfl rfl ?_
   refine yL rfl rfl rfl ?_
   refine yM rfl rfl ?_
   refine aa rfl (bk rfl rfl rfl rfl (bu (by assumption)) (Enc.len _)) ?_
   refine yL rfl rfl rfl ?_
   refine aa rfl (bj rfl rfl (List.length_map _)) ?_
   refine aa rfl (c5 rfl rfl rfl) ?_
   refine yN ?_
   dsimp only [St.put]
   refine K31 _ ?_
   refine bd rfl (fun hc => ?_) (fun hc => ?_)
   ·replace hc := of_decide_eq_true hc
    obtain ⟨s, hs'⟩ : ∃ x, l[m]? = some x := d8 (by omega)
    refine bi ?_
    refine K30 _ ?_
    refine yS fun _ K32 => ?_
    refine cb ?_
    refine yS fun _ K33 => ?_
    refine yR ?_
    refine yF rfl rfl rfl rfl ?_
    refine yL rfl rfl rfl ?_
    refine yM rfl rfl ?_
    refine aa rfl (bk rfl rfl rfl rfl (bu (by assumption)) (Enc.len _)) ?_
    refine yL rfl rfl rfl ?_
    refine yM rfl rfl ?_
    refine aa rfl (bk rfl rfl rfl rfl (bu (by assumption)) (Enc.len _)) ?_
    refine yL rfl rfl rfl ?_
    try dsimp only [St.put]
    refine af rfl (bl rfl rfl rfl (upv _) ?_)
    refine aa rfl (ei rfl rfl) ?_
    refine yN ?_
    dsimp only [St.put]
    refine K33 _ ?_
    refine bd rfl (fun hc => ?_) (fun hc => ?_)
    ·skip
     refine yS fun _ K34 => ?_
     refine yR ?_
     refine yA rfl rfl ?_
     refine yN ?_
     dsimp only [St.put]
     refine K34 _ ?_
     refine bc ?_
     refine bx rfl (by constructor) zN zS ?_
     exact vb (by
      have h2 : l.all ko = false := kj hs' (by simpa using hc)
      have h1 : c.lines.all ke = false := kj hl (by simp [ke, h2])
      have : t.all jl = false := kj hx (by simp [jl, h1])
      simp [c7, this])
    skip
    refine bi ?_
    refine K32 _ ?_
    refine yR ?_
    refine yM rfl rfl ?_
    refine aa rfl (cm rfl rfl rfl (by omega)) ?_
    refine yA rfl rfl ?_
    refine yN ?_
    dsimp only [St.put]
    exact ⟨m + 1, by omega, ⟨by omega, by rw [qz hs', hM.2]; simpa using hc⟩, ⟨⟨rfl, rfl⟩, zF, zB, zN, zX⟩⟩
   try replace hc := of_decide_eq_false hc
   refine dq ?_
   refine K25 _ ?_
   refine yR ?_
   refine yM rfl rfl ?_
   refine aa rfl (cm rfl rfl rfl (by omega)) ?_
   refine yA rfl rfl ?_
   refine yN ?_
   dsimp only [St.put]
   exact ⟨n + 1, by omega, ⟨by omega, by
     rw [qz hl, hL.2]
     have h1 := hM.2
     rw [g9 (by omega)] at h1
     simp [ke, h1, hll]⟩, ⟨⟨rfl, rfl⟩, zF, zB, zN, zX⟩⟩
  try replace hc := of_decide_eq_false hc
  refine dq ?_
  refine K9 _ ?_
  refine yR ?_
  refine yM rfl rfl ?_
  refine aa rfl (cm rfl rfl rfl (by omega)) ?_
  refine yA rfl rfl ?_
  refine yN ?_
  dsimp only [St.put]
  exact ⟨i + 1, by omega, ⟨by omega, by
    rw [qz hx, hI.2.1]
    have h1 := hL.2
    rw [g9 (by omega)] at h1
    simp [jl, h1, hid, hln], by
    rw [pn hx]
    exact zw hI.2.2 (by have h1 := hJ.2; rw [List.take_take, show min k i = i by omega] at h1; exact ulk h1)⟩, ⟨⟨rfl, rfl⟩, zF, zB, zN, zX⟩⟩
 try replace hc := of_decide_eq_false hc
 refine dq ?_
 refine K5 _ ?_
 refine yS fun _ K35 => ?_
 refine yR ?_
 refine yA rfl rfl ?_
 refine yN ?_
 dsimp only [St.put]
 refine K35 _ ?_
 refine bc ?_
 refine bx rfl (by constructor) zN zS ?_
 exact vb (by
  have h1 := hI.2
  rw [g9 (by omega)] at h1
  simp [c7, hc0, h1.1, h1.2])

end Go.Proofs.YtgffhbbcpgdjjaaGreatDoor
namespace Go.Proofs.YtgffhbbcpgdjjaaGreatDoor
set_option maxRecDepth 10000
open Go.RowKit Go.AB
open Go.AB.Enc (cells)
open Go.PB (bg aj PlaceD bn bq bp)

end Go.Proofs.YtgffhbbcpgdjjaaGreatDoor
namespace Go.AB
open Go Go.RowKit
open Go.PB (bg aj PlaceD)
end Go.AB
namespace Go.Proofs.YtgffhbbcpgdjjaaGreatDoor
set_option maxRecDepth 10000
open Go.RowKit Go.AB
open Go.AB.Enc (cells)
open Go.PB (bg aj PlaceD bn bq bp)
theorem up6 (t : aj) : Pure Tryz.prog 60 [gp t] (.v (.int .i64 (fw t))) := by
 refine di Tryz.func60 rfl (fun m => .v) fun G nx => ?_
 simp only [Tryz.ntmps60, List.length_cons, List.length_nil, Nat.reduceAdd, Nat.reduceSub]
 refine cp fun hlt => ?_
 dsimp only at hlt
 refine ar fun K1 hK1 => ?_
 refine aw ?_
 try dsimp only [St.put]
 refine af rfl (ip rfl rfl (by simp) ?_)
 refine aa rfl (bf rfl (by constructor)) ?_
 refine av ?_
 dsimp only [St.put]
 refine hK1 _ ?_
 refine ar fun K2 hK2 => ?_
 refine ar fun K3 hK3 => ?_
 refine aw ?_
 try dsimp only [St.put]
 first | refine ae rfl (bh rfl rfl) ?_ | refine ae rfl (aq rfl rfl (Enc.len _)) ?_ | refine ae rfl (aq rfl rfl rfl) ?_ | refine ae rfl (bz rfl rfl zG trivial (by first | rfl | assumption)) ?_ | refine ae rfl (ca rfl rfl zG trivial (by rfl)) ?_ | refine ae rfl (cg rfl rfl zG trivial (by simp)) ?_ | refine ae rfl (ax rfl rfl zG trivial (ci (by assumption) rfl)) ?_ | refine ae rfl (ax rfl rfl zG trivial (by assumption)) ?_ | refine ae rfl (cj rfl rfl zG trivial rfl (by assumption) rfl (by decide)) ?_ | refine ae rfl (cd rfl rfl zG (by rfl)) ?_
 try dsimp only [St.put]
 refine af rfl (bl rfl rfl rfl (upw _) ?_)
 refine aa rfl (ei rfl rfl) ?_
 refine av ?_
 dsimp only [St.put]
 refine hK3 _ ?_
 refine bd rfl (fun hc => ?_) (fun hc => ?_)
 ·try replace hc := of_decide_eq_true hc
  refine ar fun K4 hK4 => ?_
  refine aw ?_
  refine aa rfl (bf rfl (by constructor)) ?_
  refine av ?_
  dsimp only [St.put]
  refine hK4 _ ?_
  refine bc ?_
  refine bx rfl (by constructor) zN zS ?_
  first | exact vi (by simp at hc; simp [fw, hc]) | exact vi (by simp [fw])
 ·try replace hc := of_decide_eq_false hc
  refine bi ?_
  refine hK2 _ ?_
  refine ar fun K5 hK5 => ?_
  refine aw ?_
  refine aa rfl (bf rfl (by constructor)) ?_
  refine av ?_
  dsimp only [St.put]
  refine hK5 _ ?_
  refine bc ?_
  refine bx rfl (by constructor) zN zS ?_
  first | exact vi (by simp at hc; simp [fw, hc]) | exact vi (by simp [fw])
end Go.Proofs.YtgffhbbcpgdjjaaGreatDoor
namespace Go.AB
open Go Go.RowKit
open Go.AB.Enc (cells)
open Go.PB (bg aj PlaceD bn bq bp)
abbrev L2 := Int × Int
/-- a stretch has a line of the base; of the edition -/
def hasB (s : km) (p : L2) : Bool := decide (s.ch = p.1) && (decide (s.fr ≤ p.2) && decide (p.2 < s.tt))
def toE (s : km) (p : L2) : L2 := (s.au, s.fi + (p.2 - s.fr))
/-- as which line a line of the base is numbered: by the first stretch that has it; and back -/
def asOf (ss : List km) (p : L2) : Option L2 := (ss.find? fun s => hasB s p).map fun s => toE s p
/-! ### Stretches that clash -/
/-! ### The lines of a text -/
def ow (t : aj) : List L2 := (t.mapIdx fun k c => c.lines.mapIdx fun n _ => ((k : Int), (n : Int))).flatten
/-- a line of the base, with the numbers that it has by some stretches -/
def zd (ss : List km) (p : L2) (w : Int) : RowD := ⟨p.1, p.2, ((asOf ss p).getD (0, 0)).1, ((asOf ss p).getD (0, 0)).2, w⟩
def ni (t : aj) (ss : List km) : List RowD := (t.mapIdx fun k c => c.lines.mapIdx fun n l => zd ss (k, n) l.length).flatten
theorem qo {α β γ : Type} (l : List α) (f : Nat → α → β) (g : β → γ) : (l.mapIdx f).map g = l.mapIdx fun i a => g (f i a) := by
 apply List.ext_getElem?
 intro i
 rw [List.getElem?_map, List.getElem?_mapIdx, List.getElem?_mapIdx, Option.map_map]
 rfl
theorem uck (t : aj) (ss : List km) : (ni t ss).map (fun r => ((r.ch, r.ln) : L2)) = ow t := by
 unfold ni ow
 rw [List.map_flatten, qo]
 congr 2
 funext k c
 rw [qo]
 rfl
/-- the rows of a chapter's lines -/
def rowL (ss : List km) (k : Nat) (ls : List (List ByteArray)) : List RowD := ls.mapIdx fun n l => zd ss (k, n) l.length
theorem ujh (ss : List km) {t : aj} {k : Nat} {c : bg} (h : t[k]? = some c) : ni (t.take (k + 1)) ss = ni (t.take k) ss ++ rowL ss k c.lines := by
 unfold ni
 rw [xb h, List.flatten_append]; simp [rowL]
theorem ujl (ss : List km) (k : Nat) (ls : List (List ByteArray)) : (rowL ss k ls).length = ls.length := by simp [rowL]
theorem uji {t : aj} (ht : c7 t = true) (ss : List km) (k : Nat) : (ni (t.take k) ss).length ≤ 10 * k := by
 induction k with
 | zero => simp [ni]
 | succ k ih =>
  cases hk : t[k]? with
  | none =>
   have h1 : t.take (k + 1) = t.take k := by rw [List.take_add_one, hk]; simp
   rw [h1]; omega
  | some c =>
   rw [ujh ss hk, List.length_append, ujl]
   have := ((lj ht).2.2 c (List.mem_of_getElem? hk)).2.1
   omega
theorem ujj {t : aj} (ht : c7 t = true) (ss : List km) : (ni t ss).length ≤ 60 := by
 have h1 := uji ht ss t.length
 rw [List.take_length] at h1
 have := (lj ht).2.1
 omega
end Go.AB
namespace Go.AB
open Go Go.RowKit
open Go.PB (bg aj PlaceD)
end Go.AB
namespace Go.Proofs.YtgffhbbcpgdjjaaGreatDoor
set_option maxRecDepth 10000
open Go.RowKit Go.AB
open Go.AB.Enc (cells)
open Go.PB (bg aj PlaceD bn bq bp)

end Go.Proofs.YtgffhbbcpgdjjaaGreatDoor
namespace Go.AB
open Go Go.RowKit
open Go.PB (bg aj PlaceD)
end Go.AB
namespace Go.Proofs.YtgffhbbcpgdjjaaGreatDoor
set_option maxRecDepth 10000
open Go.RowKit Go.AB
open Go.AB.Enc (cells)
open Go.PB (bg aj PlaceD bn bq bp)
end Go.Proofs.YtgffhbbcpgdjjaaGreatDoor
namespace Go.AB
open Go Go.RowKit
open Go.PB (bg aj PlaceD)
end Go.AB
namespace Go.Proofs.YtgffhbbcpgdjjaaGreatDoor
set_option maxRecDepth 10000
open Go.RowKit Go.AB
open Go.AB.Enc (cells)
open Go.PB (bg aj PlaceD bn bq bp)
theorem upx (a b : List PlaceD) : Pure Tryz.prog 27 [lst a, lst b] (.v (.bool (decide (a = b)))) := by
 refine di Tryz.func27 rfl (fun m => .v) fun G nx => ?_
 simp only [Tryz.ntmps27, List.length_cons, List.length_nil, Nat.reduceAdd, Nat.reduceSub]
 refine cp fun hlt => ?_
 dsimp only at hlt
 refine lf 0 (fun hf => ?_)
 have hf' : a.length ≤ 9223372036854775807 := (fit_lst.1 hf).1
 clear hf
 refine ar fun K1 hK1 => ?_
 refine aw ?_
 refine aa rfl (bf rfl (by constructor)) ?_
 refine av ?_
 dsimp only [St.put]
 refine hK1 _ ?_
 refine ar fun K2 hK2 => ?_
 refine ar fun K3 hK3 => ?_
 refine aw ?_
 refine aa rfl (ba rfl (by constructor)) ?_
 first | refine aa rfl (bj rfl rfl (List.length_map _)) ?_ | refine aa rfl (bj rfl rfl rfl) ?_ | refine aa rfl (f7 rfl rfl) ?_ | refine aa rfl (gd rfl rfl) ?_ | refine aa rfl (ga rfl rfl) ?_ | refine aa rfl (f9 rfl rfl (by omega)) ?_
 refine aa rfl (ba rfl (by constructor)) ?_
 first | refine aa rfl (bj rfl rfl (List.length_map _)) ?_ | refine aa rfl (bj rfl rfl rfl) ?_ | refine aa rfl (f7 rfl rfl) ?_ | refine aa rfl (gd rfl rfl) ?_ | refine aa rfl (ga rfl rfl) ?_ | refine aa rfl (f9 rfl rfl (by omega)) ?_
 refine aa rfl (fq rfl rfl rfl) ?_
 refine av ?_
 dsimp only [St.put]
 refine hK3 _ ?_
 refine bd rfl (fun hc => ?_) (fun hc => ?_)
 ·try replace hc := of_decide_eq_true hc
  refine ar fun K4 hK4 => ?_
  refine aw ?_
  refine aa rfl (bf rfl (by constructor)) ?_
  refine av ?_
  dsimp only [St.put]
  refine hK4 _ ?_
  refine bc ?_
  refine bx rfl (by constructor) zN zS ?_
  exact vb (by
   have : a ≠ b := fun e => by subst e; simp at hc
   simp [this])
 ·have hab := iy hc
  refine bi ?_
  refine hK2 _ ?_
  refine ar fun K5 hK5 => ?_
  refine ar fun K6 hK6 => ?_
  refine aw ?_
  refine aa rfl (bf rfl (by constructor)) ?_
  refine av ?_
  dsimp only [St.put]
  refine hK6 _ ?_
  refine cb ?_
  refine dh 6 ?_
  refine zQ ?_
  refine du (G) zX ?_
  dsimp only
  refine dz (X := Nat) (fun k => k ≤ a.length ∧ a.take k = b.take k) (fun k => a.length - k) (fun k => [(5, .v (.int .i64 (k : Int)))]) (fun k G' => G') 0 rfl ?_ ?_ (fun _ _ h => h) ?_ ?_ ?_
  ·exact ⟨by simp, by simp⟩
  ·exact zF
  ·rintro k hI
   exact zL
  ·exact fun _ _ _ _ h => .inl h
  ·rintro k hI
   dsimp only at hI ⊢
   refine ar fun K7 hK7 => ?_
   refine ar fun K8 hK8 => ?_
   refine aw ?_
   refine aa rfl (ba rfl (by constructor)) ?_
   refine aa rfl (ba rfl (by constructor)) ?_
   first | refine aa rfl (bj rfl rfl (List.length_map _)) ?_ | refine aa rfl (bj rfl rfl rfl) ?_ | refine aa rfl (f7 rfl rfl) ?_ | refine aa rfl (gd rfl rfl) ?_ | refine aa rfl (ga rfl rfl) ?_ | refine aa rfl (f9 rfl rfl (by omega)) ?_
   refine aa rfl (c5 rfl rfl rfl) ?_
   refine av ?_
   dsimp only [St.put]
   refine hK8 _ ?_
   refine bd rfl (fun hc => ?_) (fun hc => ?_)
   ·replace hc := of_decide_eq_true hc
    obtain ⟨x, hx⟩ : ∃ x, a[k]? = some x := d8 (by omega)
    obtain ⟨y, hy⟩ : ∃ y, b[k]? = some y := d8 (by omega)
    refine bi ?_
    refine hK7 _ ?_
    refine ar fun K9 hK9 => ?_
    refine cb ?_
    refine ar fun K10 hK10 => ?_
    refine g8 [(0, none), (1, none), (2, none), (3, none), (4, none), (5, none), (6, none), (7, none), (8, none)] (fun i => [].contains i) (fun i => [].contains i) (fun i => [0, 1, 2, 4, 5, 6, 8].contains i) [] (by kernel_rfl) (by kernel_rfl) ?_
    refine ah rfl rfl rfl rfl (ba rfl (by constructor)) ?_
    refine ah rfl rfl rfl rfl (ba rfl (by constructor)) ?_
    try dsimp only [St.put]
    first | refine ah rfl rfl rfl rfl (bk rfl rfl rfl rfl (bu (by assumption)) (Enc.len _)) ?_ | refine ah rfl rfl rfl rfl (bk rfl rfl rfl rfl (by assumption) rfl) ?_ | refine ah rfl rfl rfl rfl (g4 rfl rfl rfl (by first | exact g6 _ | exact rfl) (by omega)) ?_ | refine ah rfl rfl rfl rfl (bk rfl rfl rfl (by omega) (bu (by assumption)) (Enc.len _)) ?_
    try dsimp only [St.put]
    first | refine ai rfl rfl rfl rfl (bh rfl rfl) ?_ | refine ai rfl rfl rfl rfl (aq rfl rfl (Enc.len _)) ?_ | refine ai rfl rfl rfl rfl (aq rfl rfl rfl) ?_ | refine ai rfl rfl rfl rfl (bz rfl rfl zG (by simp) (by first | rfl | assumption)) ?_ | refine ai rfl rfl rfl rfl (ca rfl rfl zG (by simp) (by rfl)) ?_ | refine ai rfl rfl rfl rfl (cg rfl rfl zG (by simp) (by simp)) ?_ | refine ai rfl rfl rfl rfl (ax rfl rfl zG (by simp) (ci (by assumption) rfl)) ?_ | refine ai rfl rfl rfl rfl (ax rfl rfl zG (by simp) (by assumption)) ?_ | refine ai rfl rfl rfl rfl (cj rfl rfl zG (by simp) rfl (by assumption) rfl (by decide)) ?_ | refine ai rfl rfl rfl rfl (cd rfl rfl zG (by rfl)) ?_
    refine ah rfl rfl rfl rfl (ba rfl (by constructor)) ?_
    refine ah rfl rfl rfl rfl (ba rfl (by constructor)) ?_
    try dsimp only [St.put]
    first | refine ah rfl rfl rfl rfl (bk rfl rfl rfl rfl (bu (by assumption)) (Enc.len _)) ?_ | refine ah rfl rfl rfl rfl (bk rfl rfl rfl rfl (by assumption) rfl) ?_ | refine ah rfl rfl rfl rfl (g4 rfl rfl rfl (by first | exact g6 _ | exact rfl) (by omega)) ?_ | refine ah rfl rfl rfl rfl (bk rfl rfl rfl (by omega) (bu (by assumption)) (Enc.len _)) ?_
    try dsimp only [St.put]
    first | refine ai rfl rfl rfl rfl (bh rfl rfl) ?_ | refine ai rfl rfl rfl rfl (aq rfl rfl (Enc.len _)) ?_ | refine ai rfl rfl rfl rfl (aq rfl rfl rfl) ?_ | refine ai rfl rfl rfl rfl (bz rfl rfl zG (by simp) (by first | rfl | assumption)) ?_ | refine ai rfl rfl rfl rfl (ca rfl rfl zG (by simp) (by rfl)) ?_ | refine ai rfl rfl rfl rfl (cg rfl rfl zG (by simp) (by simp)) ?_ | refine ai rfl rfl rfl rfl (ax rfl rfl zG (by simp) (ci (by assumption) rfl)) ?_ | refine ai rfl rfl rfl rfl (ax rfl rfl zG (by simp) (by assumption)) ?_ | refine ai rfl rfl rfl rfl (cj rfl rfl zG (by simp) rfl (by assumption) rfl (by decide)) ?_ | refine ai rfl rfl rfl rfl (cd rfl rfl zG (by rfl)) ?_
    refine ah rfl rfl rfl rfl (rx (x := x) (y := y) rfl rfl rfl) ?_
    refine cz ?_
    dsimp only [St.put]
    refine hK10 _ ?_
    refine bd rfl (fun hc => ?_) (fun hc => ?_)
    ·try replace hc := of_decide_eq_true hc
     refine ar fun K11 hK11 => ?_
     refine aw ?_
     refine aa rfl (bf rfl (by constructor)) ?_
     refine av ?_
     dsimp only [St.put]
     refine hK11 _ ?_
     refine bc ?_
     refine bx rfl (by constructor) zN zS ?_
     exact vb (by
      have := udq hx hy (j8 hc)
      simp [this])
    ·have hxy := iy hc
     refine bi ?_
     refine hK9 _ ?_
     refine aw ?_
     refine aa rfl (ba rfl (by constructor)) ?_
     first | refine aa rfl (cm rfl rfl rfl (by omega)) ?_ | refine aa rfl (il rfl rfl rfl) ?_
     refine aa rfl (bf rfl (by constructor)) ?_
     refine av ?_
     dsimp only [St.put]
     exact ⟨k + 1, by omega, ⟨by omega, ubw hI.2 hx (hxy ▸ hy)⟩, ⟨⟨rfl, rfl⟩, zF, zB, zN, zX⟩⟩
   ·try replace hc := of_decide_eq_false hc
    refine dq ?_
    refine hK5 _ ?_
    refine ar fun K12 hK12 => ?_
    refine aw ?_
    refine aa rfl (bf rfl (by constructor)) ?_
    refine av ?_
    dsimp only [St.put]
    refine hK12 _ ?_
    refine bc ?_
    refine bx rfl (by constructor) zN zS ?_
    exact vb (by
     have h1 := hI.2
     rw [g9 (by omega), g9 (by omega)] at h1
     simp [h1])
/-! ### What a stretch is checked by -/
end Go.Proofs.YtgffhbbcpgdjjaaGreatDoor
namespace Go.Proofs.YtgffhbbcpgdjjaaGreatDoor
set_option maxRecDepth 10000
open Go Go.RowKit Go.AB
theorem uac : laidOutB Tryz.prog = true := by kernel_rfl
theorem ul5 : ∃ m, Tryz.prog.types.size = m + 3 := ⟨Tryz.prog.types.size - 3, by have : 3 ≤ Tryz.prog.types.size := of_decide_eq_true (by kernel_rfl); omega⟩
theorem yn : Tryz.prog.underlying 3 = some (.int .i64) := by kernel_rfl
instance : KeyT Tryz.prog 3 Int where
 keyed := Go.Maps.int_keyed yn
 has {E w x v} h := ⟨.int .i64 x, by
  have h1 := xc (xh h)
  simp [keyOf, mapKey, yn, KeyV.kv, h1]⟩
end Go.Proofs.YtgffhbbcpgdjjaaGreatDoor
