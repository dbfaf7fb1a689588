/-
  Ranges over maps, in whatever order; what is deleted from a map.
-/
import Derived.Test.YtolcenpmgmpmkaaDoorAbScope
import Derived.Laws.IdiomRangeMap
namespace Go.AB
open Go Go.RowKit
open Go.Maps (Keyed)
variable {ρ : Option Nat}

theorem run_next_at {P : Program} (w : World) (ty : TypeId) (b bm since c0 : Nat) (seen : Array Nat) (es : Array MapEntry) (clock : Nat) (hi : w.heap[b]? = some (.mapIter (some bm) since seen c0)) (hb : w.heap[bm]? = some (.map es clock)) (hold : ∀ x ∈ es.toList, x.born < since) (hsc : since ≤ c0) :
    ((leftOf es seen).size = 0 ∧ (Instr.next (.pointer (some ⟨b, 0, none⟩)) false ty).run P w = .ok (.tuple #[.bool false]) w) ∨
    ∃ e ∈ (leftOf es seen).toList, ∃ w1 : World, (w1 = w ∨ w1 = w.drew) ∧ (Instr.next (.pointer (some ⟨b, 0, none⟩)) false ty).run P w = .ok (.tuple #[.bool true, e.key, e.val]) (w1.putObj b (.mapIter (some bm) since (seen.push e.born) clock)) := by
  simp only [Instr.next, getObj, Sem.run_bind, Sem.run, hi, hb, Result.andThen, next_test_false seen es since c0 hold hsc, Bool.false_eq_true, if_false]
  unfold leftOf
  have hmem : ∀ x ∈ (Array.filter (fun e => !seen.contains e.born) es).toList, x.born < since := fun x hx => hold x (by simp at hx ⊢; exact hx.1)
  generalize Array.filter (fun e => !seen.contains e.born) es = L at hmem ⊢
  have e1 : L.filter (fun x => decide (x.born < since)) = L := Array.filter_eq_self.2 (fun x hx => by simpa using hmem x (by simpa using hx))
  have e2 : L.filter (fun x => decide (x.born ≥ since)) = #[] := by
    rw [Array.filter_eq_empty_iff]
    intro x hx
    have := hmem x (by simpa using hx)
    simp
    omega
  simp only [e1, e2, Array.append_empty]
  by_cases h0 : L.size = 0
  · left
    have : L = #[] := Array.eq_empty_of_size_eq_zero h0
    subst this
    refine ⟨rfl, ?_⟩
    simp [choose, Sem.run, Question.forced]
  · right
    have hne : L.isEmpty = false := by simp [Array.isEmpty, h0]
    simp only [hne, Bool.false_eq_true, if_false, Array.empty_append, Array.size_map]
    have hch : ∃ (j : Nat) (w1 : World), j < L.size ∧ (w1 = w ∨ w1 = w.drew) ∧ (choose (Question.mapNext L.size)).run P w = .ok j w1 := by
      by_cases hf : L.size ≤ 1
      · exact ⟨0, w, by omega, .inl rfl, by simp [choose, Sem.run, Question.forced, hf]⟩
      · exact ⟨_, w.drew, Nat.mod_lt _ (by omega), .inr rfl, by
          simp only [choose, Sem.run, Question.forced, decide_eq_true_eq, hf, if_false, Question.cut]
          rfl⟩
    obtain ⟨j, w1, hj, hal, hrun⟩ := hch
    refine ⟨L[j], by simp, w1, hal, ?_⟩
    have hi1 : w1.heap[b]? = some (.mapIter (some bm) since seen c0) := by rcases hal with rfl | rfl <;> exact hi
    have hset : ∀ (o' : Obj), (setObj b o').run P w1 = .ok () (w1.putObj b o') := fun o' => by
      simp only [setObj, Sem.run, hi1]
      rfl
    simp only [hrun, Array.getElem?_map, Array.getElem?_eq_getElem hj, Option.map_some, Sem.run_bind, hset, Result.andThen]
    rfl

/-- A map over which a range runs: what was there when it began; the stamps of its keys. -/
def okB (P : Program) (k : TypeId) (α : Type) [KeyV α] (β : Value → Nat) (cl : Nat) : List MapEntry → Nat → Prop := fun es clock => okK P k α es clock ∧ clock = cl ∧ ∀ e ∈ es, e.born = β e.key
noncomputable def gmapB (P : Program) (k : TypeId) {α : Type} [KeyV α] (wv : Nat) (m : α → Option C) (β : Value → Nat) (cl : Nat) : GObj := .map wv (okB P k α β cl) (mapV m)
/-- The stamps of what has come. -/
def seenOf {α : Type} [KeyV α] (β : Value → Nat) (done : List α) : Array Nat := (done.map fun x => β (KeyV.kv x)).toArray

section
variable {P : Program} {o : Oper} {st : St} {K : St → Prop} {α : Type} [KeyV α]
/-- A new object that is no cells. -/
theorem raw_new {E : Env} {w : World} {G : Nat → Option GObj} {nx : Nat} (hg : SimG E w G nx) (ob : Obj) (hob : ob.isCells = false) :
    ∃ E', Ev E w E' (w.alloc ob) ∧ SimG E' (w.alloc ob) (setG G nx (.raw 0 ob)) (nx + 1) ∧ R E' (w.alloc ob) (.box nx 0 0) (.pointer (some ⟨w.heap.size, 0, none⟩)) ∧ ∀ n, n < nx → E'.T n = E.T n := by
  have hnx := hg.nx
  have hold : ∀ b, b < w.heap.size → (w.alloc ob).heap[b]? = w.heap[b]? := fun b hb => Below.heap_alloc w _ b hb
  have hnew : (w.alloc ob).heap[w.heap.size]? = some ob := heap_alloc_new w _
  have hTo : ∀ n t, (E.name (.pointer (some ⟨w.heap.size, 0, none⟩))).T n = some t → (n = E.nx ∧ t = (0, 0, .pointer (some ⟨w.heap.size, 0, none⟩))) ∨ E.T n = some t := fun n t ht => by
    simp only [Env.name] at ht
    split at ht
    · rename_i e; exact .inl ⟨e, by simpa using ht.symm⟩
    · exact .inr ht
  have hev : Ev E w (E.name (.pointer (some ⟨w.heap.size, 0, none⟩))) (w.alloc ob) := by
    refine ⟨(Below.refl _ _).alloc hg.base _, rfl, fun _ => Nat.le_refl _, fun b i hi => ?_, Nat.le_succ _, fun n hn ver wv val ht => ?_, fun n ver wv wv' val h1 h2 hn => ?_, ?_⟩
    · have hb : b < w.heap.size := Nat.lt_of_not_le fun hle => by have := hg.fresh b hle; omega
      exact World.cell?_of_block (w := w) (hold b hb)
    · rcases hTo n _ ht with ⟨e, _⟩ | ht
      · omega
      · exact ⟨ver, wv, val, ht, Nat.le_refl _, fun _ => ⟨rfl, fun _ b hb => hold b (hg.tb n ver wv val b ht hb).2⟩⟩
    · rcases hTo n _ h2 with ⟨e, _⟩ | h2
      · omega
      · rw [h1] at h2; simp at h2; omega
    · refine ⟨rfl, fun b hb => absurd hb (Nat.lt_irrefl _), fun b o ho _ _ => (hold b (Array.getElem?_eq_some_iff.1 ho).1).trans ho, fun b o ho => ⟨o, (hold b (Array.getElem?_eq_some_iff.1 ho).1).trans ho, rfl⟩, fun n t' b o ht hb ho _ => ?_, fun n t t' b hn h1 h2 hv _ => ?_⟩
      · rcases hTo n _ ht with ⟨_, rfl⟩ | ht
        · simp only [blk, Option.some.injEq] at hb
          subst hb
          have := (Array.getElem?_eq_some_iff.1 ho).1
          omega
        · exact ⟨t', ht, hb⟩
      · rcases hTo n _ h2 with ⟨e, _⟩ | h2
        · omega
        · rw [h1] at h2; cases h2; omega
  refine ⟨_, hev, ⟨by simp [Env.name, hnx], fun n o ho => ?_, fun n t ht => ?_, fun n ver wv val b ht hb => ?_, fun n m t t' b h1 h2 hne hb => ?_, fun b hb => ?_, ?_⟩, ?_, fun n hn => ?_⟩
  · simp only [setG] at ho
    split at ho
    · rename_i en
      subst en
      simp only [Option.some.injEq] at ho
      subst ho
      exact ⟨w.heap.size, by simp [Env.name, hnx], hnew, hob⟩
    · rename_i en
      refine (hg.obj n o ho).keep hev (by simp only [Env.name]; rw [if_neg (by omega)]) fun ver wv val b h1 h2 => ⟨hold b (hg.tb n ver wv val b h1 h2).2, rfl⟩
  · rcases hTo n _ ht with ⟨e, _⟩ | ht
    · simp [Env.name]; omega
    · have := hg.lt n t ht
      simp [Env.name]; omega
  · rcases hTo n _ ht with ⟨_, e⟩ | ht
    · simp only [Prod.mk.injEq] at e
      obtain ⟨rfl, rfl, rfl⟩ := e
      simp only [blk, Option.some.injEq] at hb
      subst hb
      exact ⟨hg.base, by simp⟩
    · have := hg.tb n ver wv val b ht hb
      exact ⟨this.1, by simp; omega⟩
  · rcases hTo n _ h1 with ⟨e, rfl⟩ | h1 <;> rcases hTo m _ h2 with ⟨e', rfl⟩ | h2
    · omega
    · intro hb'
      simp only [blk, Option.some.injEq] at hb
      subst hb
      have := hg.tb m _ _ _ w.heap.size h2 hb'
      omega
    · intro hb'
      simp only [blk, Option.some.injEq] at hb'
      subst hb'
      have := hg.tb n _ _ _ w.heap.size h1 hb
      omega
    · exact hg.ap n m t t' b h1 h2 hne hb
  · exact hg.fresh b (by simp at hb; omega)
  · have := hg.base
    simp [Env.name]; omega
  · refine .box (by simp [Env.name]; omega) fun ver wv val ht => ⟨Nat.zero_le _, fun _ => ?_⟩
    simp only [Env.name] at ht
    rw [if_pos hnx.symm] at ht
    simp only [Option.some.injEq, Prod.mk.injEq] at ht
    rw [← ht.2.2]; rfl
  · simp only [Env.name]
    rw [if_neg (by omega)]

/-- A fact among the named objects. -/
theorem fact_new {E : Env} {w : World} {G : Nat → Option GObj} {nx : Nat} (hg : SimG E w G nx) {v : Value} {c : C} (hr : R E w c v) :
    ∃ E', Ev E w E' w ∧ SimG E' w (setG G nx (.fact v c)) (nx + 1) := by
  refine ⟨_, Ev.name hg undef (fun b o hb => by cases hb), hg.name undef _ (fun b o hb => by cases hb) (fun b hb => by cases hb) ⟨by simp [Env.name, hg.nx], hr.ev (Ev.name hg undef (fun b o hb => by cases hb))⟩⟩

/-- The stamps of a map's keys. -/
theorem stamps {E : Env} {w : World} {k : TypeId} {m : α → Option C} {es : List MapEntry} {clock : Nat} (h : MapOk E w (okK P k α) (mapV m) es clock) (hall : ∀ e ∈ es, e.born < clock) :
    ∃ (β : Value → Nat) (ks : List α), MapOk E w (okB P k α β clock) (mapV m) es clock ∧ ks.Nodup ∧ (∀ x, m x ≠ none ↔ x ∈ ks) ∧ (∀ x ∈ ks, ∀ y ∈ ks, β (KeyV.kv x) = β (KeyV.kv y) → x = y) := by
  classical
  have hkey : ∀ e ∈ es, ∃ x : α, e.key = KeyV.kv x := fun e he => let ⟨x, _, hx, _⟩ := h.ok e he; ⟨x, hx⟩
  let β : Value → Nat := fun v => if hv : ∃ e ∈ es, e.key = v then hv.choose.born else 0
  have hβ : ∀ e ∈ es, e.born = β e.key := fun e he => by
    have hv : ∃ e' ∈ es, e'.key = e.key := ⟨e, he, rfl⟩
    show e.born = if hv : ∃ e' ∈ es, e'.key = e.key then hv.choose.born else 0
    rw [dif_pos hv]
    have h1 := hv.choose_spec
    have : hv.choose = e := Go.entry_eq_of_key h.pw h1.1 he h1.2
    rw [this]
  let f : MapEntry → Option α := fun e => if hx : ∃ x : α, e.key = KeyV.kv x then some hx.choose else none
  have hf : ∀ e ∈ es, ∀ x : α, e.key = KeyV.kv x → f e = some x := fun e he x hx => by
    have h1 : ∃ x : α, e.key = KeyV.kv x := ⟨x, hx⟩
    show (if hx : ∃ x : α, e.key = KeyV.kv x then some hx.choose else none) = some x
    rw [dif_pos h1]
    congr 1
    exact KeyV.inj (h1.choose_spec.symm.trans hx)
  have hmem : ∀ x, x ∈ es.filterMap f ↔ ∃ e ∈ es, e.key = KeyV.kv x := fun x => by
    rw [List.mem_filterMap]
    constructor
    · rintro ⟨e, he, hx⟩
      obtain ⟨y, hy⟩ := hkey e he
      rw [hf e he y hy] at hx
      cases hx
      exact ⟨e, he, hy⟩
    · rintro ⟨e, he, hx⟩
      exact ⟨e, he, hf e he x hx⟩
  refine ⟨β, es.filterMap f, ⟨⟨h.ok, rfl, hβ⟩, h.pw, h.pb, h.val, h.has⟩, ?_, fun x => ?_, fun x hx y hy e => ?_⟩
  · have : ∀ l : List MapEntry, (∀ e ∈ l, e ∈ es) → l.Pairwise (fun a b => a.key ≠ b.key) → (l.filterMap f).Nodup := by
      intro l
      induction l with
      | nil => intro _ _; exact List.nodup_nil
      | cons a l ih =>
        intro hs hp
        obtain ⟨x, hx⟩ := hkey a (hs a (List.mem_cons_self ..))
        rw [List.filterMap_cons_some (hf a (hs a (List.mem_cons_self ..)) x hx), List.nodup_cons]
        rw [List.pairwise_cons] at hp
        refine ⟨fun hm => ?_, ih (fun e he => hs e (List.mem_cons_of_mem _ he)) hp.2⟩
        rw [List.mem_filterMap] at hm
        obtain ⟨e, he, h1⟩ := hm
        obtain ⟨y, hy⟩ := hkey e (hs e (List.mem_cons_of_mem _ he))
        rw [hf e (hs e (List.mem_cons_of_mem _ he)) y hy] at h1
        cases h1
        exact hp.1 e he (hx.trans hy.symm)
    exact this es (fun _ h => h) h.pw
  · rw [hmem]
    constructor
    · intro hx
      obtain ⟨c, hc⟩ := Option.ne_none_iff_exists'.1 hx
      exact h.has (KeyV.kv x) c (by rw [mapV_kv, hc])
    · rintro ⟨e, he, hx⟩
      obtain ⟨c, hc, _⟩ := h.val e he
      rw [hx, mapV_kv] at hc
      rw [hc]; simp
  · obtain ⟨e1, h1, k1⟩ := (hmem x).1 hx
    obtain ⟨e2, h2, k2⟩ := (hmem y).1 hy
    have q : e1.born = e2.born := by rw [hβ e1 h1, hβ e2 h2, k1, k2, e]
    have : e1 = e2 := by
      obtain ⟨i, hi⟩ := List.getElem?_of_mem h1
      obtain ⟨j, hj⟩ := List.getElem?_of_mem h2
      rcases Nat.lt_trichotomy i j with hij | hij | hij
      · exact absurd q (List.pairwise_iff_getElem.1 h.pb i j (List.getElem?_eq_some_iff.1 hi).1 (List.getElem?_eq_some_iff.1 hj).1 hij |> fun hh => by
          rw [(List.getElem?_eq_some_iff.1 hi).2, (List.getElem?_eq_some_iff.1 hj).2] at hh; exact hh)
      · subst hij; rw [hi] at hj; cases hj; rfl
      · exact absurd q.symm (List.pairwise_iff_getElem.1 h.pb j i (List.getElem?_eq_some_iff.1 hj).1 (List.getElem?_eq_some_iff.1 hi).1 hij |> fun hh => by
          rw [(List.getElem?_eq_some_iff.1 hi).2, (List.getElem?_eq_some_iff.1 hj).2] at hh; exact hh)
    subst this
    exact KeyV.inj (k1.symm.trans k2)

/-- A map is known better. -/
theorem SimG.remap {E : Env} {w : World} {G : Nat → Option GObj} {nx : Nat} (hg : SimG E w G nx) {n wv : Nat} {ok ok' : List MapEntry → Nat → Prop} {f : Value → Option C} (hG : G n = some (.map wv ok f))
    (h : ∀ es clock, MapOk E w ok f es clock → (∀ r, E.T n = some (0, wv, .map (some r)) → ∀ es', w.heap[r]? = some (.map es' clock) → es'.toList = es → es'.all (·.born < clock) = true → MapOk E w ok' f es clock)) : SimG E w (setG G n (.map wv ok' f)) nx := by
  refine ⟨hg.nx, fun k ob hk => ?_, hg.lt, hg.tb, hg.ap, hg.fresh, hg.base⟩
  simp only [setG] at hk
  split at hk
  · rename_i e
    subst e
    cases hk
    obtain ⟨r, es, clock, h1, h2, h3, h4⟩ := hg.obj k _ hG
    exact ⟨r, es, clock, h1, h2, h _ _ h3 r h1 es h2 rfl h4, h4⟩
  · exact hg.obj k ob hk

/-- A range over a map begins. -/
theorem e_range {t k e : TypeId} [MapT P t k e] {x : Operand} {n wv : Nat} {m : α → Option C} (ho : o.op = .range t x) (hx : evC st x = .map n) (hG : st.G n = some (gmap P k wv m))
    (h : ∀ (r : Nat) (β : Value → Nat) (cl : Nat) (ks : List α), ks.Nodup → (∀ x, m x ≠ none ↔ x ∈ ks) → (∀ x ∈ ks, ∀ y ∈ ks, β (KeyV.kv x) = β (KeyV.kv y) → x = y) →
      K (St.put { st with G := setG (setG (setG st.G n (gmapB P k wv m β cl)) st.nx (.raw 0 (.mapIter (some r) cl (seenOf β ([] : List α)) cl))) (st.nx + 1) (.fact (.map (some r)) (.map n)), nx := st.nx + 1 + 1 } o.dst (.box st.nx 0 0))) : EStep P o st K := estep_run fun E w a hs => by
  obtain ⟨r, es, clock, hT, hh, hok, hcl⟩ := hs.g.obj n _ hG
  have e1 := map_at (hx ▸ hs.ev x) hT
  have ht := MapT.spec (P := P) (t := t) (k := k) (e := e)
  have hcl' : ∀ e ∈ es.toList, e.born < clock := fun e he => by simpa using Array.all_eq_true_iff_forall_mem.1 hcl e (by simpa using he)
  obtain ⟨β, ks, hB, q1, q2, q3⟩ := stamps hok hcl'
  have hg1 : SimG E w (setG st.G n (gmapB P k wv m β clock)) st.nx := by
    refine hs.g.remap hG fun es' clock' h3 r' h1 es2 h2 h5 _ => ?_
    rw [hT] at h1
    simp only [Option.some.injEq, Prod.mk.injEq, Value.map.injEq, true_and] at h1
    subst h1
    rw [hh] at h2
    cases h2
    subst h5
    exact hB
  obtain ⟨E1, v1, g1, r1, t1⟩ := raw_new hg1 (.mapIter (some r) clock #[] clock) rfl
  have hlt : n < st.nx := by have := hs.g.lt n _ hT; have := hs.g.nx; omega
  have hT1 : E1.T n = some (0, wv, .map (some r)) := (t1 n hlt).trans hT
  have hmr : R E1 (w.alloc (.mapIter (some r) clock #[] clock)) (.map n) (.map (some r)) := .map (by have := g1.nx; omega) fun ver wv' val hv _ => by
    rw [hT1] at hv; cases hv; rfl
  obtain ⟨E2, v2, g2⟩ := fact_new g1 hmr
  refine ⟨.pointer (some ⟨w.heap.size, 0, none⟩), w.alloc (.mapIter (some r) clock #[] clock), E2, _, _, .box st.nx 0 0, ?_, v1.trans v2, r1.ev v2, g2, h r β clock ks q1 q2 q3⟩
  simp [execOp, ho, e1, run_range_map w t k e r es clock ht hh]

theorem seenOf_contains {β : Value → Nat} {done : List α} {b : Nat} : (seenOf β done).contains b = true ↔ ∃ x ∈ done, β (KeyV.kv x) = b := by
  simp [seenOf]

/-- The range goes on, or ends. -/
theorem e_next {k : TypeId} {x : Operand} {i fx n wv wn r cl : Nat} {β : Value → Nat} {m : α → Option C} {ks done : List α} (ho : o.op = .next x false) (hx : evC st x = .box i 0 0) (hI : st.G i = some (.raw wv (.mapIter (some r) cl (seenOf β done) cl))) (hF : st.G fx = some (.fact (.map (some r)) (.map n))) (hG : st.G n = some (gmapB P k wn m β cl))
    (hks : ∀ x, m x ≠ none ↔ x ∈ ks) (hinj : ∀ x ∈ ks, ∀ y ∈ ks, β (KeyV.kv x) = β (KeyV.kv y) → x = y) (hd : ∀ y ∈ done, y ∈ ks)
    (hend : (∀ y ∈ ks, y ∈ done) → K (st.put o.dst (.tup [.v (.bool false)])))
    (hmore : ∀ y c, m y = some c → y ∈ ks → y ∉ done → K (St.put { st with G := setG st.G i (.raw (wv + 1) (.mapIter (some r) cl (seenOf β (done ++ [y])) cl)) } o.dst (.tup [.v (.bool true), KeyV.kc y, c]))) : EStep P o st K := fun E w a hs Kr Q hq => by
  obtain ⟨r', es, clock, hT, hh, hok, hcl⟩ := hs.g.obj n _ hG
  obtain ⟨b, hTi, hi, _⟩ := hs.g.obj i _ hI
  have hfact := (hs.g.obj fx _ hF).2
  have hr' : r' = r := by
    have := map_at hfact hT
    simpa using this.symm
  subst hr'
  obtain ⟨hokK, hclk, hβ⟩ := hok.ok
  subst hclk
  have hcl' : ∀ e ∈ es.toList, e.born < clock := fun e he => by simpa using Array.all_eq_true_iff_forall_mem.1 hcl e (by simpa using he)
  have e1 : a.eval x = .pointer (some ⟨b, 0, none⟩) := by
    have hp := hx ▸ hs.ev x
    generalize hv : a.eval x = v at hp
    cases hp with
    | @box _ _ _ b' h1 h2 =>
      have := (h2 _ _ _ hTi).2 rfl
      simp only [blk, Option.some.injEq] at this
      rw [this]
  have hkey : ∀ e ∈ es.toList, ∃ y : α, e.key = KeyV.kv y ∧ y ∈ ks ∧ ∃ c, m y = some c ∧ R E w c e.val ∧ R E w (KeyV.kc y) e.key := fun e he => by
    obtain ⟨y, _, hy, _, hr⟩ := hokK e he
    obtain ⟨c, hc, hrc⟩ := hok.val e he
    rw [hy, mapV_kv] at hc
    exact ⟨y, hy, (hks y).1 (by rw [hc]; simp), c, hc, hrc, hr E w⟩
  rcases run_next_at (P := P) w o.type b r' clock clock (seenOf β done) es clock hi hh hcl' (Nat.le_refl _) with ⟨hz, hrun⟩ | ⟨en, hen, w1, hw1, hrun⟩
  · have hall := all_seen es (seenOf β done) hz
    have hex : (execOp a.eval o).run P w = .ok (.value (.tuple #[.bool false])) w := by simp [execOp, ho, e1, hrun]
    unfold Oper.wp
    rw [hex]
    refine hq _ _ _ _ (Ev.refl E w) (hs.put o.dst (c := .tup [.v (.bool false)]) (Rs.cons (.v rfl) Rs.nil).tup) (hend fun y hy => ?_)
    obtain ⟨c, hc⟩ := Option.ne_none_iff_exists'.1 ((hks y).2 hy)
    obtain ⟨e, he, hek⟩ := hok.has (KeyV.kv y) c (by rw [mapV_kv, hc])
    obtain ⟨z, hz1, hz2⟩ := seenOf_contains.1 (hall e he)
    rw [hβ e he, hek] at hz2
    exact hinj z (hd z hz1) y hy hz2 ▸ hz1
  · obtain ⟨hm1, hm2⟩ := mem_left hen
    obtain ⟨y, hy, hyk, c, hc, hrc, hrk⟩ := hkey en hm1
    have hnd : y ∉ done := fun hyd => by
      have : (seenOf β done).contains en.born = true := seenOf_contains.2 ⟨y, hyd, by rw [hβ en hm1, hy]⟩
      rw [hm2] at this; cases this
    have hseen : (seenOf β done).push en.born = seenOf β (done ++ [y]) := by simp [seenOf, hβ en hm1, hy]
    rw [hseen] at hrun
    have hhe : w1.heap = w.heap := by rcases hw1 with rfl | rfl <;> rfl
    have hblt : b < w1.heap.size := by rw [hhe]; exact (Array.getElem?_eq_some_iff.1 hi).1
    obtain ⟨ob, hob⟩ : ∃ ob, ob = (Obj.mapIter (some r') clock (seenOf β (done ++ [y])) clock) := ⟨_, rfl⟩
    rw [← hob] at hrun
    have hnew : (w1.putObj b ob).heap[b]? = some ob := World.putObj_heap_same hblt
    have hoth : ∀ k, k ≠ b → (w1.putObj b ob).heap[k]? = w.heap[k]? := fun k hk => by rw [World.putObj_heap_other hk, hhe]
    have htb := hs.g.tb i _ _ _ b hTi rfl
    have hbel1 : Below E.B w w1 := by
      rcases hw1 with rfl | rfl
      · exact Below.refl _ _
      · exact (Below.refl _ _).drew
    have hchg : Chg E w (w1.putObj b ob) 0 wv (.pointer (some ⟨b, 0, none⟩)) 0 (wv + 1) (.pointer (some ⟨b, 0, none⟩)) (E.L b) := by
      refine ⟨⟨hbel1.os, hbel1.tape, hbel1.output, by rw [World.putObj_size, hhe]; exact Nat.le_refl _, fun k hk => hoth k (by omega)⟩, fun k _ hk => hoth k (fun e => hk (by simp [blk, e])), fun b' hb' => .inl ⟨hb', ?_⟩, fun b' j hb' hj => ?_, .inr ⟨rfl, rfl, by omega⟩, fun b' o' hb' ho' => ?_, fun hv => absurd hv (Nat.lt_irrefl _), fun b' hb' hl => ?_⟩
      · simp only [blk, Option.some.injEq] at hb'; subst hb'; exact Nat.le_refl _
      · simp only [blk, Option.some.injEq] at hb'; subst hb'
        unfold World.cell?
        dsimp only
        rw [hi, hnew, hob]
      · simp only [blk, Option.some.injEq] at hb'; subst hb'; rw [hi] at ho'; cases ho'; exact ⟨_, hnew, by rw [hob]; rfl⟩
      · simp only [blk, Option.some.injEq] at hb'; subst hb'; omega
    have hev := Ev.chg hs.g hTi hchg
    have hobj : ObjOk (E.chg i (0, wv + 1, .pointer (some ⟨b, 0, none⟩)) (E.L b)) (w1.putObj b ob) i (.raw (wv + 1) ob) := ⟨b, by simp [Env.chg], hnew, by rw [hob]; rfl⟩
    have hg := SimG.chg hs.g hTi hchg hobj
    have hex : (execOp a.eval o).run P w = .ok (.value (.tuple #[.bool true, en.key, en.val])) (w1.putObj b ob) := by simp [execOp, ho, e1, hrun]
    unfold Oper.wp
    rw [hex]
    subst hob
    refine hq _ _ _ _ hev ((hs.evd hev hg).put o.dst (c := .tup [.v (.bool true), KeyV.kc y, c]) ((Rs.cons (.v rfl) (Rs.cons (hrk.ev hev) (Rs.cons (hrc.ev hev) Rs.nil))).tup)) (hmore y c hc hyk hnd)

/-- The entry that came last. -/
theorem s_entry {D : Nat → Prop} {k : TypeId} {x : Operand} {i fx n wv wn r cl : Nat} {β : Value → Nat} {m : α → Option C} {done : List α} {y : α} {c : C} (ho : o.op = .entry x) (hx : evC st x = .box i 0 0) (hI : st.G i = some (.raw wv (.mapIter (some r) cl (seenOf β (done ++ [y])) cl))) (hDi : D i) (hF : st.G fx = some (.fact (.map (some r)) (.map n))) (hG : st.G n = some (gmapB P k wn m β cl)) (hDn : D n)
    (hm : m y = some c) : SStep P D o st (.tup [KeyV.kc y, c]) := fun E w a hs => by
  obtain ⟨r', es, clock, hT, hh, hok, hcl⟩ := hs.g.obj n _ hG
  obtain ⟨b, hTi, hi, _⟩ := hs.g.obj i _ hI
  have hfact := (hs.g.obj fx _ hF).2
  have hr' : r' = r := by
    have := map_at hfact hT
    simpa using this.symm
  subst hr'
  obtain ⟨hokK, hclk, hβ⟩ := hok.ok
  subst hclk
  have e1 : a.eval x = .pointer (some ⟨b, 0, none⟩) := by
    have hp := hx ▸ hs.ev x
    generalize hv : a.eval x = v at hp
    cases hp with
    | @box _ _ _ b' h1 h2 =>
      have := (h2 _ _ _ hTi).2 rfl
      simp only [blk, Option.some.injEq] at this
      rw [this]
  obtain ⟨e, he, hek⟩ := hok.has (KeyV.kv y) c (by rw [mapV_kv, hm])
  obtain ⟨y', _, hy', _, hr⟩ := hokK e he
  have hyy : y' = y := KeyV.inj (hy'.symm.trans hek)
  subst hyy
  obtain ⟨c', hc', hrc⟩ := hok.val e he
  rw [hek, mapV_kv, hm] at hc'
  cases hc'
  refine ⟨.tuple #[e.key, e.val], (Rs.cons (hr E w) (Rs.cons hrc Rs.nil)).tup, fun w' hk => ?_⟩
  have hb' := (hk.2 n hDn _ _ _ r' hT rfl).trans hh
  have hi' := (hk.2 i hDi _ _ _ b hTi rfl).trans hi
  have hback : (seenOf β (done ++ [y'])).back? = some e.born := by
    rw [hβ e he, hek]; simp [seenOf]
  have hn : (es.toList.map (·.born)).Nodup := List.pairwise_map.2 hok.pb
  have hf : es.find? (·.born == e.born) = some e := by rw [← Array.find?_toList]; exact find_born e es.toList hn he
  simp [execOp, ho, e1, Instr.entry, getObj, Sem.run, hi', hb', hback, hf, Result.andThen]

/-- A map over which a range ran is a map as others. -/
theorem aw_unrange {Q : Exit → St → Prop} {c : Code} {k : TypeId} {n wv : Nat} {m : α → Option C} {β : Value → Nat} {cl : Nat} (hG : st.G n = some (gmapB P k wv m β cl)) (h : AW ρ P c Q { st with G := setG st.G n (gmap P k wv m) }) : AW ρ P c Q st := by
  refine aw_le (st' := { st with G := setG st.G n (gmap P k wv m) }) (fun E w a hs => ⟨hs.d, hs.sz, hs.t, hs.g.remap hG fun es clock hk _ _ _ _ _ _ => ?_⟩) h
  exact ⟨hk.ok.1, hk.pw, hk.pb, hk.val, hk.has⟩
/-- A key that is there gets another value while a range runs. -/
theorem e_mapUpdateB [DecidableEq α] {t k e : TypeId} [MapT P t k e] [KeyT P k α] {x i y : Operand} {n wv cl : Nat} {β : Value → Nat} {m m' : α → Option C} (key : α) (hthere : m key ≠ none) (ho : o.op = .mapUpdate t x i y) (hd : o.dst = none) (hx : evC st x = .map n) (hG : st.G n = some (gmapB P k wv m β cl)) (hi : evC st i = KeyV.kc key) (hm : mset m key (evC st y) = m')
    (h : K { st with G := setG st.G n (gmapB P k (wv + 1) m' β cl) }) : EStep P o st K := by
  refine mapUpdate_core key ho hd hx hG (fun _ _ h => h.1) (fun E w es es' clock clock' hk he hc => ?_) hi hm h
  obtain ⟨c, hc0⟩ := Option.ne_none_iff_exists'.1 hthere
  obtain ⟨e0, h0, h1⟩ := hk.has (KeyV.kv key) c (by rw [mapV_kv, hc0])
  obtain ⟨q1, q2, q3⟩ := hk.ok
  refine ⟨fun e h => ?_, (hc ⟨e0, h0, h1⟩).trans q2, fun e h => ?_⟩
  · rcases he e h with h | h
    · exact h.1
    · exact q1 e h.1
  · rcases he e h with ⟨_, hk1, ⟨e2, h2, k2, b2⟩ | ⟨hno, _⟩⟩ | h
    · rw [← b2, q3 e2 h2, k2, hk1]
    · exact absurd h1 (hno e0 h0)
    · exact q3 e h.1

/-- What the run of a deletion leaves. -/
theorem e_delete [DecidableEq α] {t kt k e : TypeId} [MapT P t k e] [KeyT P k α] {x i : Operand} {n wv : Nat} {m m' : α → Option C} (key : α) (ho : o.op = .call { callee := .builtin .delete, args := #[x, i], argTypes := #[t, kt] }) (hx : evC st x = .map n) (hG : st.G n = some (gmap P k wv m)) (hi : evC st i = KeyV.kc key) (hm : mdel m key = m')
    (h : K (St.put { st with G := setG st.G n (gmap P k (wv + 1) m') } o.dst (.tup []))) : EStep P o st K := fun E w a hs Kr Q hq => by
  subst hm
  obtain ⟨r, es, clock, hT, hh, hok, hcl⟩ := hs.g.obj n _ hG
  have e1 := map_at (hx ▸ hs.ev x) hT
  have hkr := hi ▸ hs.ev i
  have e2 := KeyV.inv hkr
  obtain ⟨kl, hkey⟩ := KeyT.has (P := P) (k := k) hkr
  have ht := MapT.spec (P := P) (t := t) (k := k) (e := e)
  have Kd := KeyT.keyed (P := P) (k := k) (α := α)
  have hk1 : ∀ e ∈ es.toList, ∃ l, keyOf P k e.key = some l := fun e he => let ⟨_, l, _, h, _⟩ := hok.ok e he; ⟨l, h⟩
  obtain ⟨es', hrun, h1, h2, h3⟩ : ∃ es' : Array MapEntry, (Builtin.delete_ #[t, kt] o.type #[.map (some r), KeyV.kv key]).run P w = .ok (.tuple #[]) (ChangeMaps.setBlock w r (.map es' clock)) ∧ es'.toList.Sublist es.toList ∧ (∀ e ∈ es'.toList, e.key ≠ KeyV.kv key) ∧ ∀ e ∈ es.toList, e.key ≠ KeyV.kv key → e ∈ es'.toList := by
    rcases Kd.find w hkey es.toList hk1 with ⟨hf, hn⟩ | ⟨j, e0, hf, hj, hke⟩
    · exact ⟨es, by simp [Builtin.delete_, run_underlying ht, MapKept.run_getObj_map hh, Kd.check w _ hkey, hf, MapKept.run_setObj_map _ hh, Result.andThen, ChangeMaps.setBlock], List.Sublist.refl _, hn, fun e he _ => he⟩
    · have hjl : j < es.toList.length := (List.getElem?_eq_some_iff.1 hj).1
      refine ⟨es.eraseIdxIfInBounds j, by simp [Builtin.delete_, run_underlying ht, MapKept.run_getObj_map hh, Kd.check w _ hkey, hf, MapKept.run_setObj_map _ hh, Result.andThen, ChangeMaps.setBlock], ?_, fun e he => ?_, fun e he hne => ?_⟩
      · rw [Array.toList_eraseIdxIfInBounds]; exact List.eraseIdx_sublist _ _
      · rw [Array.toList_eraseIdxIfInBounds] at he
        obtain ⟨i, hi, hij, hie⟩ := List.mem_eraseIdx_iff_getElem.1 he
        intro hk
        have hee : e ∈ es.toList := hie ▸ List.getElem_mem hi
        have : e = e0 := Go.entry_eq_of_key hok.pw hee (List.mem_of_getElem? hj) (hk.trans hke.symm)
        have h0 := List.pairwise_iff_getElem.1 hok.pw
        have hjj := (List.getElem?_eq_some_iff.1 hj).2
        rcases Nat.lt_or_gt_of_ne hij with hlt | hlt
        · exact h0 i j hi hjl hlt (by rw [hie, hjj, this])
        · exact h0 j i hjl hi hlt (by rw [hie, hjj, this])
      · rw [Array.toList_eraseIdxIfInBounds]
        obtain ⟨i, hi, hie⟩ := List.getElem_of_mem he
        refine List.mem_eraseIdx_iff_getElem.2 ⟨i, hi, fun hij => hne ?_, hie⟩
        subst hij
        rw [← hie, (List.getElem?_eq_some_iff.1 hj).2]; exact hke
  have hnew : (ChangeMaps.setBlock w r (.map es' clock)).heap[r]? = some (.map es' clock) := ChangeMaps.heap_setBlock_same hh _
  have hchg : Chg E w (ChangeMaps.setBlock w r (.map es' clock)) 0 wv (.map (some r)) 0 (wv + 1) (.map (some r)) (E.L r) := by
    have hbn := hs.g.tb n _ _ _ r hT rfl
    refine ⟨⟨rfl, rfl, rfl, by simp [ChangeMaps.setBlock], fun k hk => setBlock_other w r k _ (by omega)⟩, fun k _ hk => setBlock_other w r k _ (fun e => hk (by simp [blk, e])), fun b hb => .inl ⟨hb, ?_⟩, fun b i hb hi => ?_, .inr ⟨rfl, rfl, by omega⟩, fun b o hb ho => ?_, fun hv => absurd hv (Nat.lt_irrefl _), fun b hb hl => ?_⟩
    · simp only [blk, Option.some.injEq] at hb; subst hb; exact Nat.le_refl _
    · simp only [blk, Option.some.injEq] at hb; subst hb
      simp [World.cell?, hh, hnew]
    · simp only [blk, Option.some.injEq] at hb; subst hb; rw [hh] at ho; cases ho; exact ⟨_, hnew, rfl⟩
    · simp only [blk, Option.some.injEq] at hb; subst hb; omega
  have hev := Ev.chg hs.g hT hchg
  have hobj : ObjOk (E.chg n (0, wv + 1, .map (some r)) (E.L r)) (ChangeMaps.setBlock w r (.map es' clock)) n (gmap P k (wv + 1) (mdel m key)) := by
    have hin : ∀ e ∈ es'.toList, e ∈ es.toList := fun e he => h1.subset he
    refine ⟨r, es', clock, by simp [Env.chg], hnew, ⟨fun e he => hok.ok e (hin e he), hok.pw.sublist h1, hok.pb.sublist h1, fun e he => ?_, fun x c hx => ?_⟩, ?_⟩
    · obtain ⟨c, hc, hr⟩ := hok.val e (hin e he)
      refine ⟨c, ?_, hr.ev hev⟩
      obtain ⟨y, l, hy, _⟩ := hok.ok e (hin e he)
      rw [hy, mapV_kv] at hc ⊢
      have : y ≠ key := fun e2 => h2 e he (by rw [hy, e2])
      simp [mdel, this, hc]
    · by_cases hex : ∃ y : α, x = KeyV.kv y
      · obtain ⟨y, rfl⟩ := hex
        rw [mapV_kv] at hx
        by_cases hyk : y = key
        · subst hyk; simp [mdel] at hx
        · simp only [mdel, hyk, if_false] at hx
          obtain ⟨e, he, hek⟩ := hok.has (KeyV.kv y) c (by rw [mapV_kv]; exact hx)
          exact ⟨e, h3 e he (by rw [hek]; exact fun e2 => hyk (KeyV.inj e2)), hek⟩
      · rw [mapV_none _ hex] at hx; cases hx
    · refine Array.all_eq_true_iff_forall_mem.2 fun e he => ?_
      exact Array.all_eq_true_iff_forall_mem.1 hcl e (by simpa using hin e (by simpa using he))
  have hg := SimG.chg hs.g hT hchg hobj
  have hex : (execOp a.eval o).run P w = .ok (.value (.tuple #[])) (ChangeMaps.setBlock w r (.map es' clock)) := by simp [execOp, ho, resolve, invoke, builtin, e1, e2, hrun]
  unfold Oper.wp
  rw [hex]
  exact hq _ _ _ _ hev ((hs.evd hev hg).put o.dst (R.undef _ _)) h
end
end Go.AB
