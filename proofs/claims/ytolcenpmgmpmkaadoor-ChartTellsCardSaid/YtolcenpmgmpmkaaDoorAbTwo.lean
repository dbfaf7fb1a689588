/-
  Abstract states: what is known of a frame's slots and of the named objects; when a world and a frame meet it.
-/
import Derived.Test.YtolcenpmgmpmkaaDoorAbOne
import Derived.Laws.AppendOwn
namespace Go.AB
open Go Go.RowKit

/-- A named object: a variable (its cells); an own slice (its elements' cells); an own slice whose elements are laid for good. -/
inductive GObj where
  | box (wv : Nat) (cs : List C)
  | arr (ver wv : Nat) (tt : TypeId) (sz len : Nat) (cs : List C)
  | tip (len : Nat) (tt : TypeId) (sz : Nat)
  | fact (v : Value) (c : C)
  | map (wv : Nat) (ok : List MapEntry → Nat → Prop) (f : Value → Option C)
  | raw (wv : Nat) (o : Obj)

/-- What stands in a slot: what was written last, or what stood there at the head of a list. -/
def getA (l : List C) : List (Nat × C) → Nat → C
  | [], i => l.getD i .any
  | (d, c) :: r, i => bif Nat.beq d i then c else getA l r i

/-- An abstract state: how many slots; what stands in the first ones; what was written since; the named objects; the next name. -/
structure St where
  n : Nat
  l : List C
  r : List (Nat × C)
  G : Nat → Option GObj
  nx : Nat
  df : Nat := 0

def St.at (st : St) (i : Nat) : C := bif Nat.blt i st.n then getA st.l st.r i else .any

/-- The entries of a map: which cells stand for the value of which key. -/
structure MapOk (E : Env) (w : World) (ok : List MapEntry → Nat → Prop) (f : Value → Option C) (es : List MapEntry) (clock : Nat) : Prop where
  ok : ok es clock
  pw : es.Pairwise fun a b => a.key ≠ b.key
  pb : es.Pairwise fun a b => a.born ≠ b.born
  val : ∀ e ∈ es, ∃ c, f e.key = some c ∧ R E w c e.val
  has : ∀ x c, f x = some c → ∃ e ∈ es, e.key = x
theorem MapOk.imp {E E' : Env} {w w' : World} {ok : List MapEntry → Nat → Prop} {f : Value → Option C} {es : List MapEntry} {clock : Nat} (h : MapOk E w ok f es clock) (k : ∀ x c v, f x = some c → R E w c v → R E' w' c v) : MapOk E' w' ok f es clock :=
  ⟨h.ok, h.pw, h.pb, fun e he => let ⟨c, h1, h2⟩ := h.val e he; ⟨c, h1, k _ c _ h1 h2⟩, h.has⟩
def ObjOk (E : Env) (w : World) (n : Nat) : GObj → Prop
  | .fact v c => E.T n = some (0, 0, undef) ∧ R E w c v
  | .raw wv o => ∃ b, E.T n = some (0, wv, .pointer (some ⟨b, 0, none⟩)) ∧ w.heap[b]? = some o ∧ o.isCells = false
  | .map wv ok f => ∃ r es clock, E.T n = some (0, wv, .map (some r)) ∧ w.heap[r]? = some (.map es clock) ∧ MapOk E w ok f es.toList clock ∧ es.all (·.born < clock) = true
  | .box wv cs => ∃ b us tt, E.T n = some (0, wv, .pointer (some ⟨b, 0, none⟩)) ∧ w.heap[b]? = some (.cells us tt (0, 0)) ∧ (∀ c ∈ cs, c.one = true) ∧ Rs E w cs us.toList ∧ E.L b = 0
  | .arr ver wv tt sz len cs => ∃ val us, E.T n = some (ver, wv, val) ∧ w.ownsRow E.B tt sz val len us ∧ (∀ c ∈ cs, c.one = true) ∧ Rs E w cs us ∧ (∀ b, blk val = some b → E.L b = 0) ∧ 1 ≤ sz
  | .tip len tt sz => ∃ val us, E.T n = some (len, 0, val) ∧ w.ownsRow E.B tt sz val len us ∧ (∀ b, blk val = some b → E.L b = len * sz) ∧ 1 ≤ sz

structure SimG (E : Env) (w : World) (G : Nat → Option GObj) (nx : Nat) : Prop where
  nx : E.nx = nx
  obj : ∀ n o, G n = some o → ObjOk E w n o
  lt : ∀ n t, E.T n = some t → n < E.nx
  tb : ∀ n ver wv val b, E.T n = some (ver, wv, val) → blk val = some b → E.B ≤ b ∧ b < w.heap.size
  ap : ∀ n m t t' b, E.T n = some t → E.T m = some t' → n ≠ m → blk t.2.2 = some b → blk t'.2.2 ≠ some b
  fresh : ∀ b, w.heap.size ≤ b → E.L b = 0
  base : E.B ≤ w.heap.size

/-- A frame's deferred calls: marks of ranges over functions, of which each is shut. -/
def DefOk (E : Env) (w : World) : List Deferred → Prop
  | [] => E.F ≤ w.heap.size
  | d :: ds => (∃ D, d = { target := .collected D, args := #[] } ∧ E.F ≤ D ∧ w.heap[D]? = some (.deferred (some [])) ∧ (∀ n t, E.T n = some t → blk t.2.2 ≠ some D) ∧ ∀ d' ∈ ds, d'.target ≠ .collected D) ∧ DefOk E w ds
theorem DefOk.ev {E E' : Env} {w w' : World} (h : Ev E w E' w') : ∀ {ds : List Deferred}, DefOk E w ds → DefOk E' w' ds
  | [], hF => Nat.le_trans (h.x.F ▸ hF) h.below.size
  | d :: ds, ⟨⟨D, e, hF, hD, hu, hn⟩, k⟩ => by
    refine ⟨⟨D, e, by rw [h.x.F]; exact hF, h.x.oth D _ hD rfl hu, fun n t ht hb => ?_, hn⟩, DefOk.ev h k⟩
    obtain ⟨t0, h0, h1⟩ := h.x.nb n t D _ ht hb hD rfl
    exact hu n t0 h0 h1
theorem DefOk.sub {E E' : Env} {w : World} (hF : E'.F = E.F) (hT : ∀ n t, E'.T n = some t → E.T n = some t) : ∀ {ds : List Deferred}, DefOk E w ds → DefOk E' w ds
  | [], h => by show E'.F ≤ w.heap.size; rw [hF]; exact h
  | d :: ds, ⟨⟨D, e, h1, h2, h3, h4⟩, k⟩ => ⟨⟨D, e, by rw [hF]; exact h1, h2, fun n t ht => h3 n t (hT n t ht), h4⟩, DefOk.sub hF hT k⟩

theorem DefOk.F {E : Env} {w : World} : ∀ {ds : List Deferred}, DefOk E w ds → E.F ≤ w.heap.size
  | [], h => h
  | _ :: _, ⟨_, k⟩ => DefOk.F k
/-- .. so many. -/
def DefN (E : Env) (w : World) (n : Nat) (ds : List Deferred) : Prop := DefOk E w ds ∧ ds.length = n
theorem DefN.ev {E E' : Env} {w w' : World} {n : Nat} (h : Ev E w E' w') {ds : List Deferred} (k : DefN E w n ds) : DefN E' w' n ds := ⟨k.1.ev h, k.2⟩
theorem DefN.sub {E E' : Env} {w : World} {n : Nat} (hF : E'.F = E.F) (hT : ∀ n t, E'.T n = some t → E.T n = some t) {ds : List Deferred} (k : DefN E w n ds) : DefN E' w n ds := ⟨k.1.sub hF hT, k.2⟩
theorem DefN.F {E : Env} {w : World} {n : Nat} {ds : List Deferred} (k : DefN E w n ds) : E.F ≤ w.heap.size := k.1.F

structure Sim (E : Env) (w : World) (st : St) (a : Act) : Prop where
  d : DefN E w st.df a.defers
  sz : a.tmps.size = st.n
  t : ∀ (i : Nat) (v : Value), a.tmps[i]? = some v → R E w (getA st.l st.r i) v
  g : SimG E w st.G st.nx

/-- A constant's cells. -/
def constC : Value → C
  | .slice none 0 0 => .list [] .nil
  | .agg cs => if cs.toList.all okV then .agg (cs.toList.map fun x => match x with | .slice none 0 0 => .list [] .nil | x => .v x) else .any
  | .tuple cs => if cs.toList = [] then .tup [] else .any
  | x => bif okV x then .v x else .any

theorem R.nil (E : Env) (w : World) : R E w (.list [] .nil) (.slice none 0 0) :=
  .list (rows := []) (sz := 1) (us := fun _ => undef) (Nat.le_refl _) (Nat.zero_le _) (Nat.le_refl _) (by simp) (by simp) (.inl rfl) (by simp) (fun _ => ⟨rfl, rfl⟩) (fun _ => rfl) (by simp)

theorem R.undef (E : Env) (w : World) : R E w (.tup []) undef := .tup (cs := []) (us := fun _ => Go.undef) rfl (by simp) (by simp)

theorem R.const (E : Env) (w : World) (v : Value) : R E w (constC v) v := by
  have one : ∀ x : Value, okV x = true → R E w (match x with | .slice none 0 0 => .list [] .nil | x => .v x) x := by
    intro x hx
    split
    · exact R.nil E w
    · exact .v hx
  unfold constC
  split
  · exact R.nil E w
  · rename_i cs
    split
    · rename_i h
      refine .agg (us := fun j => cs.getD j Go.undef) (by simp) ?_ ?_ ?_
      · intro c hc
        obtain ⟨x, _, rfl⟩ := List.mem_map.1 hc
        split <;> rfl
      · intro j c hj
        rw [List.getElem?_map] at hj
        cases hx : cs.toList[j]? with
        | none => rw [hx] at hj; cases hj
        | some x =>
          rw [hx] at hj
          simp only [Option.map_some, Option.some.injEq] at hj
          subst hj
          have hm : x ∈ cs.toList := List.mem_of_getElem? hx
          have h1 := List.all_eq_true.1 h x hm
          have : cs.getD j Go.undef = x := by
            rw [Array.getD_eq_getD_getElem?, ← Array.getElem?_toList, hx]; rfl
          rw [this]
          exact one x h1
      · intro j hj
        have : j < cs.size := by simpa using hj
        simp [this]
    · exact .any
  · rename_i cs
    split
    · rename_i h
      have : cs = #[] := by simpa using h
      subst this
      exact R.undef E w
    · exact .any
  · rename_i h1 h2 h3
    cases hv : okV v
    · exact .any
    · exact .v hv

def evC (st : St) : Operand → C
  | .tmp i => st.at i
  | .const v => constC v
  | .func f => .fn (.func f) []
  | .global g => .v (.pointer (some ⟨g, 0, none⟩))

theorem Sim.at {E : Env} {w : World} {st : St} {a : Act} (h : Sim E w st a) (i : Nat) : R E w (st.at i) (a.tmps.getD i undef) := by
  unfold St.at
  cases hb : Nat.blt i st.n
  · exact .any
  · have hlt : i < a.tmps.size := by rw [h.sz]; simpa [Nat.blt_eq] using hb
    have hv : a.tmps[i]? = some (a.tmps.getD i undef) := by simp [hlt]
    exact h.t i _ hv

theorem Sim.ev {E : Env} {w : World} {st : St} {a : Act} (h : Sim E w st a) (o : Operand) : R E w (evC st o) (a.eval o) := by
  cases o with
  | tmp i => exact h.at i
  | const v => exact R.const E w v
  | func f => exact .fn (caps := []) (us := fun _ => undef) rfl (by simp) (by simp)
  | global g => exact .v rfl

def St.put (st : St) (d : Option Tmp) (c : C) : St := match d with | some i => { st with r := (i, c) :: st.r } | none => st

theorem Sim.put {E : Env} {w : World} {st : St} {a : Act} (h : Sim E w st a) (d : Option Tmp) {c : C} {v : Value} (hr : R E w c v) : Sim E w (st.put d c) (a.put d v) := by
  cases d with
  | none => exact h
  | some d =>
    refine ⟨h.d, by simpa [Act.put, St.put] using h.sz, ?_, h.g⟩
    intro i x hi
    simp only [Act.put, Array.getElem?_setIfInBounds] at hi
    simp only [St.put, getA]
    split at hi
    · rename_i hd
      split at hi
      · simp only [Option.some.injEq] at hi
        subst hi; subst hd
        rw [Nat.beq_refl]; exact hr
      · cases hi
    · rename_i hd
      have : Nat.beq d i = false := by
        cases hb : Nat.beq d i
        · rfl
        · exact (hd (Nat.eq_of_beq_eq_true hb)).elim
      rw [this]
      exact h.t i x hi

/-- What was written since is put into the list of the first slots; the others are forgotten. -/
def firsts (l : List C) (r : List (Nat × C)) : Nat → Nat → List C
  | _, 0 => []
  | i, k + 1 => getA l r i :: firsts l r (i + 1) k
theorem firsts_get (l : List C) (r : List (Nat × C)) : ∀ (k i j : Nat), (firsts l r i k)[j]? = if j < k then some (getA l r (i + j)) else none
  | 0, i, j => by simp [firsts]
  | k + 1, i, 0 => by simp [firsts]
  | k + 1, i, j + 1 => by
    simp only [firsts, List.getElem?_cons_succ, firsts_get l r k (i + 1) j]
    by_cases h : j < k
    · rw [if_pos h, if_pos (by omega)]; congr 2; omega
    · rw [if_neg h, if_neg (by omega)]
theorem Sim.wipe {E : Env} {w : World} {st : St} {a : Act} (h : Sim E w st a) (k : Nat) : Sim E w { st with l := firsts st.l st.r 0 k, r := [] } a := by
  refine ⟨h.d, h.sz, fun i v hv => ?_, h.g⟩
  simp only [getA]
  rw [List.getD_eq_getElem?_getD, firsts_get]
  split
  · simpa using h.t i v hv
  · exact .any

theorem ObjOk.keep {E E' : Env} {w w' : World} {n : Nat} {o : GObj} (h : ObjOk E w n o) (hev : Ev E w E' w') (hT : E'.T n = E.T n)
    (hh : ∀ ver wv val b, E.T n = some (ver, wv, val) → blk val = some b → w'.heap[b]? = w.heap[b]? ∧ E'.L b = E.L b) : ObjOk E' w' n o := by
  cases o with
  | fact v c => exact ⟨hT.trans h.1, h.2.ev hev⟩
  | raw wv o => obtain ⟨b, h1, h2, h3⟩ := h; exact ⟨b, hT.trans h1, (hh _ _ _ b h1 rfl).1.trans h2, h3⟩
  | map wv ok f =>
    obtain ⟨r, es, clock, h1, h2, h3, h4⟩ := h
    exact ⟨r, es, clock, hT.trans h1, (hh _ _ _ r h1 rfl).1.trans h2, h3.imp fun _ _ _ _ hr => hr.ev hev, h4⟩
  | box wv cs =>
    obtain ⟨b, us, tt, h1, h2, h3, h4, h5⟩ := h
    obtain ⟨e1, e2⟩ := hh _ _ _ b h1 rfl
    exact ⟨b, us, tt, hT.trans h1, e1.trans h2, h3, h4.ev hev, e2.trans h5⟩
  | arr ver wv tt sz len cs =>
    obtain ⟨val, us, h1, h2, h3, h4, h5, h6⟩ := h
    refine ⟨val, us, hT.trans h1, ⟨h2.1, ?_⟩, h3, h4.ev hev, fun b hb => (hh _ _ _ b h1 hb).2.trans (h5 b hb), h6⟩
    rcases h2.2 with h2 | ⟨g, cap, cur, rfl, hg, hgg, rest⟩
    · exact .inl h2
    · exact .inr ⟨g, cap, cur, rfl, hev.B ▸ hg, (hh _ _ _ g h1 rfl).1.trans hgg, rest⟩
  | tip len tt sz =>
    obtain ⟨val, us, h1, h2, h5, h6⟩ := h
    refine ⟨val, us, hT.trans h1, ⟨h2.1, ?_⟩, fun b hb => (hh _ _ _ b h1 hb).2.trans (h5 b hb), h6⟩
    rcases h2.2 with h2 | ⟨g, cap, cur, rfl, hg, hgg, rest⟩
    · exact .inl h2
    · exact .inr ⟨g, cap, cur, rfl, hev.B ▸ hg, (hh _ _ _ g h1 rfl).1.trans hgg, rest⟩

theorem Sim.evd {E E' : Env} {w w' : World} {st : St} {a : Act} (h : Sim E w st a) (hev : Ev E w E' w') {G : Nat → Option GObj} {nx : Nat} (hg : SimG E' w' G nx) : Sim E' w' { st with G := G, nx := nx } a :=
  ⟨h.d.ev hev, h.sz, fun i v hv => (h.t i v hv).ev hev, hg⟩

/-- Only what is there may be forgotten. -/
theorem SimG.weak {E : Env} {w : World} {G G' : Nat → Option GObj} {nx : Nat} (h : SimG E w G nx) (hs : ∀ n o, G' n = some o → G n = some o) : SimG E w G' nx :=
  ⟨h.nx, fun n o ho => h.obj n o (hs n o ho), h.lt, h.tb, h.ap, h.fresh, h.base⟩

/-! ### Changes of the world -/
/-- The heap is the same. -/
theorem Ev.same {E : Env} {w w' : World} (hb : Below E.B w w') (hh : w'.heap = w.heap) : Ev E w E w' :=
  ⟨hb, rfl, fun _ => Nat.le_refl _, fun b i _ => World.cell?_of_block (w := w) (by rw [hh]), Nat.le_refl _, fun n _ ver wv val h => ⟨ver, wv, val, h, Nat.le_refl _, fun _ => ⟨rfl, fun _ _ _ => by rw [hh]⟩⟩, fun n ver wv wv' val h h' _ => by rw [h] at h'; simp at h'; omega,
   ⟨rfl, fun b h => absurd h (Nat.lt_irrefl _), fun b o h _ _ => by rw [hh]; exact h, fun b o h => ⟨o, by rw [hh]; exact h, rfl⟩, fun _ t _ _ h k _ _ => ⟨t, h, k⟩, fun n t t' b _ h h' hv _ => by rw [h] at h'; cases h'; omega⟩⟩
theorem SimG.same {E : Env} {w w' : World} {G : Nat → Option GObj} {nx : Nat} (h : SimG E w G nx) (hb : Below E.B w w') (hh : w'.heap = w.heap) : SimG E w' G nx :=
  ⟨h.nx, fun n o ho => (h.obj n o ho).keep (Ev.same hb hh) rfl (fun _ _ _ _ _ _ => ⟨by rw [hh], rfl⟩), h.lt, fun n ver wv val b h1 h2 => by rw [hh]; exact h.tb n ver wv val b h1 h2, h.ap, fun b hb' => h.fresh b (by rw [← hh]; exact hb'), by rw [hh]; exact h.base⟩

/-- A new block, so many of its cells for good. -/
def Env.lay (E : Env) (b n : Nat) : Env := { E with L := fun k => if k = b then n else E.L k }

theorem alloc_cell0 (w : World) (us : Array Value) (tt : TypeId) : us.size = 0 ∨ ∃ v, (w.alloc (.cells us tt)).cell? ⟨w.heap.size, 0, none⟩ = some v := by
  rcases Nat.eq_zero_or_pos us.size with h | h
  · exact .inl h
  · refine .inr ⟨us[0], ?_⟩
    have : (w.alloc (.cells us tt)).heap[w.heap.size]? = some (.cells us tt) := heap_alloc_new w _
    unfold World.cell?
    dsimp only
    rw [this]
    simp [h]
theorem Ev.laid {E : Env} {w w' : World} {G : Nat → Option GObj} {nx : Nat} (h : SimG E w G nx) {o : Obj} (n : Nat) (hw : w' = w.alloc o ∨ w' = w.drew.alloc o) (hx : n = 0 ∨ ∃ v, w'.cell? ⟨w.heap.size, 0, none⟩ = some v := by exact .inl rfl) : Ev E w (E.lay w.heap.size n) w' := by
  have hb : Below E.B w w' := by
    rcases hw with rfl | rfl
    · exact (Below.refl _ _).alloc h.base o
    · exact ((Below.refl _ _).drew).alloc h.base o
  have hold : ∀ k, k < w.heap.size → w'.heap[k]? = w.heap[k]? := by
    rcases hw with rfl | rfl
    · exact fun k hk => Below.heap_alloc w o k hk
    · exact fun k hk => Below.heap_alloc w.drew o k hk
  refine ⟨hb, rfl, fun b => ?_, fun b i hi => ?_, Nat.le_refl _, fun k _ ver wv val hk => ⟨ver, wv, val, hk, Nat.le_refl _, fun _ => ⟨rfl, fun _ b hb => hold b (h.tb k ver wv val b hk hb).2⟩⟩, fun k ver wv wv' val h1 h2 _ => by rw [show (E.lay w.heap.size n).T = E.T from rfl, h1] at h2; simp at h2; omega, ?_⟩
  · simp only [Env.lay]
    split
    · rename_i e; subst e; rw [h.fresh _ (Nat.le_refl _)]; exact Nat.zero_le _
    · exact Nat.le_refl _
  · have : b < w.heap.size := by
      rcases Nat.lt_or_ge b w.heap.size with h1 | h1
      · exact h1
      · rw [h.fresh b h1] at hi; omega
    exact World.cell?_of_block (w := w) (hold b this)
  · refine ⟨rfl, fun b hb => ?_, fun b o ho _ _ => ?_, fun b o ho => ⟨o, ?_, rfl⟩, fun _ t _ _ ht hb _ _ => ⟨t, ht, hb⟩, fun k t t' b _ h1 h2 hv _ => by
      have h3 : E.T k = some t' := h2
      rw [h1] at h3; cases h3; omega⟩
    · simp only [Env.lay] at hb
      split at hb
      · rename_i e; subst e
        rcases hx with h0 | h0
        · omega
        · exact h0
      · omega
    · exact (hold b (Array.getElem?_eq_some_iff.1 ho).1).trans ho
    · exact (hold b (Array.getElem?_eq_some_iff.1 ho).1).trans ho

theorem SimG.laid {E : Env} {w w' : World} {G : Nat → Option GObj} {nx : Nat} (h : SimG E w G nx) {o : Obj} (n : Nat) (hw : w' = w.alloc o ∨ w' = w.drew.alloc o) (hx : n = 0 ∨ ∃ v, w'.cell? ⟨w.heap.size, 0, none⟩ = some v := by exact .inl rfl) : SimG (E.lay w.heap.size n) w' G nx := by
  have hev := Ev.laid h n hw hx
  have hsz : w'.heap.size = w.heap.size + 1 := by rcases hw with rfl | rfl <;> simp
  have hold : ∀ k, k < w.heap.size → w'.heap[k]? = w.heap[k]? := by
    rcases hw with rfl | rfl
    · exact fun k hk => Below.heap_alloc w o k hk
    · exact fun k hk => Below.heap_alloc w.drew o k hk
  refine ⟨h.nx, fun k ob ho => (h.obj k ob ho).keep hev rfl (fun ver wv val b h1 h2 => ?_), h.lt, fun k ver wv val b h1 h2 => ?_, h.ap, fun b hb => ?_, by rw [hsz]; exact Nat.le_trans h.base (Nat.le_succ _)⟩
  · have hlt := (h.tb k ver wv val b h1 h2).2
    exact ⟨hold b hlt, by simp only [Env.lay]; rw [if_neg (by omega)]⟩
  · have := h.tb k ver wv val b h1 h2
    exact ⟨this.1, by omega⟩
  · simp only [Env.lay]
    rw [if_neg (by omega)]
    exact h.fresh b (by omega)

/-- A new name. -/
def Env.name (E : Env) (val : Value) : Env := { E with T := fun k => if k = E.nx then some (0, 0, val) else E.T k, nx := E.nx + 1 }
def setG (G : Nat → Option GObj) (n : Nat) (o : GObj) : Nat → Option GObj := fun k => if k = n then some o else G k

theorem Ev.name {E : Env} {w : World} {G : Nat → Option GObj} {nx : Nat} (_h : SimG E w G nx) (val : Value) (hc : ∀ b o, blk val = some b → w.heap[b]? = some o → o.isCells = true) : Ev E w (E.name val) w :=
  ⟨Below.refl _ _, rfl, fun _ => Nat.le_refl _, fun _ _ _ => rfl, Nat.le_succ _, fun n hn ver wv v hk => by
    simp only [Env.name] at hk
    rw [if_neg (by omega)] at hk
    exact ⟨ver, wv, v, hk, Nat.le_refl _, fun _ => ⟨rfl, fun _ _ _ => rfl⟩⟩, fun n ver wv wv' v h1 h2 hn => by
    simp only [Env.name] at h2
    rw [if_neg (by omega), h1] at h2
    simp at h2; omega, ⟨rfl, fun b h => absurd h (Nat.lt_irrefl _), fun _ _ h _ _ => h, fun _ o h => ⟨o, h, rfl⟩, fun n t' b o ht hb ho hf => by
    simp only [Env.name] at ht
    split at ht
    · simp only [Option.some.injEq] at ht
      subst ht
      have := hc b o hb ho
      rw [hf] at this; cases this
    · exact ⟨t', ht, hb⟩, fun n t t' b hn h1 h2 hv _ => by
    simp only [Env.name] at h2
    rw [if_neg (by omega), h1] at h2
    cases h2; omega⟩⟩

theorem SimG.name {E : Env} {w : World} {G : Nat → Option GObj} {nx : Nat} (h : SimG E w G nx) (val : Value) (o : GObj) (hc : ∀ b o, blk val = some b → w.heap[b]? = some o → o.isCells = true)
    (hval : ∀ b, blk val = some b → E.B ≤ b ∧ b < w.heap.size ∧ ∀ n t, E.T n = some t → blk t.2.2 ≠ some b)
    (ho : ObjOk (E.name val) w nx o) : SimG (E.name val) w (setG G nx o) (nx + 1) := by
  have hev := Ev.name h val hc
  obtain rfl := h.nx
  refine ⟨rfl, fun k ob hk => ?_, fun k t hk => ?_, fun k ver wv v b hk hb => ?_, fun n m t t' b h1 h2 hne hb => ?_, h.fresh, h.base⟩
  · simp only [setG] at hk
    split at hk
    · rename_i e
      subst e
      simp only [Option.some.injEq] at hk
      subst hk
      exact ho
    · rename_i e
      refine (h.obj k ob hk).keep hev ?_ (fun _ _ _ _ _ _ => ⟨rfl, rfl⟩)
      simp only [Env.name]
      rw [if_neg e]
  · simp only [Env.name] at hk ⊢
    split at hk
    · rename_i e; omega
    · have := h.lt k t hk; omega
  · simp only [Env.name] at hk
    split at hk
    · simp only [Option.some.injEq, Prod.mk.injEq] at hk
      obtain ⟨rfl, rfl, rfl⟩ := hk
      have := hval b hb
      exact ⟨this.1, this.2.1⟩
    · exact h.tb k ver wv v b hk hb
  · simp only [Env.name] at h1 h2
    split at h1
    · rename_i e1
      simp only [Option.some.injEq] at h1
      subst h1
      rw [if_neg (by omega)] at h2
      exact (hval b hb).2.2 m t' h2
    · split at h2
      · simp only [Option.some.injEq] at h2
        subst h2
        intro hb'
        exact (hval b hb').2.2 n t h1 hb
      · exact h.ap n m t t' b h1 h2 hne hb

end Go.AB
