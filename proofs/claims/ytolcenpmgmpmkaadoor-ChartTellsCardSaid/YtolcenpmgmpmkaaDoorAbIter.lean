/-
  Ranges over functions: the iterator's contract, on abstract cells; the caller's law: a round from what has come to one thing more.
-/
import Derived.Test.YtolcenpmgmpmkaaDoorAbThirteen
import Derived.RangeFuncWrites
namespace Go.AB
open Go Go.RowKit

/-- Cells that are laid stay. -/
def KeepL (E : Env) (W W' : World) : Prop := W.heap.size ≤ W'.heap.size ∧ ∀ b i, i < E.L b → W'.cell? ⟨b, i, none⟩ = W.cell? ⟨b, i, none⟩
/-- What an iterator's call does, in one world. -/
def IterAt (P : Program) (gf : Nat) (E : Env) (w : World) (lb : List Value) {β : Type} (xs : List β) (encv : β → List Value) : Prop :=
  SeqStopsK (fen none) 2 P gf lb.toArray (fun x : { x // x ∈ xs } => (encv x.1).toArray) (KeepL E) (fun zs => zs.map Subtype.val = xs) (fun pre => pre.map Subtype.val <+: xs) xs.length w
/-- The contract of an iterator's value: what comes, in which order. -/
def IterOk (P : Program) (gf : Nat) (caps : List C) {β : Type} (xs : List β) (encv : β → List Value) : Prop :=
  ∀ (E : Env) (w : World) (lb : List Value), Rs E w caps lb → (∀ b, w.heap.size ≤ b → E.L b = 0) → IterAt P gf E w lb xs encv
/-- .. what comes hangs on the world: only a property of it is told. -/
def IterX (P : Program) (gf : Nat) (caps : List C) {β : Type} (X : List β → Prop) (encv : β → List Value) : Prop :=
  ∀ (E : Env) (w : World) (lb : List Value), Rs E w caps lb → (∀ b, w.heap.size ≤ b → E.L b = 0) → ∃ xs, X xs ∧ IterAt P gf E w lb xs encv

/-- The first m named blocks that are no cells lie below B. -/
def NCB (m B : Nat) (E : Env) (W : World) : Prop := ∀ n t b o, n < m → E.T n = some t → blk t.2.2 = some b → W.heap[b]? = some o → o.isCells = false → b < B
/-- What is owned, between two rounds. -/
def OwnW (E : Env) (w : World) (G : Nat → Option GObj) (nx : Nat) (W : World) : Prop := ∃ E1, Ev E w E1 W ∧ SimG E1 W G nx ∧ NCB nx w.heap.size E1 W

theorem SimG.heap {E : Env} {W W' : World} {G : Nat → Option GObj} {nx : Nat} (h : SimG E W G nx) (hcell : ∀ b i, i < E.L b → W'.cell? ⟨b, i, none⟩ = W.cell? ⟨b, i, none⟩) (hblk : ∀ n t b, E.T n = some t → blk t.2.2 = some b → W'.heap[b]? = W.heap[b]?) (hsz : W.heap.size ≤ W'.heap.size) : SimG E W' G nx := by
  have hrs : ∀ {c : List C} {v : List Value}, Rs E W c v → Rs E W' c v := fun hr => hr.same (fun _ => Nat.le_refl _) hcell rfl rfl
  refine ⟨h.nx, fun n o ho => ?_, h.lt, fun n ver wv val b h3 h4 => ?_, h.ap, fun b hb => h.fresh b (Nat.le_trans hsz hb), Nat.le_trans h.base hsz⟩
  · have hr1 : ∀ {c : C} {v : Value}, R E W c v → R E W' c v := fun hr => hr.same (fun _ => Nat.le_refl _) hcell rfl rfl
    have := h.obj n o ho
    cases o with
    | fact v c => exact ⟨this.1, hr1 this.2⟩
    | raw wv o => obtain ⟨b, q1, q2, q3⟩ := this; exact ⟨b, q1, (hblk n _ b q1 rfl).trans q2, q3⟩
    | map wv ok f =>
      obtain ⟨r, es, clock, q1, q2, q3, q4⟩ := this
      exact ⟨r, es, clock, q1, (hblk n _ r q1 rfl).trans q2, q3.imp fun _ _ _ _ hr => hr1 hr, q4⟩
    | box wv cs =>
      obtain ⟨b, us, tt, q1, q2, q3, q4, q5⟩ := this
      exact ⟨b, us, tt, q1, (hblk n _ b q1 rfl).trans q2, q3, hrs q4, q5⟩
    | arr ver wv tt sz len cs =>
      obtain ⟨val, us, q1, q2, q3, q4, q5, q6⟩ := this
      refine ⟨val, us, q1, ⟨q2.1, ?_⟩, q3, hrs q4, q5, q6⟩
      rcases q2.2 with q2 | ⟨g, cap, cur, rfl, hg, hgg, rest⟩
      · exact .inl q2
      · exact .inr ⟨g, cap, cur, rfl, hg, (hblk n _ g q1 rfl).trans hgg, rest⟩
    | tip len tt sz =>
      obtain ⟨val, us, q1, q2, q5, q6⟩ := this
      refine ⟨val, us, q1, ⟨q2.1, ?_⟩, q5, q6⟩
      rcases q2.2 with q2 | ⟨g, cap, cur, rfl, hg, hgg, rest⟩
      · exact .inl q2
      · exact .inr ⟨g, cap, cur, rfl, hg, (hblk n _ g q1 rfl).trans hgg, rest⟩
  · have := h.tb n ver wv val b h3 h4
    exact ⟨this.1, Nat.lt_of_lt_of_le this.2 hsz⟩

theorem no_cell {W : World} {b i : Nat} {o : Obj} (h : W.heap[b]? = some o) (hf : o.isCells = false) : W.cell? ⟨b, i, none⟩ = none := by
  unfold World.cell?
  dsimp only
  rw [h]
  cases o <;> first | rfl | cases hf

/-- The turn of a block that is no cells, and that came later. -/
theorem Ev.turn {E E1 : Env} {w W W' : World} {G0 : Nat → Option GObj} {nx0 : Nat} (hs : SimG E w G0 nx0) (hev : Ev E w E1 W) (hfr : ∀ b, W.heap.size ≤ b → E1.L b = 0) {row : Option Nat} (hg : W.grownBy W' row)
    (hr : ∀ r, row = some r → w.heap.size ≤ r ∧ ∃ o : Obj, W.heap[r]? = some o ∧ o.isCells = false) : Ev E w E1 W' ∧ ∀ b i, i < E1.L b → W'.cell? ⟨b, i, none⟩ = W.cell? ⟨b, i, none⟩ := by
  have hsz := hev.below.size
  have hold : ∀ b, b < w.heap.size → W'.heap[b]? = W.heap[b]? := fun b hb => hg.block b (by omega) fun e => by have := (hr b e.symm).1; omega
  have hsame : ∀ (b : Nat) (o : Obj), W.heap[b]? = some o → o.isCells = true → W'.heap[b]? = some o := fun b o ho hc => by
    refine (hg.block b (Array.getElem?_eq_some_iff.1 ho).1 fun e => ?_).trans ho
    obtain ⟨_, o', h1, h2⟩ := hr b e.symm
    rw [ho] at h1; cases h1; rw [hc] at h2; cases h2
  have hcell : ∀ b i, i < E1.L b → W'.cell? ⟨b, i, none⟩ = W.cell? ⟨b, i, none⟩ := fun b i hi => by
    have hlt : b < W.heap.size := Nat.lt_of_not_le fun hle => by have := hfr b hle; omega
    by_cases e : some b = row
    · obtain ⟨h1, o, h2, h3⟩ := hr b e.symm
      have h4 := hs.fresh b h1
      obtain ⟨v, hv⟩ := hev.x.lc b (by omega)
      rw [no_cell h2 h3] at hv; cases hv
    · exact World.cell?_of_block (w := W) (hg.block b hlt e)
  refine ⟨⟨⟨hg.os.trans hev.below.os, hg.tape.trans hev.below.tape, hg.output.trans hev.below.output, Nat.le_trans hsz hg.size, fun k hk => (hold k (Nat.lt_of_lt_of_le hk hs.base)).trans (hev.below.block k hk)⟩, hev.B, hev.L,
    fun b i hi => (hcell b i (Nat.lt_of_lt_of_le hi (hev.L b))).trans (hev.cell b i hi), hev.nx, fun n hn' ver' wv' val' h3 => ?_, hev.wv,
    ⟨hev.x.F, fun b hb => ?_, fun b o ho hf hu => (hold b (Array.getElem?_eq_some_iff.1 ho).1).trans (hev.x.oth b o ho hf hu), fun b o ho => ?_, hev.x.nb, fun n t t' b hn' q1 q2 q3 q4 => ?_⟩⟩, hcell⟩
  · obtain ⟨ver, wv, val, q1, q2, q3⟩ := hev.T n hn' _ _ _ h3
    exact ⟨ver, wv, val, q1, q2, fun e => ⟨(q3 e).1, fun e2 b hb => (hold b (hs.tb n _ _ _ b q1 hb).2).trans ((q3 e).2 e2 b hb)⟩⟩
  · obtain ⟨v, hv⟩ := hev.x.lc b hb
    exact ⟨v, (hcell b 0 (by omega)).trans hv⟩
  · rw [hold b (Array.getElem?_eq_some_iff.1 ho).1]
    exact hev.x.ic b o ho
  · obtain ⟨o, q5, q6⟩ := hev.x.mv n t t' b hn' q1 q2 q3 q4
    exact ⟨o, hsame b o q5 q6, q6⟩

/-- What is owned abides it. -/
theorem OwnW.turn {E : Env} {w : World} {G0 : Nat → Option GObj} {nx0 : Nat} (hs : SimG E w G0 nx0) {G : Nat → Option GObj} {nx : Nat} {W W' : World} {row : Option Nat} (h : OwnW E w G nx W) (hg : W.grownBy W' row)
    (hr : ∀ r, row = some r → w.heap.size ≤ r ∧ ∃ o : Obj, W.heap[r]? = some o ∧ o.isCells = false) : OwnW E w G nx W' := by
  obtain ⟨E1, hev, hs1, hn⟩ := h
  obtain ⟨hev', hcell⟩ := hev.turn hs hs1.fresh hg hr
  have hnx := hs1.nx
  have hblk : ∀ n t b, E1.T n = some t → blk t.2.2 = some b → W'.heap[b]? = W.heap[b]? := fun n t b ht hb => by
    have hlt := (hs1.tb n t.1 t.2.1 t.2.2 b ht hb).2
    refine hg.block b hlt fun e => ?_
    obtain ⟨h1, o, h2, h3⟩ := hr b e.symm
    have := hn n t b o (hnx ▸ hs1.lt n t ht) ht hb h2 h3
    omega
  exact ⟨E1, hev', hs1.heap hcell hblk hg.size, fun n t b o hm ht hb ho hf => hn n t b o hm ht hb ((hblk n t b ht hb).symm.trans ho) hf⟩
theorem OwnW.put {E : Env} {w : World} {G0 : Nat → Option GObj} {nx0 : Nat} (hs : SimG E w G0 nx0) {G : Nat → Option GObj} {nx : Nat} {W : World} {l : Nat} {o : Obj} (h : OwnW E w G nx W) (hl : w.heap.size ≤ l) (ho : W.heap[l]? = some o) (hf : o.isCells = false) (o' : Obj) : OwnW E w G nx (W.putObj l o') :=
  h.turn hs (grownBy_putObj' W l o') (fun r e => by cases e; exact ⟨hl, o, ho, hf⟩)

theorem NCB.step {m B : Nat} {E1 E2 : Env} {W W' : World} {G1 : Nat → Option GObj} {nx1 : Nat} (hn : NCB m B E1 W) (hm : m ≤ E1.nx) (hs1 : SimG E1 W G1 nx1) (h1 : Ev E1 W E2 W') : NCB m B E2 W' := by
  intro n t b o hlt ht hb ho hf
  obtain ⟨v', wv', val'⟩ := t
  obtain ⟨v, wv, val, q1, q2, q3⟩ := h1.T n (by omega) _ _ _ ht
  by_cases e : v = v'
  · have hval := (q3 e).1
    subst hval
    have hlt2 := (hs1.tb n v wv val b q1 hb).2
    cases ho0 : W.heap[b]? with
    | none => rw [Array.getElem?_eq_none_iff] at ho0; omega
    | some o0 =>
      obtain ⟨o', h3, h4⟩ := h1.x.ic b o0 ho0
      rw [ho] at h3
      cases h3
      exact hn n _ b o0 hlt q1 hb ho0 (h4.symm.trans hf)
  · obtain ⟨o2, h3, h4⟩ := h1.x.mv n _ _ b (by omega) q1 ht (by show v < v'; omega) hb
    rw [ho] at h3
    cases h3
    rw [hf] at h4; cases h4

/-- What comes is put into the loop's variables. -/
def putL : List Tmp → List C → St → St
  | p :: ps, c :: cs, st => putL ps cs (st.put (some p) c)
  | _, _, st => st
def putA : List Tmp → List Value → Act → Act
  | p :: ps, v :: vs, a => putA ps vs (a.put (some p) v)
  | _, _, a => a
theorem sim_puts {E : Env} {w : World} : ∀ (ps : List Tmp) {cs : List C} {vs : List Value} {st : St} {a : Act}, Rs E w cs vs → Sim E w st a → Sim E w (putL ps cs st) (putA ps vs a)
  | [], _, _, _, _, _, h => h
  | p :: ps, [], [], _, _, _, h => h
  | p :: ps, c :: cs, v :: vs, _, _, hr, h => sim_puts ps (cs := cs) (vs := vs) ⟨by simpa using hr.1, fun j d x h1 h2 => hr.2 (j + 1) d x (by simpa using h1) (by simpa using h2)⟩ (h.put (some p) (hr.2 0 c v rfl rfl))
  | p :: ps, [], v :: vs, _, _, hr, _ => absurd hr.1 (by simp)
  | p :: ps, c :: cs, [], _, _, hr, _ => absurd hr.1 (by simp)
theorem putA_tmps : ∀ (ps : List Tmp) (vs : List Value) (a : Act), putA ps vs a = { a with tmps := (ps.zip vs).foldl (fun t p => t.setIfInBounds p.1 p.2) a.tmps }
  | [], _, _ => rfl
  | p :: ps, [], _ => rfl
  | p :: ps, v :: vs, a => by
    simp only [putA, List.zip_cons_cons, List.foldl_cons]
    rw [putA_tmps ps vs]
    rfl

/-- How a round ends. -/
def RPost {β Y : Type} (J : List β → Nat → Option GObj) (IxA : Code → List β → Y → Prop) (Gx : Y → Nat → Option GObj) (zs : List β) (e : Exit) (st : St) : Prop :=
  match e with
  | .normal => ∀ n o, J zs n = some o → st.G n = some o
  | .ret => ∃ y, IxA .ret zs y ∧ ∀ n o, Gx y n = some o → st.G n = some o
  | .exit id => ∃ y, IxA (.exit id) zs y ∧ ∀ n o, Gx y n = some o → st.G n = some o
  | .goto l => ∃ y, IxA (.goto l) zs y ∧ ∀ n o, Gx y n = some o → st.G n = some o
  | _ => False

/-- A range over a function: what is known between rounds hangs on what has come. -/
theorem rangeFunc_at {E : Env} {w : World} {a : Act} {P : Program} {β Y : Type} {g : Operand} {ps : Array Tmp} {assign body : Code} {Q : Exit → St → Prop} {st : St} {gf : Nat} [Fun P gf] {vs : List Value} {xs : List β} {encv : β → List Value} (cl : β → List C) (pl : List Tmp)
    (J : List β → Nat → Option GObj) (IxA : Code → List β → Y → Prop) (Gx : Y → Nat → Option GObj) (u : β → List (Nat × C)) (hs : Sim E w st a) (it : IterAt P gf E w vs xs encv)
    (hgv : a.eval g = .func (.func gf) #[] vs.toArray) (hps : ps = pl.toArray) (hlen : ∀ x, (encv x).length = pl.length) (hcl : ∀ x ∈ xs, ∀ E W, Rs E W (cl x) (encv x))
    (hu : ∀ pre x, putL pl (cl x) { st with G := J pre, df := 0 } = { st with r := u x, G := J pre, df := 0 })
    (h0 : ∀ n o, J [] n = some o → st.G n = some o) (hJ : ∀ zs n o, J zs n = some o → st.G n = some o ∨ (n < st.nx ∧ o.low st.nx)) (hGx : ∀ c zs y, IxA c zs y → ∀ n o, Gx y n = some o → st.G n = some o ∨ (n < st.nx ∧ o.low st.nx))
    (round : ∀ l pre x, x ∈ xs → pre.length < xs.length → (∀ y ∈ pre, y ∈ xs) → AW (some l) P assign (AThen (AW (some l) P body (RPost J IxA Gx (pre ++ [x]))) fun _ _ => False) { st with r := u x, G := J pre, df := 0 })
    (stop : ∀ c pre y, pre <+: xs → IxA c pre y → AW none P c Q { st with G := Gx y, df := st.df + 1 })
    (done : Q .normal { st with G := J xs, df := st.df + 1 }) : cwp none P (.rangeFunc g ps assign body) (lift E w Q) a w := by
  have hlow : ∀ {G : Nat → Option GObj}, (∀ n o, G n = some o → st.G n = some o ∨ (n < st.nx ∧ o.low st.nx)) → ∀ n o, G n = some o → n < st.nx ∧ o.low st.nx := fun h n o ho => by
    rcases h n o ho with h1 | h1
    · exact hs.lowG n o h1
    · exact h1
  have hF : E.F ≤ w.heap.size := hs.d.F
  have hnx := hs.g.nx
  have simAt : ∀ {E1 : Env} {W : World} {G : Nat → Option GObj} {ds : List Deferred} {k : Nat}, Ev E w E1 W → SimG E1 W G st.nx → DefN E1 W k ds → Sim E1 W { st with G := G, df := k } { a with defers := ds } := fun hev hg1 hd =>
    ⟨hd, hs.sz, fun i v hv => (hs.t i v hv).ev hev, hg1⟩
  have marked : ∀ {E1 : Env} {W : World} {D : Nat}, Ev E w E1 W → (∀ n t, E1.T n = some t → n < st.nx) → NCB st.nx w.heap.size E1 W → w.heap.size ≤ D → W.heap[D]? = some (.deferred (some [])) → DefN E1 W (st.df + 1) ({ target := .collected D, args := #[] } :: a.defers) := fun {E1 W D} hev hlt hn hD hK => by
    refine ⟨⟨⟨D, rfl, by rw [hev.x.F]; omega, hK, fun n t ht hb => ?_, ?_⟩, (hs.d.ev hev).1⟩, by simp [hs.d.2]⟩
    · have := hn n t D _ (hlt n t ht) ht hb hK rfl
      omega
    · have : ∀ {ds : List Deferred}, DefOk E w ds → ∀ d' ∈ ds, d'.target ≠ .collected D := by
        intro ds
        induction ds with
        | nil => exact fun _ d' h => by cases h
        | cons d ds ih =>
          rintro ⟨⟨D', e', _, h2, _⟩, k⟩ d' hd'
          rcases List.mem_cons.1 hd' with rfl | hd'
          · rw [e']
            intro e
            simp only [Target.collected.injEq] at e
            have := (Array.getElem?_eq_some_iff.1 h2).1
            omega
          · exact ih k d' hd'
      exact this hs.d.1
  refine cwp_n (n := 3) (wpIn_rangeFunc fun fn _ => ?_)
  -- the loop's record and the block for deferred calls
  obtain ⟨rc, hrc⟩ : ∃ rc : LoopState → Option Code → Loop, rc = fun s pe => { state := s, pending := pe, fn, tmps := a.tmps, params := ps, assign, body, defers := w.heap.size } := ⟨_, rfl⟩
  obtain ⟨W1, hW1⟩ : ∃ W1, (w.alloc (.deferred (some []))).alloc (.loop (rc .ready none)) = W1 := ⟨_, rfl⟩
  have sz1 : W1.heap.size = w.heap.size + 2 := by rw [← hW1]; simp
  have gr1 : w.grownBy W1 none := by
    refine ⟨by rw [← hW1]; rfl, by rw [← hW1]; rfl, by rw [← hW1]; rfl, by omega, fun k hk _ => ?_⟩
    rw [← hW1, Below.heap_alloc _ _ _ (by simp; omega), Below.heap_alloc _ _ _ hk]
  have recs : W1.heap[w.heap.size + 1]? = some (.loop (rc .ready none)) ∧ W1.heap[w.heap.size]? = some (.deferred (some [])) := by
    rw [← hW1]
    refine ⟨by have := World.alloc_heap_new (w.alloc (.deferred (some []))) (.loop (rc .ready none)); simpa using this, ?_⟩
    rw [Below.heap_alloc _ _ _ (by simp)]
    exact World.alloc_heap_new w _
  have own1 : OwnW E w (J []) st.nx W1 := OwnW.turn hs.g ⟨E, Ev.refl E w, hs.g.weak h0, fun n t b o _ ht hb _ _ => (hs.g.tb n t.1 t.2.1 t.2.2 b ht hb).2⟩ gr1 (fun r e => by cases e)
  refine ⟨w.heap.size + 1, [{ target := .collected w.heap.size, args := #[] }], W1, { target := .fn (.func gf) vs.toArray, args := #[.func (.yield (w.heap.size + 1)) #[] #[]] }, W1, gf, #[.func (.yield (w.heap.size + 1)) #[] #[]] ++ vs.toArray, W1, ?_, ?_, fun _ _ => trivial, ?_, fun e => (by cases e), ?_⟩
  · rw [← hW1, hrc]; exact run_enterLoop_outer _ _ _ _ _
  · simp only [resolve, hgv]; simp [go_sem]
  · simp [invoke, go_sem, run_callFunc]
  have below1 : Below w.heap.size w W1 := ⟨gr1.os, gr1.tape, gr1.output, gr1.size, fun k hk => gr1.block k hk (by simp)⟩
  have tame : ∀ {A B : World} {row : Option Nat}, (∀ r, row = some r → W1.heap.size ≤ r ∧ ∃ o : Obj, A.heap[r]? = some o ∧ o.isWalk = true) → ∀ r, row = some r → w.heap.size ≤ r ∧ ∃ o : Obj, A.heap[r]? = some o ∧ o.isCells = false := fun h r e => by
    obtain ⟨h1, o, h2, h3⟩ := h r e
    exact ⟨by omega, o, h2, Obj.not_cells_of_walk h3⟩
  have stays : ∀ {A B : World} {row : Option Nat} {k : Nat} {o : Obj}, A.grownBy B row → (∀ r, row = some r → W1.heap.size ≤ r ∧ ∃ o : Obj, A.heap[r]? = some o ∧ o.isWalk = true) → A.heap[k]? = some o → o.isWalk = false → B.heap[k]? = some o := fun hgr h hk hw =>
    (grownBy_keeps hgr (fun r e => (h r e).2) hk hw).trans hk
  refine (it (w.heap.size + 1)
    (fun zs W => OwnW E w (J (zs.map Subtype.val)) st.nx W ∧ W.heap[w.heap.size + 1]? = some (.loop (rc .ready none)) ∧ W.heap[w.heap.size]? = some (.deferred (some [])))
    (fun zs W => ∃ c y, IxA c (zs.map Subtype.val) y ∧ OwnW E w (Gx y) st.nx W ∧ W.heap[w.heap.size + 1]? = some (.loop (rc .done (some c))) ∧ W.heap[w.heap.size]? = some (.deferred (some [])))
    W1 below1 (fun zs A B row h hgr hr => ⟨h.1.turn hs.g hgr (tame (B := B) hr), stays hgr hr h.2.1 rfl, stays hgr hr h.2.2 rfl⟩)
    (fun zs A B row h hgr hr => let ⟨c, y, h1, h2, h3, h4⟩ := h; ⟨c, y, h1, h2.turn hs.g hgr (tame (B := B) hr), stays hgr hr h3 rfl, stays hgr hr h4 rfl⟩) ?_ ⟨own1, recs⟩).mono ?_
  · -- a round
    rintro pre x W ⟨⟨E1, hev, hs1, hn⟩, hl, hk⟩ hlen'
    have hE1 : E1.nx = st.nx := hs1.nx
    have unt : ∀ {k : Nat} {o : Obj}, w.heap.size ≤ k → W.heap[k]? = some o → o.isCells = false → ∀ n t, E1.T n = some t → blk t.2.2 ≠ some k := fun {k o} hk' ho hf n t ht hb => by
      have := hn n t k o (hE1 ▸ hs1.lt n t ht) ht hb ho hf
      omega
    have hy := run_yield (P := P) (args := (encv x.1).toArray) hl (by rw [hrc]; simp [hps, hlen])
    rw [hrc] at hy
    refine ⟨fn, _, assign, body, hy, roundIn_of_wpIn trivial ?_⟩
    clear hy
    have ha0 : ({ tmps := (ps.zip (encv x.1).toArray).foldl (fun t (p, v) => t.setIfInBounds p v) a.tmps, defers := [] } : Act) = putA pl (encv x.1) { tmps := a.tmps, defers := [] } := by
      rw [putA_tmps, hps]
      simp
    have hF1 : E1.F ≤ W.heap.size := by rw [hev.x.F]; exact Nat.le_trans hF hev.below.size
    have hsim := sim_puts pl (hcl x.1 x.2 E1 W) (simAt (ds := []) (k := 0) hev hs1 ⟨hF1, rfl⟩)
    rw [hu] at hsim
    show assign.wpIn (fen (some (w.heap.size + 1))) 1 P _ { tmps := (ps.zip (encv x.1).toArray).foldl (fun t (p, v) => t.setIfInBounds p v) a.tmps, defers := [] } W
    rw [ha0]
    refine wpIn_mono (round (w.heap.size + 1) (pre.map Subtype.val) x.1 x.2 (by simpa using hlen') (fun y hy => by
      obtain ⟨z, _, rfl⟩ := List.mem_map.1 hy
      exact z.2) E1 W _ hsim) ?_
    rintro e a1 Wa ⟨st1, E2, q1, q2, q3⟩
    cases e with
    | normal =>
      have hla := q1.x.oth _ _ hl rfl (unt (by omega) hl rfl)
      have hka := q1.x.oth _ _ hk rfl (unt (Nat.le_refl _) hk rfl)
      have hlta := (Array.getElem?_eq_some_iff.1 hla).1
      refine ⟨_, run_beginRound hla (by rw [hrc]), ?_⟩
      -- the record is busy
      have unt2 : ∀ {k : Nat} {o : Obj}, w.heap.size ≤ k → W.heap[k]? = some o → o.isCells = false → ∀ n t, E2.T n = some t → blk t.2.2 ≠ some k := fun {k o} hk' ho hf n t ht hb => by
        obtain ⟨t0, h1, h2⟩ := q1.x.nb n t k o ht hb ho hf
        exact unt hk' ho hf n t0 h1 h2
      obtain ⟨Wb, hWb⟩ : ∃ Wb, Wa.putObj (w.heap.size + 1) (.loop { rc .ready none with state := .busy }) = Wb := ⟨_, rfl⟩
      rw [hWb]
      have grb : Wa.grownBy Wb (some (w.heap.size + 1)) := hWb ▸ grownBy_putObj' _ _ _
      have hlb : Wb.heap[w.heap.size + 1]? = some (.loop { rc .ready none with state := .busy }) := hWb ▸ World.putObj_heap_same hlta
      have hkb : Wb.heap[w.heap.size]? = some (.deferred (some [])) := (grb.block _ (Array.getElem?_eq_some_iff.1 hka).1 (by simp)).trans hka
      obtain ⟨evb, hcellb⟩ := (hev.trans q1).turn hs.g q2.g.fresh grb (fun r e => by cases e; exact ⟨by omega, _, hla, rfl⟩)
      have hblkb : ∀ n t b, E2.T n = some t → blk t.2.2 = some b → Wb.heap[b]? = Wa.heap[b]? := fun n t b ht hb => by
        refine grb.block b (q2.g.tb n t.1 t.2.1 t.2.2 b ht hb).2 fun e => ?_
        simp only [Option.some.injEq] at e
        subst e
        exact unt2 (by omega) hl rfl n t ht hb
      have gb := q2.g.heap hcellb hblkb grb.size
      have db : DefN E2 Wb st1.df a1.defers := by
        have : ∀ {ds : List Deferred}, DefOk E2 Wa ds → DefOk E2 Wb ds := by
          intro ds
          induction ds with
          | nil => exact fun h => Nat.le_trans h grb.size
          | cons d ds ih =>
            rintro ⟨⟨D', e', h1, h2, h3, h4⟩, k⟩
            refine ⟨⟨D', e', h1, (grb.block D' (Array.getElem?_eq_some_iff.1 h2).1 fun e => ?_).trans h2, h3, h4⟩, ih k⟩
            simp only [Option.some.injEq] at e
            subst e
            rw [hla] at h2; cases h2
        exact ⟨this q2.d.1, q2.d.2⟩
      have simb : Sim E2 Wb st1 a1 := ⟨db, q2.sz, fun i v hv => (q2.t i v hv).same (fun _ => Nat.le_refl _) hcellb rfl rfl, gb⟩
      have nb2 : NCB st.nx w.heap.size E2 Wb := fun n t b o hm ht hb ho hf => by
        have := hblkb n t b ht hb
        exact hn.step (by omega) hs1 q1 n t b o hm ht hb (this.symm.trans ho) hf
      have hm2 : st.nx ≤ E2.nx := hE1 ▸ q1.nx
      refine wpIn_mono (q3 E2 Wb a1 simb) ?_
      rintro e a3 W3 ⟨st', E3, r1, r2, r3⟩
      have hl3 := r1.x.oth _ _ hlb rfl (unt2 (by omega) hl rfl)
      have hk3 := r1.x.oth _ _ hkb rfl (unt2 (Nat.le_refl _) hk rfl)
      have nb3 := nb2.step hm2 gb r1
      have own : ∀ {Gk : Nat → Option GObj}, (∀ n o, Gk n = some o → st'.G n = some o) → (∀ n o, Gk n = some o → n < st.nx ∧ o.low st.nx) → OwnW E w Gk st.nx W3 := fun {Gk} hsub hlw =>
        ⟨E3.drop st.nx, (evb.trans r1).drop (by omega), (r2.g.weak hsub).drop hlw, fun n t b o hm ht hb ho hf => nb3 n t b o hm (by simp only [Env.drop] at ht; rw [if_pos hm] at ht; exact ht) hb ho hf⟩
      have hmap : (pre ++ [x]).map Subtype.val = pre.map Subtype.val ++ [x.1] := by simp
      -- the end of the round
      have fin : ∀ (jump : Option Code), (Instr.endRound (w.heap.size + 1) jump).run P W3 = .ok (.bool jump.isNone) (W3.putObj (w.heap.size + 1) (.loop (rc (if jump.isNone then .ready else .done) jump))) ∧
          (W3.putObj (w.heap.size + 1) (.loop (rc (if jump.isNone then .ready else .done) jump))).heap[w.heap.size + 1]? = some (.loop (rc (if jump.isNone then .ready else .done) jump)) ∧
          (W3.putObj (w.heap.size + 1) (.loop (rc (if jump.isNone then .ready else .done) jump))).heap[w.heap.size]? = some (.deferred (some [])) := fun jump => by
        refine ⟨?_, World.putObj_heap_same (Array.getElem?_eq_some_iff.1 hl3).1, (World.putObj_heap_other (by omega)).trans hk3⟩
        have := run_endRound (P := P) jump hl3
        rw [hrc] at this ⊢
        exact this
      have keep : ∀ jump, KeepL E W (W3.putObj (w.heap.size + 1) (.loop (rc (if jump.isNone then .ready else .done) jump))) := fun jump => ⟨by
        rw [World.putObj_size]
        exact Nat.le_trans q1.below.size (Nat.le_trans grb.size r1.below.size), fun b i hi => by
        have hne : b ≠ w.heap.size + 1 := fun e => by subst e; rw [hs.g.fresh _ (by omega)] at hi; omega
        refine (World.cell?_of_block (w := W3) (World.putObj_heap_other hne)).trans ?_
        have h1 : i < E1.L b := Nat.lt_of_lt_of_le hi (hev.L b)
        have h2 : i < E2.L b := Nat.lt_of_lt_of_le h1 (q1.L b)
        exact (r1.cell b i h2).trans ((hcellb b i h2).trans (q1.cell b i h1))⟩
      cases e with
      | normal =>
        obtain ⟨h1, h2, h3⟩ := fin none
        refine ⟨_, _, h1, .inl ⟨rfl, ⟨?_, h2, h3⟩, keep none⟩⟩
        rw [hmap]
        exact (own r3 (hlow (hJ _))).put hs.g (by omega) hl3 rfl _
      | ret =>
        obtain ⟨h1, h2, h3⟩ := fin (some .ret)
        obtain ⟨y, k1, k2⟩ := r3
        exact ⟨_, _, h1, .inr ⟨rfl, .ret, y, by rw [hmap]; exact k1, (own k2 (hlow (hGx _ _ y k1))).put hs.g (by omega) hl3 rfl _, h2, h3⟩⟩
      | exit id =>
        obtain ⟨h1, h2, h3⟩ := fin (some (.exit id))
        obtain ⟨y, k1, k2⟩ := r3
        exact ⟨_, _, h1, .inr ⟨rfl, .exit id, y, by rw [hmap]; exact k1, (own k2 (hlow (hGx _ _ y k1))).put hs.g (by omega) hl3 rfl _, h2, h3⟩⟩
      | goto l' =>
        obtain ⟨h1, h2, h3⟩ := fin (some (.goto l'))
        obtain ⟨y, k1, k2⟩ := r3
        exact ⟨_, _, h1, .inr ⟨rfl, .goto l', y, by rw [hmap]; exact k1, (own k2 (hlow (hGx _ _ y k1))).put hs.g (by omega) hl3 rfl _, h2, h3⟩⟩
      | panic c => exact r3.elim
      | outgrown => exact r3.elim
    | _ => exact q3.elim
  · -- behind the iterator
    rintro e W2 ⟨⟨v, rfl⟩, (⟨zs, hz, hI, hl, hk⟩ | ⟨pre, hz, c, y, hi, hI, hl, hk⟩)⟩
    · obtain ⟨E1, hev, hs1, hn⟩ := hI.put hs.g (by omega) hl rfl (.loop { rc .ready none with state := .exhausted })
      have hK : (W2.putObj (w.heap.size + 1) (.loop { rc .ready none with state := .exhausted })).heap[w.heap.size]? = some (.deferred (some [])) := (World.putObj_heap_other (by omega)).trans hk
      rw [hz] at hs1
      exact ⟨none, _, by have := run_endLoop (P := P) hl (by rw [hrc]; simp); rw [hrc] at this ⊢; exact this, _, E1, hev, simAt hev hs1 (marked hev (fun n t ht => hs1.nx ▸ hs1.lt n t ht) hn (Nat.le_refl _) hK), done⟩
    · obtain ⟨E1, hev, hs1, hn⟩ := hI.put hs.g (by omega) hl rfl (.loop { rc .done (some c) with state := .exhausted })
      have hK : (W2.putObj (w.heap.size + 1) (.loop { rc .done (some c) with state := .exhausted })).heap[w.heap.size]? = some (.deferred (some [])) := (World.putObj_heap_other (by omega)).trans hk
      refine ⟨some c, W2.putObj (w.heap.size + 1) (.loop { rc .done (some c) with state := .exhausted }), by rw [run_endLoop (P := P) hl (by rw [hrc]; simp), hrc], ?_⟩
      have h2 := cwp_n (m := 3) (stop c _ y hz hi E1 _ _ (simAt hev hs1 (marked hev (fun n t ht => hs1.nx ▸ hs1.lt n t ht) hn (Nat.le_refl _) hK)))
      exact wpIn_mono h2 fun _ _ _ hq => lift_trans hev hq
theorem aw_rangeFunc {P : Program} {β Y : Type} {g : Operand} {ps : Array Tmp} {assign body : Code} {Q : Exit → St → Prop} {st : St} {gf : Nat} [Fun P gf] {caps : List C} {xs : List β} {encv : β → List Value} (cl : β → List C) (pl : List Tmp)
    (J : List β → Nat → Option GObj) (IxA : Code → List β → Y → Prop) (Gx : Y → Nat → Option GObj) (u : β → List (Nat × C)) (it : IterOk P gf caps xs encv)
    (hg : evC st g = .fn (.func gf) caps) (hps : ps = pl.toArray) (hlen : ∀ x, (encv x).length = pl.length) (hcl : ∀ x ∈ xs, ∀ E W, Rs E W (cl x) (encv x))
    (hu : ∀ pre x, putL pl (cl x) { st with G := J pre, df := 0 } = { st with r := u x, G := J pre, df := 0 })
    (h0 : ∀ n o, J [] n = some o → st.G n = some o) (hJ : ∀ zs n o, J zs n = some o → st.G n = some o ∨ (n < st.nx ∧ o.low st.nx)) (hGx : ∀ c zs y, IxA c zs y → ∀ n o, Gx y n = some o → st.G n = some o ∨ (n < st.nx ∧ o.low st.nx))
    (round : ∀ l pre x, x ∈ xs → pre.length < xs.length → (∀ y ∈ pre, y ∈ xs) → AW (some l) P assign (AThen (AW (some l) P body (RPost J IxA Gx (pre ++ [x]))) fun _ _ => False) { st with r := u x, G := J pre, df := 0 })
    (stop : ∀ c pre y, pre <+: xs → IxA c pre y → AW none P c Q { st with G := Gx y, df := st.df + 1 })
    (done : Q .normal { st with G := J xs, df := st.df + 1 }) : AW none P (.rangeFunc g ps assign body) Q st := fun E w a hs =>
  let ⟨vs, hgv, hvs⟩ := (hg ▸ hs.ev g).fn_inv
  rangeFunc_at cl pl J IxA Gx u hs (it E w vs hvs hs.g.fresh) hgv hps hlen hcl hu h0 hJ hGx round stop done
theorem aw_rangeFuncX {P : Program} {β Y : Type} {g : Operand} {ps : Array Tmp} {assign body : Code} {Q : Exit → St → Prop} {st : St} {gf : Nat} [Fun P gf] {caps : List C} {X : List β → Prop} {encv : β → List Value} (cl : β → List C) (pl : List Tmp)
    (J : List β → Nat → Option GObj) (IxA : Code → List β → Y → Prop) (Gx : Y → Nat → Option GObj) (u : β → List (Nat × C)) (it : IterX P gf caps X encv)
    (hg : evC st g = .fn (.func gf) caps) (hps : ps = pl.toArray) (hlen : ∀ x, (encv x).length = pl.length) (hcl : ∀ xs, X xs → ∀ x ∈ xs, ∀ E W, Rs E W (cl x) (encv x))
    (hu : ∀ pre x, putL pl (cl x) { st with G := J pre, df := 0 } = { st with r := u x, G := J pre, df := 0 })
    (h0 : ∀ n o, J [] n = some o → st.G n = some o) (hJ : ∀ zs n o, J zs n = some o → st.G n = some o ∨ (n < st.nx ∧ o.low st.nx)) (hGx : ∀ c zs y, IxA c zs y → ∀ n o, Gx y n = some o → st.G n = some o ∨ (n < st.nx ∧ o.low st.nx))
    (round : ∀ xs, X xs → ∀ l pre x, x ∈ xs → pre.length < xs.length → (∀ y ∈ pre, y ∈ xs) → AW (some l) P assign (AThen (AW (some l) P body (RPost J IxA Gx (pre ++ [x]))) fun _ _ => False) { st with r := u x, G := J pre, df := 0 })
    (stop : ∀ xs, X xs → ∀ c pre y, pre <+: xs → IxA c pre y → AW none P c Q { st with G := Gx y, df := st.df + 1 })
    (done : ∀ xs, X xs → Q .normal { st with G := J xs, df := st.df + 1 }) : AW none P (.rangeFunc g ps assign body) Q st := fun E w a hs =>
  let ⟨vs, hgv, hvs⟩ := (hg ▸ hs.ev g).fn_inv
  let ⟨xs, hX, hit⟩ := it E w vs hvs hs.g.fresh
  rangeFunc_at cl pl J IxA Gx u hs hit hgv hps hlen (hcl xs hX) hu h0 hJ hGx (round xs hX) (stop xs hX) (done xs hX)
end Go.AB
