/-
  Changes of a named object; the abstract logic: what code does to abstract states; calls.
-/
import Derived.Test.YtolcenpmgmpmkaaDoorAbTwo
import Derived.Tactics
import Derived.OrdersHeld
import Derived.OrdersIn
import Derived.TacticsIn
import Derived.RangeFuncLeaves
import Derived.RangeFuncCalls
namespace Go.AB
open Go Go.RowKit

/-! ### A named object changes -/
def Env.chg (E : Env) (n : Nat) (t : Nat × Nat × Value) (l : Nat) : Env :=
  { E with T := fun k => if k = n then some t else E.T k, L := fun k => if blk t.2.2 = some k then l else E.L k }

section
variable {E : Env} {w w' : World} {G : Nat → Option GObj} {nx n ver wv ver' wv' l : Nat} {val val' : Value}

/-- What must be so of the new world. -/
structure Chg (E : Env) (w w' : World) (ver wv : Nat) (val : Value) (ver' wv' : Nat) (val' : Value) (l : Nat) : Prop where
  below : Below E.B w w'
  old : ∀ k, k < w.heap.size → blk val ≠ some k → w'.heap[k]? = w.heap[k]?
  new : ∀ b, blk val' = some b → (blk val = some b ∧ E.L b ≤ l) ∨ (w.heap.size ≤ b ∧ b < w'.heap.size)
  cell : ∀ b i, blk val = some b → i < E.L b → w'.cell? ⟨b, i, none⟩ = w.cell? ⟨b, i, none⟩
  vers : ver < ver' ∨ (ver = ver' ∧ val = val' ∧ wv < wv')
  ic : ∀ b (o : Obj), blk val = some b → w.heap[b]? = some o → ∃ o' : Obj, w'.heap[b]? = some o' ∧ o'.isCells = o.isCells
  mv : ver < ver' → ∀ b, blk val' = some b → ∃ o : Obj, w'.heap[b]? = some o ∧ o.isCells = true
  lc : ∀ b, blk val' = some b → E.L b < l → ∃ v, w'.cell? ⟨b, 0, none⟩ = some v

theorem Ev.chg (h : SimG E w G nx) (hT : E.T n = some (ver, wv, val)) (hc : Chg E w w' ver wv val ver' wv' val' l) : Ev E w (E.chg n (ver', wv', val') l) w' := by
  refine ⟨hc.below, rfl, fun b => ?_, fun b i hi => ?_, Nat.le_refl _, fun k hk v2 wv2 x2 h2 => ?_, fun k v1 wv1 wv2 x1 h1 h2 hk => ?_, ?_⟩
  · simp only [Env.chg]
    split
    · rename_i hb
      rcases hc.new b hb with h1 | h1
      · exact h1.2
      · rw [h.fresh b h1.1]; exact Nat.zero_le _
    · exact Nat.le_refl _
  · by_cases hb : blk val = some b
    · exact hc.cell b i hb hi
    · have : b < w.heap.size := by
        rcases Nat.lt_or_ge b w.heap.size with h1 | h1
        · exact h1
        · rw [h.fresh b h1] at hi; omega
      exact World.cell?_of_block (w := w) (hc.old b this hb)
  · simp only [Env.chg] at h2
    split at h2
    · rename_i e
      subst e
      simp only [Option.some.injEq, Prod.mk.injEq] at h2
      obtain ⟨rfl, rfl, rfl⟩ := h2
      refine ⟨ver, wv, val, hT, ?_, fun e => ?_⟩
      · rcases hc.vers with h1 | h1 <;> omega
      · rcases hc.vers with h1 | ⟨h1, h2, h3⟩
        · omega
        · exact ⟨h2, fun e => by omega⟩
    · rename_i e
      refine ⟨v2, wv2, x2, h2, Nat.le_refl _, fun _ => ⟨rfl, fun _ b hb => ?_⟩⟩
      have hlt := h.tb k _ _ _ b h2 hb
      exact hc.old b hlt.2 (fun e2 => h.ap k n _ _ b h2 hT e hb e2)
  · simp only [Env.chg] at h2
    split at h2
    · rename_i e
      subst e
      rw [hT] at h1
      simp only [Option.some.injEq, Prod.mk.injEq] at h1 h2
      obtain ⟨rfl, rfl, rfl⟩ := h1
      obtain ⟨rfl, rfl, rfl⟩ := h2
      rcases hc.vers with h1 | ⟨h1, h2, h3⟩ <;> omega
    · rw [h1] at h2
      simp at h2; omega
  · refine ⟨rfl, fun b hb => ?_, fun b o ho hf hu => ?_, fun b o ho => ?_, fun k t' b o ht hb ho hf => ?_, fun k t t' b hk h1 h2 hlt hb => ?_⟩
    · simp only [Env.chg] at hb
      split at hb
      · rename_i e; exact hc.lc b e hb
      · omega
    · exact (hc.old b (Array.getElem?_eq_some_iff.1 ho).1 (hu n _ hT)).trans ho
    · by_cases e : blk val = some b
      · exact hc.ic b o e ho
      · exact ⟨o, (hc.old b (Array.getElem?_eq_some_iff.1 ho).1 e).trans ho, rfl⟩
    · simp only [Env.chg] at ht
      split at ht
      · rename_i e
        simp only [Option.some.injEq] at ht
        subst ht
        rcases hc.new b hb with h1 | h1
        · exact ⟨_, e ▸ hT, h1.1⟩
        · have := (Array.getElem?_eq_some_iff.1 ho).1
          omega
      · exact ⟨t', ht, hb⟩
    · simp only [Env.chg] at h2
      split at h2
      · rename_i e
        subst e
        rw [hT] at h1
        cases h1
        simp only [Option.some.injEq] at h2
        subst h2
        exact hc.mv hlt b hb
      · rw [h1] at h2
        cases h2
        omega

theorem SimG.chg (h : SimG E w G nx) (hT : E.T n = some (ver, wv, val)) (hc : Chg E w w' ver wv val ver' wv' val' l) {o : GObj} (ho : ObjOk (E.chg n (ver', wv', val') l) w' n o) :
    SimG (E.chg n (ver', wv', val') l) w' (setG G n o) nx := by
  have hev := Ev.chg h hT hc
  have hother : ∀ k, k ≠ n → (E.chg n (ver', wv', val') l).T k = E.T k := fun k hk => by simp only [Env.chg]; rw [if_neg hk]
  refine ⟨h.nx, fun k ob hk => ?_, fun k t hk => ?_, fun k v2 wv2 x2 b hk hb => ?_, fun k m t t' b h1 h2 hne hb => ?_, fun b hb => ?_, Nat.le_trans h.base hc.below.size⟩
  · simp only [setG] at hk
    split at hk
    · rename_i e
      subst e
      simp only [Option.some.injEq] at hk
      subst hk
      exact ho
    · rename_i e
      refine (h.obj k ob hk).keep hev (hother k e) (fun v1 wv1 x1 b h1 hb => ?_)
      have hlt := h.tb k _ _ _ b h1 hb
      have hne : blk val ≠ some b := fun e2 => h.ap k n _ _ b h1 hT e hb e2
      refine ⟨hc.old b hlt.2 hne, ?_⟩
      simp only [Env.chg]
      rw [if_neg]
      intro e2
      rcases hc.new b e2 with h3 | h3
      · exact hne h3.1
      · omega
  · by_cases e : k = n
    · subst e; exact h.lt k _ hT
    · rw [hother k e] at hk; exact h.lt k t hk
  · by_cases e : k = n
    · subst e
      simp only [Env.chg, if_true, Option.some.injEq, Prod.mk.injEq] at hk
      obtain ⟨rfl, rfl, rfl⟩ := hk
      rcases hc.new b hb with h3 | h3
      · have := h.tb k _ _ _ b hT h3.1
        exact ⟨this.1, Nat.lt_of_lt_of_le this.2 hc.below.size⟩
      · exact ⟨Nat.le_trans h.base h3.1, h3.2⟩
    · rw [hother k e] at hk
      have := h.tb k _ _ _ b hk hb
      exact ⟨this.1, Nat.lt_of_lt_of_le this.2 hc.below.size⟩
  · have key : ∀ m t', m ≠ n → E.T m = some t' → blk val' = some b → blk t'.2.2 ≠ some b := fun m t' hm h2 hb hb' => by
      rcases hc.new b hb with h3 | h3
      · exact h.ap m n _ _ b h2 hT hm hb' h3.1
      · have := h.tb m t'.1 t'.2.1 t'.2.2 b h2 hb'
        omega
    by_cases e : k = n
    · subst e
      simp only [Env.chg, if_true, Option.some.injEq] at h1
      subst h1
      rw [hother m (Ne.symm hne)] at h2
      exact key m t' (Ne.symm hne) h2 hb
    · rw [hother k e] at h1
      by_cases e2 : m = n
      · subst e2
        simp only [Env.chg, if_true, Option.some.injEq] at h2
        subst h2
        exact fun hb' => key k t e h1 hb' hb
      · rw [hother m e2] at h2
        exact h.ap k m t t' b h1 h2 hne hb
  · simp only [Env.chg]
    rw [if_neg]
    · exact h.fresh b (Nat.le_trans hc.below.size hb)
    · intro e
      rcases hc.new b e with h3 | h3
      · have := (h.tb n _ _ _ b hT h3.1).2
        have := hc.below.size
        omega
      · omega
end

/-! ### The logic -/
/-- An exit's claim on abstract states as one on frames and worlds. -/
def lift (E : Env) (w : World) (Q : Exit → St → Prop) (ex : Exit) (a' : Act) (w' : World) : Prop := ∃ st' E', Ev E w E' w' ∧ Sim E' w' st' a' ∧ Q ex st'

/-- The fence of a frame, or of a round of a range over a function. -/
def fen (ρ : Option Nat) : Fence := { Fence.wide with round := ρ }
/-- What code does, in a frame or in a round. -/
def cwp (ρ : Option Nat) (P : Program) (c : Code) (Q : Exit → Act → World → Prop) (a : Act) (w : World) : Prop := c.wpIn (fen ρ) 1 P Q a w
theorem cwp_n {ρ : Option Nat} {n m : Nat} {P : Program} {c : Code} {Q : Exit → Act → World → Prop} {a : Act} {w : World} (h : c.wpIn (fen ρ) n P Q a w) : c.wpIn (fen ρ) m P Q a w :=
  fun b k cs h1 h2 _ => h b k cs h1 h2 (fun _ hd => by cases hd)
theorem cwp_mono {ρ : Option Nat} {P : Program} {c : Code} {Q Q' : Exit → Act → World → Prop} {a : Act} {w : World} (hq : ∀ e a w, Q e a w → Q' e a w) (h : cwp ρ P c Q a w) : cwp ρ P c Q' a w := wpIn_mono h hq
theorem callsIn_fen {ρ : Option Nat} {n : Nat} {P : Program} {f : FuncId} {args : Array Value} {w : World} {R : Ending → World → Prop} (h : Calls P f args w R) : CallsIn (fen ρ) n P f args w R := by
  have := (callsIn_wide (n := n)).2 h
  exact this
theorem rowsIn_fen {ρ : Option Nat} {n : Nat} {P : Program} {row : String} {args : Array Value} {w : World} {R : Value → World → Prop} (h : Rows P row args w R) : RowsIn (fen ρ) n P row args w R := by
  have : RowsIn Fence.wide n P row args w R := fun c cs _ => let ⟨v, w', r, s⟩ := h c cs; ⟨v, w', r, stepsIn_wide.2 s⟩
  exact this
/-- An operation, in a frame or in a round. -/
theorem oper_fen {ρ : Option Nat} {P : Program} {o : Oper} {a : Act} {w : World} {K : Act → World → Prop} {Q : Exit → Act → World → Prop} (hd : ∀ c, o.op ≠ .defer c) (h : o.wp P a w K Q) : o.wpIn (fen ρ) 1 P a w K Q := by
  refine ⟨fun _ _ => trivial, ?_⟩
  rw [Oper.semAt_eq _ _ _ hd]
  unfold Oper.wp at h
  generalize (execOp a.eval o).run P w = r at h
  cases r with
  | ok x w' =>
    cases x with
    | enter f args => exact ⟨fun e => (by cases e), callsIn_fen h⟩
    | row r args => exact ⟨fun e => (by cases e), rowsIn_fen h⟩
    | round l f tmps assign body => exact h.elim
    | _ => exact h
  | halt x w' => cases x <;> exact h

/-- What code does to an abstract state. -/
def AW (ρ : Option Nat) (P : Program) (c : Code) (Q : Exit → St → Prop) (st : St) : Prop := ∀ E w a, Sim E w st a → cwp ρ P c (lift E w Q) a w

def AThen (K : St → Prop) (Q : Exit → St → Prop) : Exit → St → Prop
  | .normal, st => K st
  | e, st => Q e st

def ABlock (id : Nat) (Q : Exit → St → Prop) : Exit → St → Prop
  | .exit id', st => if id' = id then Q .normal st else Q (.exit id') st
  | e, st => Q e st

theorem AW.mono {ρ : Option Nat} {P : Program} {c : Code} {Q Q' : Exit → St → Prop} {st : St} (h : AW ρ P c Q st) (hq : ∀ e st, Q e st → Q' e st) : AW ρ P c Q' st :=
  fun E w a hs => cwp_mono (fun _ _ _ ⟨st', E', h1, h2, h3⟩ => ⟨st', E', h1, h2, hq _ _ h3⟩) (h E w a hs)

section
variable {ρ : Option Nat} {P : Program} {Q : Exit → St → Prop} {st : St}

theorem aw_skip (h : Q .normal st) : AW ρ P .skip Q st := fun E w _ hs => wpIn_skip ⟨st, E, Ev.refl E w, hs, h⟩
theorem aw_label {l : Nat} (h : Q .normal st) : AW ρ P (.label l) Q st := fun E w _ hs => wpIn_label ⟨st, E, Ev.refl E w, hs, h⟩
theorem aw_exit {id : Nat} (h : Q (.exit id) st) : AW ρ P (.exit id) Q st := fun E w _ hs => wpIn_exit ⟨st, E, Ev.refl E w, hs, h⟩
theorem aw_goto {l : Nat} (h : Q (.goto l) st) : AW ρ P (.goto l) Q st := fun E w _ hs => wpIn_goto ⟨st, E, Ev.refl E w, hs, h⟩
theorem aw_ret (h : Q .ret st) : AW ρ P .ret Q st := fun E w _ hs => wpIn_ret ⟨st, E, Ev.refl E w, hs, h⟩

theorem lift_trans {E1 E2 : Env} {w1 w2 : World} (h : Ev E1 w1 E2 w2) {ex : Exit} {a : Act} {w : World} (hq : lift E2 w2 Q ex a w) : lift E1 w1 Q ex a w :=
  let ⟨st', E', h1, h2, h3⟩ := hq; ⟨st', E', h.trans h1, h2, h3⟩

theorem aw_seq {x y : Code} (h : AW ρ P x (AThen (AW ρ P y Q) Q) st) : AW ρ P (.seq x y) Q st := by
  intro E w a hs
  refine wpIn_seq (cwp_mono ?_ (h E w a hs))
  rintro e a' w' ⟨st', E', h1, h2, h3⟩
  cases e with
  | normal => exact cwp_mono (fun _ _ _ hq => lift_trans h1 hq) (h3 E' w' a' h2)
  | _ => exact ⟨st', E', h1, h2, h3⟩

theorem aw_cond {c : Operand} {x y : Code} {b : Bool} (hc : evC st c = .v (.bool b)) (ht : b = true → AW ρ P x Q st) (hf : b = false → AW ρ P y Q st) : AW ρ P (.cond c x y) Q st := by
  intro E w a hs
  have hr := hs.ev c
  rw [hc] at hr
  cases he : a.eval c with
  | bool b' =>
    rw [he] at hr
    cases hr
    exact wpIn_cond_split he (fun e => ht e E w a hs) (fun e => hf e E w a hs)
  | _ => rw [he] at hr; cases hr

theorem aw_block {id : Nat} {c : Code} (h : AW ρ P c (ABlock id Q) st) : AW ρ P (.block id c) Q st := by
  intro E w a hs
  refine wpIn_block (cwp_mono ?_ (h E w a hs))
  rintro e a' w' ⟨st', E', h1, h2, h3⟩
  cases e with
  | exit id' =>
    simp only [ABlock] at h3
    simp only [Exit.inBlock]
    split at h3
    · rename_i e; rw [if_pos e]; exact ⟨st', E', h1, h2, h3⟩
    · rename_i e; rw [if_neg e]; exact ⟨st', E', h1, h2, h3⟩
  | _ => exact ⟨st', E', h1, h2, h3⟩

/-- What is known may be forgotten: another abstract state that the same frames and worlds meet. -/
def Le (st st' : St) : Prop := ∀ E w a, Sim E w st a → Sim E w st' a
theorem Le.refl (st : St) : Le st st := fun _ _ _ h => h

theorem least {p : Nat → Prop} (h : ∃ n, p n) : ∃ n, p n ∧ ∀ m, p m → n ≤ m := by
  obtain ⟨n, hn⟩ := h
  induction n using Nat.strongRecOn with
  | _ n ih =>
    by_cases hm : ∃ m, m < n ∧ p m
    · obtain ⟨m, h1, h2⟩ := hm
      exact ih m h1 h2
    · exact ⟨n, hn, fun m h => Nat.le_of_not_lt fun h1 => hm ⟨m, h1, h⟩⟩
open Classical in
noncomputable def leastOf (p : Nat → Prop) : Nat := if h : ∃ n, p n then (least h).choose else 0
theorem leastOf_spec {p : Nat → Prop} (h : ∃ n, p n) : p (leastOf p) ∧ ∀ m, p m → leastOf p ≤ m := by
  unfold leastOf
  rw [dif_pos h]
  exact (least h).choose_spec
/-- A loop, with a number that goes down. -/
theorem cwp_loop {c : Code} {Q : Exit → Act → World → Prop} {a : Act} {w : World} (J : Nat → Act → World → Prop) (m : Nat) (h0 : J m a w)
    (round : ∀ m a w, J m a w → cwp ρ P c (Exit.then (fun a' w' => ∃ m', m' < m ∧ J m' a' w') Q) a w) : cwp ρ P (.loop c) Q a w := by
  refine wpIn_loop (fun a w => ∃ m, J m a w) (fun a w => leastOf fun m => J m a w) ⟨m, h0⟩ fun a w h => ?_
  have h1 := leastOf_spec h
  refine cwp_mono ?_ (round _ a w h1.1)
  intro e a' w' hq
  cases e with
  | normal =>
    obtain ⟨m', h2, h3⟩ := hq
    exact ⟨⟨m', h3⟩, Nat.lt_of_le_of_lt ((leastOf_spec ⟨m', h3⟩).2 m' h3) h2⟩
  | _ => exact hq

/-- A loop: what holds at the head of each round, with a number that goes down. -/
theorem aw_loop {c : Code} (I : Nat → St → Prop) (m : Nat) (h0 : I m st)
    (round : ∀ m st, I m st → AW ρ P c (AThen (fun st' => ∃ m' st'', m' < m ∧ Le st' st'' ∧ I m' st'') Q) st) : AW ρ P (.loop c) Q st := by
  intro E w a hs
  refine cwp_loop (fun m a1 w1 => ∃ E1 st1, I m st1 ∧ Sim E1 w1 st1 a1 ∧ Ev E w E1 w1) m ⟨E, st, h0, hs, Ev.refl E w⟩ ?_
  rintro m a1 w1 ⟨E1, st1, hI, hs1, hev⟩
  refine cwp_mono ?_ (round m st1 hI E1 w1 a1 hs1)
  rintro e a' w' ⟨st', E', h1, h2, h3⟩
  cases e with
  | normal =>
    obtain ⟨m', st'', h4, h5, h6⟩ := h3
    exact ⟨m', h4, E', st'', h6, h5 _ _ _ h2, hev.trans h1⟩
  | _ => exact ⟨st', E', hev.trans h1, h2, h3⟩

/-- A cut: what is known is put in other words. -/
theorem aw_le {c : Code} {st' : St} (hl : Le st st') (h : AW ρ P c Q st') : AW ρ P c Q st := fun E w a hs => h E w a (hl E w a hs)
end

/-! ### Operations -/
/-- Whether a guarded operation is carried out. -/
def guardO (ops : Array Oper) (st : St) (o : Oper) : Option Bool :=
  match o.guard with
  | none => some true
  | some (j, want) => match (ops[j]?).bind (·.dst) with
    | some d => match st.at d with
      | .v (.bool b) => some (b == want)
      | .tup [] => some false
      | _ => none
    | none => some false

def isDefer : Op → Bool
  | .defer _ => true
  | _ => false
/-- .. and it is no defer statement. -/
def guardC (ops : Array Oper) (st : St) (o : Oper) : Option Bool := bif isDefer o.op then none else guardO ops st o
theorem guardC_o {ops : Array Oper} {st : St} {o : Oper} {b : Bool} (h : guardC ops st o = some b) : guardO ops st o = some b ∧ ∀ c, o.op ≠ .defer c := by
  unfold guardC at h
  cases hd : isDefer o.op
  · rw [hd] at h
    exact ⟨h, fun c e => by rw [e] at hd; cases hd⟩
  · rw [hd] at h; cases h
theorem guardC_spec {ops : Array Oper} {st : St} {o : Oper} {b : Bool} (h : guardC ops st o = some b) {E : Env} {w : World} {a : Act} (hs : Sim E w st a) : Region.wanted o (yielded ops a.tmps) = b := by
  replace h := (guardC_o h).1
  unfold guardO at h
  unfold Region.wanted
  cases hg : o.guard with
  | none => rw [hg] at h; simpa using h
  | some p =>
    obtain ⟨j, want⟩ := p
    rw [hg] at h
    simp only at h ⊢
    unfold yielded
    cases hd : (ops[j]?).bind (·.dst) with
    | none => rw [hd] at h; simp at h; subst h; simp
    | some d =>
      rw [hd] at h
      simp only [Option.bind_some] at h ⊢
      have hr := hs.at d
      have hsz : d < a.tmps.size ∨ a.tmps.size ≤ d := Nat.lt_or_ge _ _
      rcases hsz with hsz | hsz
      · have hv : a.tmps[d]? = some (a.tmps.getD d undef) := by simp [hsz]
        rw [hv]
        generalize a.tmps.getD d undef = v at hr
        generalize st.at d = c at h hr
        cases c with
        | v x =>
          cases hr
          cases v with
          | bool bb => simp only [Option.some.injEq] at h; subst h; cases bb <;> cases want <;> rfl
          | _ => simp at h
        | tup cs =>
          cases cs with
          | nil =>
            cases hr
            simp only [Option.some.injEq] at h
            subst h
            cases want <;> rfl
          | cons _ _ => simp at h
        | _ => simp at h
      · have hb : Nat.blt d st.n = false := by
          rw [← hs.sz]
          cases hb : Nat.blt d a.tmps.size
          · rfl
          · rw [Nat.blt_eq] at hb; omega
        simp only [St.at, hb, cond_false] at h
        simp at h

/-- What yields a value in every world that keeps what is laid, and the objects of D; the world stands. -/
def Keeps (E : Env) (D : Nat → Prop) (w w' : World) : Prop :=
  (∀ b i, i < E.L b → w'.cell? ⟨b, i, none⟩ = w.cell? ⟨b, i, none⟩) ∧ ∀ n, D n → ∀ ver wv val b, E.T n = some (ver, wv, val) → blk val = some b → w'.heap[b]? = w.heap[b]?
theorem Keeps.refl (E : Env) (D : Nat → Prop) (w : World) : Keeps E D w w := ⟨fun _ _ _ => rfl, fun _ _ _ _ _ _ _ _ => rfl⟩

def SStep (P : Program) (D : Nat → Prop) (o : Oper) (st : St) (c : C) : Prop :=
  ∀ E w a, Sim E w st a → ∃ v, R E w c v ∧ ∀ w', Keeps E D w w' → (execOp a.eval o).run P w' = .ok (.value v) w'
/-- .. whatever world. -/
def NStep (P : Program) (o : Oper) (st : St) (c : C) : Prop :=
  ∀ E w a, Sim E w st a → ∃ v, R E w c v ∧ ∀ w', (execOp a.eval o).run P w' = .ok (.value v) w'
theorem NStep.s {P : Program} {D : Nat → Prop} {o : Oper} {st : St} {c : C} (h : NStep P o st c) : SStep P D o st c :=
  fun E w a hs => let ⟨v, h1, h2⟩ := h E w a hs; ⟨v, h1, fun w' _ => h2 w'⟩
/-- What changes the world. -/
def EStep (P : Program) (o : Oper) (st : St) (K : St → Prop) : Prop :=
  ∀ E w a, Sim E w st a → ∀ (Kr : Act → World → Prop) (Q : Exit → Act → World → Prop), (∀ a' w' st' E', Ev E w E' w' → Sim E' w' st' a' → K st' → Kr a' w') → o.wp P a w Kr Q

theorem EStep.mono {P : Program} {o : Oper} {st : St} {K K' : St → Prop} (h : EStep P o st K) (hk : ∀ st, K st → K' st) : EStep P o st K' :=
  fun E w a hs Kr Q hq => h E w a hs Kr Q fun a' w' st' E' h1 h2 h3 => hq a' w' st' E' h1 h2 (hk _ h3)

theorem SStep.e {P : Program} {D : Nat → Prop} {o : Oper} {st : St} {c : C} (h : SStep P D o st c) : EStep P o st (fun st' => st' = st.put o.dst c) := by
  intro E w a hs Kr Q hq
  obtain ⟨v, h1, h2⟩ := h E w a hs
  unfold Oper.wp
  rw [h2 w (Keeps.refl E D w)]
  exact hq _ _ _ _ (Ev.refl E w) (hs.put o.dst h1) rfl

/-- The operations of a region, one behind the other. -/
def AOps (ρ : Option Nat) (P : Program) (ops : Array Oper) (K : St → Prop) (l : List Oper) (st : St) : Prop :=
  ∀ E w a, Sim E w st a → ∀ Q : Exit → Act → World → Prop, (∀ a' w' st' E', Ev E w E' w' → Sim E' w' st' a' → K st' → Q .normal a' w') → wpListIn (fen ρ) 1 P ops Q l a w

section
variable {ρ : Option Nat} {P : Program} {ops : Array Oper} {K : St → Prop} {rest : List Oper} {o : Oper} {st : St}

theorem aops_nil (h : K st) : AOps ρ P ops K [] st := fun E w a hs _ hq => wpListIn_nil (hq a w st E (Ev.refl E w) hs h)

theorem aops_e (hg : guardC ops st o = some true) (h : EStep P o st (AOps ρ P ops K rest)) : AOps ρ P ops K (o :: rest) st := by
  intro E w a hs Q hq
  refine wpListIn_step fun Kr hK => ?_
  rw [if_pos (guardC_spec hg hs)]
  refine oper_fen (guardC_o hg).2 (h E w a hs Kr Q fun a' w' st' E' h1 h2 h3 => hK a' w' (h3 E' w' a' h2 Q fun a2 w2 st2 E2 q1 q2 q3 => hq a2 w2 st2 E2 (h1.trans q1) q2 q3))

theorem aops_s {c : C} (hg : guardC ops st o = some true) (hq : SStep P (fun _ => True) o st c) (h : AOps ρ P ops K rest (st.put o.dst c)) : AOps ρ P ops K (o :: rest) st :=
  aops_e hg (hq.e.mono fun _ e => e ▸ h)

theorem aops_n {c : C} (hg : guardC ops st o = some true) (hq : NStep P o st c) (h : AOps ρ P ops K rest (st.put o.dst c)) : AOps ρ P ops K (o :: rest) st := aops_s hg hq.s h

theorem aops_skip (hg : guardC ops st o = some false) (h : AOps ρ P ops K rest (st.put o.dst (.tup []))) : AOps ρ P ops K (o :: rest) st := by
  intro E w a hs Q hq
  refine wpListIn_step fun Kr hK => ?_
  rw [if_neg (by rw [guardC_spec hg hs]; simp)]
  exact ⟨fun _ _ => trivial, hK _ _ (h E w _ (hs.put o.dst (R.undef E w)) Q hq)⟩

theorem aw_region {id : Nat} {l : List Oper} {Q : Exit → St → Prop} (h : AOps ρ P l.toArray (Q .normal) l st) : AW ρ P (.region id l.toArray false) Q st := by
  intro E w a hs
  exact wpIn_region_lit (h E w a hs _ fun a' w' st' E' h1 h2 h3 => ⟨st', E', h1, h2, h3⟩)
end

/-! ### Calls -/
/-- What a call of a function does. -/
def PC (P : Program) (f : FuncId) (args : List C) (G : Nat → Option GObj) (nx : Nat) (K : C → (Nat → Option GObj) → Nat → Prop) : Prop :=
  ∀ E w vs, Rs E w args vs → SimG E w G nx → Calls P f vs.toArray w fun e w' => ∃ r v E' G' nx', e = .returned v ∧ Ev E w E' w' ∧ R E' w' r v ∧ SimG E' w' G' nx' ∧ K r G' nx'

/-- A call that leaves all as it was. -/
def Pure (P : Program) (f : FuncId) (args : List C) (r : C) : Prop := ∀ G nx, PC P f args G nx fun r' G' nx' => r' = r ∧ G' = G ∧ nx' = nx

theorem PC.mono {P : Program} {f : FuncId} {args : List C} {G : Nat → Option GObj} {nx : Nat} {K K' : C → (Nat → Option GObj) → Nat → Prop} (h : PC P f args G nx K) (hk : ∀ r G nx, K r G nx → K' r G nx) : PC P f args G nx K' :=
  fun E w vs h1 h2 => (h E w vs h1 h2).mono fun _ _ ⟨r, v, E', G', nx', e1, e2, e3, e4, e5⟩ => ⟨r, v, E', G', nx', e1, e2, e3, e4, hk _ _ _ e5⟩

/-- Names of G only, none new. -/
inductive C.low (m : Nat) : C → Prop
  | v {x : Value} : C.low m (.v x)
  | list {rows : List (List C)} {tok : Tok} : (∀ r ∈ rows, ∀ c ∈ r, C.low m c) → (∀ n, tok = .tip n → n < m) → C.low m (.list rows tok)
  | elem {cs : List C} : (∀ c ∈ cs, C.low m c) → C.low m (.elem cs)
  | box {n ver off : Nat} : n < m → C.low m (.box n ver off)
  | arr {n ver : Nat} : n < m → C.low m (.arr n ver)
  | own {n ver len : Nat} : n < m → C.low m (.own n ver len)
  | fn {f : Fn} {caps : List C} : (∀ c ∈ caps, C.low m c) → C.low m (.fn f caps)
  | map {n : Nat} : n < m → C.low m (.map n)
  | agg {cs : List C} : (∀ c ∈ cs, C.low m c) → C.low m (.agg cs)
  | tup {cs : List C} : (∀ c ∈ cs, C.low m c) → C.low m (.tup cs)
  | any : C.low m .any

theorem R.low {E : Env} {w : World} {c : C} {v : Value} (h : R E w c v) : c.low E.nx := by
  induction h with
  | v _ => exact .v
  | list _ _ _ _ _ _ _ _ _ h8 ih =>
    refine .list (fun r hr c hc => ?_) fun n hn => (h8 n hn).1
    obtain ⟨j, hj⟩ := List.getElem?_of_mem (List.mem_flatten.2 ⟨r, hr, hc⟩)
    exact ih j c hj
  | elem _ _ _ _ ih => exact .elem fun c hc => let ⟨j, hj⟩ := List.getElem?_of_mem hc; ih j c hj
  | box h _ => exact .box h
  | arr h _ _ _ => exact .arr h
  | own h _ _ _ => exact .own h
  | fn _ _ _ ih => exact .fn fun c hc => let ⟨j, hj⟩ := List.getElem?_of_mem hc; ih j c hj
  | map h _ => exact .map h
  | agg _ _ _ _ ih => exact .agg fun c hc => let ⟨j, hj⟩ := List.getElem?_of_mem hc; ih j c hj
  | tup _ _ _ ih => exact .tup fun c hc => let ⟨j, hj⟩ := List.getElem?_of_mem hc; ih j c hj
  | any => exact .any

theorem Rs.low {E : Env} {w : World} {cs : List C} {vs : List Value} (h : Rs E w cs vs) : ∀ c ∈ cs, C.low E.nx c := by
  intro c hc
  obtain ⟨j, hj⟩ := List.getElem?_of_mem hc
  have hlt : j < vs.length := by rw [h.1]; exact (List.getElem?_eq_some_iff.1 hj).1
  exact (h.2 j c _ hj (List.getElem?_eq_getElem hlt)).low

/-- Names from m on are dropped. -/
def Env.drop (E : Env) (m : Nat) : Env := { E with T := fun k => if k < m then E.T k else none, nx := m }

theorem R.drop {E : Env} {w : World} {m : Nat} {c : C} {v : Value} (h : R E w c v) (hl : c.low m) : R (E.drop m) w c v := by
  have hT : ∀ n t, (E.drop m).T n = some t → E.T n = some t := fun n t ht => by
    simp only [Env.drop] at ht
    split at ht
    · exact ht
    · cases ht
  induction h with
  | v hx => exact .v hx
  | list h1 h2 h3 h4 h5 h6 _ z1 z2 h8 ih =>
    cases hl with
    | list l1 l2 =>
    refine .list h1 h2 h3 h4 h5 h6 (fun j c hj => ih j c hj ?_) z1 z2 fun n hn => ⟨l2 n hn, fun ver wv val ht => (h8 n hn).2 _ _ _ (hT _ _ ht)⟩
    obtain ⟨r, hr, hc⟩ := List.mem_flatten.1 (List.mem_of_getElem? hj)
    exact l1 r hr c hc
  | elem h1 h2 h3 _ ih =>
    cases hl with
    | elem l1 => exact .elem h1 h2 h3 fun j c hj => ih j c hj (l1 c (List.mem_of_getElem? hj))
  | box _ h2 => cases hl with | box l => exact .box l fun ver' wv val ht => h2 _ _ _ (hT _ _ ht)
  | arr _ q1 q2 h2 => cases hl with | arr l => exact .arr l q1 q2 fun ver' wv val ht => h2 _ _ _ (hT _ _ ht)
  | own _ q1 q2 h2 => cases hl with | own l => exact .own l q1 q2 fun ver' wv val ht => h2 _ _ _ (hT _ _ ht)
  | fn h1 _ h3 ih => cases hl with | fn l => exact .fn h1 (fun j c hj => ih j c hj (l c (List.mem_of_getElem? hj))) h3
  | map _ h2 => cases hl with | map l => exact .map l fun ver wv val ht => h2 _ _ _ (hT _ _ ht)
  | agg h1 h2 _ h4 ih => cases hl with | agg l => exact .agg h1 h2 (fun j c hj => ih j c hj (l c (List.mem_of_getElem? hj))) h4
  | tup h1 _ h3 ih => cases hl with | tup l => exact .tup h1 (fun j c hj => ih j c hj (l c (List.mem_of_getElem? hj))) h3
  | any => exact .any

def GObj.low (m : Nat) : GObj → Prop
  | .box _ cs => ∀ c ∈ cs, C.low m c
  | .arr _ _ _ _ _ cs => ∀ c ∈ cs, C.low m c
  | .tip _ _ _ => True
  | .fact _ c => C.low m c
  | .map _ _ f => ∀ x c, f x = some c → C.low m c
  | .raw _ _ => True

theorem Rs.drop {E : Env} {w : World} {m : Nat} {cs : List C} {vs : List Value} (h : Rs E w cs vs) (hl : ∀ c ∈ cs, C.low m c) : Rs (E.drop m) w cs vs :=
  ⟨h.1, fun j c v h1 h2 => (h.2 j c v h1 h2).drop (hl c (List.mem_of_getElem? h1))⟩

theorem SimG.drop {E : Env} {w : World} {G : Nat → Option GObj} {nx m : Nat} (h : SimG E w G nx) (hm : ∀ n o, G n = some o → n < m ∧ o.low m) : SimG (E.drop m) w G m := by
  have hT : ∀ n t, (E.drop m).T n = some t → E.T n = some t := fun n t ht => by
    simp only [Env.drop] at ht
    split at ht
    · exact ht
    · cases ht
  have hT' : ∀ n, n < m → (E.drop m).T n = E.T n := fun n hn => by simp only [Env.drop]; rw [if_pos hn]
  refine ⟨rfl, fun n o ho => ?_, fun n t ht => ?_, fun n ver wv val b ht hb => h.tb n ver wv val b (hT _ _ ht) hb, fun n k t t' b h1 h2 hne hb => h.ap n k t t' b (hT _ _ h1) (hT _ _ h2) hne hb, h.fresh, h.base⟩
  · obtain ⟨hn, hlow⟩ := hm n o ho
    have := h.obj n o ho
    cases o with
    | fact v c => exact ⟨(hT' n hn).trans this.1, this.2.drop hlow⟩
    | raw wv o => obtain ⟨b, h1, h2, h3⟩ := this; exact ⟨b, (hT' n hn).trans h1, h2, h3⟩
    | map wv ok f =>
      obtain ⟨r, es, clock, h1, h2, h3, h4⟩ := this
      exact ⟨r, es, clock, (hT' n hn).trans h1, h2, h3.imp fun x c _ hx hr => hr.drop (hlow x c hx), h4⟩
    | box wv cs =>
      obtain ⟨b, us, tt, h1, h2, h3, h4, h5⟩ := this
      exact ⟨b, us, tt, (hT' n hn).trans h1, h2, h3, h4.drop hlow, h5⟩
    | arr ver wv tt sz len cs =>
      obtain ⟨val, us, h1, h2, h3, h4, h5, h6⟩ := this
      exact ⟨val, us, (hT' n hn).trans h1, h2, h3, h4.drop hlow, h5, h6⟩
    | tip len tt sz =>
      obtain ⟨val, us, h1, h2, h5, h6⟩ := this
      exact ⟨val, us, (hT' n hn).trans h1, h2, h5, h6⟩
  · simp only [Env.drop] at ht ⊢
    split at ht
    · assumption
    · cases ht

theorem Ev.drop {E E' : Env} {w w' : World} (h : Ev E w E' w') {m : Nat} (hm : E.nx ≤ m) : Ev E w (E'.drop m) w' := by
  have hT' : ∀ n, n < m → (E'.drop m).T n = E'.T n := fun n hn => by simp only [Env.drop]; rw [if_pos hn]
  exact ⟨h.below, h.B, h.L, h.cell, hm, fun n hn ver' wv' val' ht => h.T n hn ver' wv' val' (by rw [← hT' n (by omega)]; exact ht), fun n ver wv wv' val h1 h2 hn => h.wv n ver wv wv' val h1 (by rw [← hT' n (by omega)]; exact h2) hn, ⟨h.x.F, h.x.lc, h.x.oth, h.x.ic, fun n t' b o ht hb ho hf => h.x.nb n t' b o (by
    simp only [Env.drop] at ht
    split at ht
    · exact ht
    · cases ht) hb ho hf, fun n t t' b hn h1 h2 hv hb => h.x.mv n t t' b hn h1 (by rw [← hT' n (by omega)]; exact h2) hv hb⟩⟩

/-- A function's body. -/
structure Body (P : Program) (f : FuncId) (fn : Func) (c : Code) : Prop where
  hf : P.funcs[f]? = some fn
  hb : fn.body = some c


/-- What a frame gives back. -/
def resC (P : Program) (fn : Func) (st : St) (r : C) : Prop := ∀ E w (a : Act), Sim E w { st with df := 0 } a → ∃ v, (results fn a.tmps).run P w = .ok v w ∧ R E w r v

theorem Sim.start {E : Env} {w : World} {args : List C} {vs : List Value} {G : Nat → Option GObj} {nx : Nat} (h : Rs E w args vs) (hg : SimG E w G nx) (hF : E.F ≤ w.heap.size) (n : Nat) :
    Sim E w { n := args.length + (n - args.length), l := args, r := [], G := G, nx := nx } { tmps := vs.toArray ++ Array.replicate (n - vs.toArray.size) undef, defers := [] } := by
  refine ⟨⟨hF, rfl⟩, by simp [h.1], fun i v hv => ?_, hg⟩
  simp only [getA]
  rw [List.getD_eq_getElem?_getD]
  rw [Array.getElem?_append] at hv
  simp only [List.size_toArray, List.getElem?_toArray, h.1] at hv
  split at hv
  · rename_i hlt
    rw [List.getElem?_eq_getElem hlt]
    exact h.2 i _ v (List.getElem?_eq_getElem hlt) hv
  · rename_i hlt
    rw [List.getElem?_eq_none (by omega)]
    exact .any

theorem SimG.reF {E : Env} {w : World} {G : Nat → Option GObj} {nx : Nat} (h : SimG E w G nx) (F : Nat) : SimG { E with F := F } w G nx := by
  have hr : ∀ {cs : List C} {vs : List Value}, Rs E w cs vs → Rs { E with F := F } w cs vs := fun hr => hr.same (E := E) (E' := { E with F := F }) (fun _ => Nat.le_refl _) (fun _ _ _ => rfl) rfl rfl
  refine ⟨h.nx, fun n o ho => ?_, h.lt, h.tb, h.ap, h.fresh, h.base⟩
  have hr1 : ∀ {c : C} {v : Value}, R E w c v → R { E with F := F } w c v := fun hr => hr.same (E := E) (E' := { E with F := F }) (fun _ => Nat.le_refl _) (fun _ _ _ => rfl) rfl rfl
  have := h.obj n o ho
  cases o with
  | fact v c => exact ⟨this.1, hr1 this.2⟩
  | raw wv o => exact this
  | map wv ok f =>
    obtain ⟨r, es, clock, h1, h2, h3, h4⟩ := this
    exact ⟨r, es, clock, h1, h2, h3.imp fun _ _ _ _ hr => hr1 hr, h4⟩
  | box wv cs =>
    obtain ⟨b, us, tt, h1, h2, h3, h4, h5⟩ := this
    exact ⟨b, us, tt, h1, h2, h3, hr h4, h5⟩
  | arr ver wv tt sz len cs =>
    obtain ⟨val, us, h1, h2, h3, h4, h5, h6⟩ := this
    exact ⟨val, us, h1, h2, h3, hr h4, h5, h6⟩
  | tip len tt sz => exact this
theorem Ev.reF {E E' : Env} {w w' : World} {F : Nat} (h : Ev { E with F := F } w E' w') : Ev E w { E' with F := E.F } w' :=
  ⟨h.below, h.B, h.L, h.cell, h.nx, h.T, h.wv, ⟨rfl, h.x.lc, h.x.oth, h.x.ic, h.x.nb, h.x.mv⟩⟩

/-- The marks of ranges over functions are taken in. -/
def Shut (F : Nat) (T : Nat → Option (Nat × Nat × Value)) (w w' : World) : Prop :=
  (w'.os = w.os ∧ w'.tape = w.tape ∧ w'.output = w.output) ∧ w'.heap.size = w.heap.size ∧ (∀ b : Nat, b < F → w'.heap[b]? = w.heap[b]?) ∧ (∀ (b : Nat) (o : Obj), w.heap[b]? = some o → o.isCells = true → w'.heap[b]? = some o) ∧
  (∀ (b : Nat) (o : Obj), w.heap[b]? = some o → o.isCells = false → ∃ o' : Obj, w'.heap[b]? = some o' ∧ o'.isCells = false) ∧ ∀ n t b, T n = some t → blk t.2.2 = some b → w'.heap[b]? = w.heap[b]?
theorem Shut.refl (F : Nat) (T : Nat → Option (Nat × Nat × Value)) (w : World) : Shut F T w w := ⟨⟨rfl, rfl, rfl⟩, rfl, fun _ _ => rfl, fun _ _ h _ => h, fun _ o h k => ⟨o, h, k⟩, fun _ _ _ _ _ => rfl⟩
theorem putObj_other (w : World) (D b : Nat) (o : Obj) (h : b ≠ D) : (w.putObj D o).heap[b]? = w.heap[b]? := by
  simp [World.putObj, Ne.symm h]
theorem marks_leave {P : Program} {fn : Func} {tmps : Array Value} {R : Ending → World → Prop} {E : Env} : ∀ (ds : List Deferred) (w : World), DefOk E w ds →
    (∀ w', Shut E.F E.T w w' → LeavesIn (fen none) 1 P fn tmps R [] .returning w') → LeavesInM (fen none) 1 P fn tmps R ds .returning w
  | [], w, _, h => h w (Shut.refl _ _ _)
  | d :: ds, w, ⟨⟨D, e, hF, hD, hu, hn⟩, k⟩, h => by
    subst e
    have hlt : D < w.heap.size := (Array.getElem?_eq_some_iff.1 hD).1
    refine ⟨by simp, .inl ⟨D, w.putObj D (.deferred none), rfl, run_takeDeferred hD, marks_leave (E := E) ds _ ?_ fun w' hs => h w' ?_⟩⟩
    · -- the others stand
      have : ∀ {es : List Deferred}, (∀ d' ∈ es, d'.target ≠ .collected D) → DefOk E w es → DefOk E (w.putObj D (.deferred none)) es := by
        intro es
        induction es with
        | nil => exact fun _ h => by simpa [DefOk, World.putObj] using h
        | cons d' es ih =>
          rintro hne ⟨⟨D', e', h1, h2, h3, h4⟩, h5⟩
          refine ⟨⟨D', e', h1, ?_, h3, h4⟩, ih (fun d'' hd => hne d'' (List.mem_cons_of_mem _ hd)) h5⟩
          rw [putObj_other _ _ _ _ (fun ee => hne d' (List.mem_cons_self ..) (by rw [e', ee]))]
          exact h2
      exact this hn k
    · obtain ⟨h1, h2, h3, h4, h5, h6⟩ := hs
      have hsz : (w.putObj D (.deferred none)).heap.size = w.heap.size := by simp [World.putObj]
      have hoth : ∀ b, b ≠ D → (w.putObj D (.deferred none)).heap[b]? = w.heap[b]? := fun b hb => putObj_other _ _ _ _ hb
      refine ⟨⟨h1.1, h1.2.1, h1.2.2⟩, h2.trans hsz, fun b hb => (h3 b hb).trans (hoth b (by omega)), fun b o ho hc => h4 b o ((hoth b fun e => ?_).trans ho) hc, fun b o ho hc => ?_, fun n t b ht hb => (h6 n t b ht hb).trans (hoth b fun e => hu n t ht (e ▸ hb))⟩
      · subst e; rw [hD] at ho; cases ho; cases hc
      · by_cases e : b = D
        · subst e
          exact h5 b (.deferred none) (by simp [World.putObj, hlt]) rfl
        · exact h5 b o ((hoth b e).trans ho) hc
theorem Shut.cell {F : Nat} {T : Nat → Option (Nat × Nat × Value)} {w w' : World} (h : Shut F T w w') (b i : Nat) : w'.cell? ⟨b, i, none⟩ = w.cell? ⟨b, i, none⟩ := by
  unfold World.cell?
  dsimp only
  cases ho : w.heap[b]? with
  | none =>
    have : w'.heap[b]? = none := by
      rw [Array.getElem?_eq_none_iff] at ho ⊢
      rw [h.2.1]; exact ho
    rw [this]
  | some o =>
    cases hc : o.isCells with
    | true => rw [h.2.2.2.1 b o ho hc]
    | false =>
      obtain ⟨o', h1, h2⟩ := h.2.2.2.2.1 b o ho hc
      rw [h1]
      cases o <;> cases o' <;> first | rfl | (simp [Obj.isCells] at h2; done) | (simp [Obj.isCells] at hc; done)

/-- A function's contract out of its body's walk. -/
theorem pc_of_body {P : Program} {f : FuncId} {fn : Func} {c : Code} {args : List C} {G : Nat → Option GObj} {nx : Nat} {K : C → (Nat → Option GObj) → Nat → Prop} (hf : P.funcs[f]? = some fn) (hb : fn.body = some c)
    (h : AW none P c (fun e st => match e with | .normal | .ret => ∃ r, resC P fn st r ∧ K r st.G st.nx | _ => False) { n := args.length + (fn.ntmps - args.length), l := args, r := [], G := G, nx := nx }) : PC P f args G nx K := by
  intro E w vs hr hg
  have hr1 : Rs { E with F := w.heap.size } w args vs := hr.same (E := E) (E' := { E with F := w.heap.size }) (fun _ => Nat.le_refl _) (fun _ _ _ => rfl) rfl rfl
  have hg1 := hg.reF w.heap.size
  refine callsIn_wide.1 (callsIn_of_wp_marks (F := fen none) hf hb trivial (wpIn_mono (h { E with F := w.heap.size } w _ (Sim.start hr1 hg1 (Nat.le_refl _) fn.ntmps)) ?_))
  have fin : ∀ (a' : Act) (w' : World) (st' : St) (E' : Env), Ev { E with F := w.heap.size } w E' w' → Sim E' w' st' a' → (∃ r, resC P fn st' r ∧ K r st'.G st'.nx) →
      LeavesInM (fen none) 1 P fn a'.tmps (fun e w' => ∃ r v E' G' nx', e = .returned v ∧ Ev E w E' w' ∧ R E' w' r v ∧ SimG E' w' G' nx' ∧ K r G' nx') a'.defers .returning w' := by
    intro a' w' st' E' h1 h2 ⟨r, hres, hk⟩
    refine marks_leave a'.defers w' h2.d.1 fun w2 hs => ?_
    have hF : E'.F = w.heap.size := h1.x.F
    have hc := hs.cell
    have hrr : ∀ {c : C} {v : Value}, R E' w' c v → R E' w2 c v := fun hr => hr.same (fun _ => Nat.le_refl _) (fun b i _ => hc b i) rfl rfl
    have hrs : ∀ {c : List C} {v : List Value}, Rs E' w' c v → Rs E' w2 c v := fun hr => hr.same (fun _ => Nat.le_refl _) (fun b i _ => hc b i) rfl rfl
    have hg2 : SimG E' w2 st'.G st'.nx := by
      refine ⟨h2.g.nx, fun n o ho => ?_, h2.g.lt, fun n ver wv val b h3 h4 => by rw [hs.2.1]; exact h2.g.tb n ver wv val b h3 h4, h2.g.ap, fun b hb => h2.g.fresh b (by rw [← hs.2.1]; exact hb), by rw [hs.2.1]; exact h2.g.base⟩
      have := h2.g.obj n o ho
      cases o with
      | fact v c => exact ⟨this.1, hrr this.2⟩
      | raw wv o => obtain ⟨b, q1, q2, q3⟩ := this; exact ⟨b, q1, (hs.2.2.2.2.2 n _ b q1 rfl).trans q2, q3⟩
      | map wv ok f =>
        obtain ⟨r, es, clock, q1, q2, q3, q4⟩ := this
        exact ⟨r, es, clock, q1, (hs.2.2.2.2.2 n _ r q1 rfl).trans q2, q3.imp fun _ _ _ _ hr => hrr hr, q4⟩
      | box wv cs =>
        obtain ⟨b, us, tt, q1, q2, q3, q4, q5⟩ := this
        exact ⟨b, us, tt, q1, (hs.2.2.2.2.2 n _ b q1 rfl).trans q2, q3, hrs q4, q5⟩
      | arr ver wv tt sz len cs =>
        obtain ⟨val, us, q1, q2, q3, q4, q5, q6⟩ := this
        refine ⟨val, us, q1, ⟨q2.1, ?_⟩, q3, hrs q4, q5, q6⟩
        rcases q2.2 with q2 | ⟨g, cap, cur, rfl, hg, hgg, rest⟩
        · exact .inl q2
        · exact .inr ⟨g, cap, cur, rfl, hg, (hs.2.2.2.2.2 n _ g q1 rfl).trans hgg, rest⟩
      | tip len tt sz =>
        obtain ⟨val, us, q1, q2, q5, q6⟩ := this
        refine ⟨val, us, q1, ⟨q2.1, ?_⟩, q5, q6⟩
        rcases q2.2 with q2 | ⟨g, cap, cur, rfl, hg, hgg, rest⟩
        · exact .inl q2
        · exact .inr ⟨g, cap, cur, rfl, hg, (hs.2.2.2.2.2 n _ g q1 rfl).trans hgg, rest⟩
    obtain ⟨v, hv, hrv⟩ := hres E' w2 { tmps := a'.tmps, defers := [] } ⟨⟨by show E'.F ≤ w2.heap.size; rw [hs.2.1]; exact h2.d.F, rfl⟩, h2.sz, fun i v hv => hrr (h2.t i v hv), hg2⟩
    have hBF : E.B ≤ w.heap.size := hg.base
    have hev2 : Ev { E with F := w.heap.size } w E' w2 := by
      have hlt : ∀ b, b < w.heap.size → w2.heap[b]? = w'.heap[b]? := fun b hb => hs.2.2.1 b (by rw [hF]; exact hb)
      refine ⟨⟨hs.1.1.trans h1.below.os, hs.1.2.1.trans h1.below.tape, hs.1.2.2.trans h1.below.output, by rw [hs.2.1]; exact h1.below.size, fun k hk => (hlt k (Nat.lt_of_lt_of_le hk hBF)).trans (h1.below.block k hk)⟩, h1.B, h1.L, fun b i hi => (hc b i).trans (h1.cell b i hi), h1.nx, fun n hn ver' wv' val' h3 => ?_, h1.wv,
        ⟨h1.x.F, fun b hb => ?_, fun b o ho hf hu => (hlt b (Array.getElem?_eq_some_iff.1 ho).1).trans (h1.x.oth b o ho hf hu), fun b o ho => ?_, h1.x.nb, fun n t t' b hn q1 q2 q3 q4 => ?_⟩⟩
      · obtain ⟨ver, wv, val, q1, q2, q3⟩ := h1.T n hn _ _ _ h3
        refine ⟨ver, wv, val, q1, q2, fun e => ⟨(q3 e).1, fun e2 b hb => ?_⟩⟩
        exact (hlt b (hg.tb n _ _ _ b q1 hb).2).trans ((q3 e).2 e2 b hb)
      · obtain ⟨v, hv⟩ := h1.x.lc b hb
        exact ⟨v, (hc b 0).trans hv⟩
      · rw [hlt b (Array.getElem?_eq_some_iff.1 ho).1]
        exact h1.x.ic b o ho
      · obtain ⟨o, q5, q6⟩ := h1.x.mv n t t' b hn q1 q2 q3 q4
        exact ⟨o, hs.2.2.2.1 b o q5 q6, q6⟩
    refine ⟨v, hv, r, v, { E' with F := E.F }, st'.G, st'.nx, rfl, hev2.reF, hrv.same (E := E') (E' := { E' with F := E.F }) (fun _ => Nat.le_refl _) (fun _ _ _ => rfl) rfl rfl, hg2.reF E.F, hk⟩
  rintro e a' w' ⟨st', E', h1, h2, h3⟩
  cases e with
  | normal => exact fin a' w' st' E' h1 h2 h3
  | ret => exact fin a' w' st' E' h1 h2 h3
  | _ => exact h3.elim

/-- The end of the body of a function that leaves all as it was. -/
def Ends (P : Program) (fn : Func) (r : C) (G : Nat → Option GObj) (nx : Nat) (e : Exit) (st : St) : Prop :=
  match e with
  | .normal | .ret => resC P fn st r ∧ nx ≤ st.nx ∧ ∀ n o, G n = some o → st.G n = some o
  | _ => False

theorem pc_pure_of_body {P : Program} {f : FuncId} {fn : Func} {c : Code} {args : List C} {r : C} {G : Nat → Option GObj} {nx : Nat} (hf : P.funcs[f]? = some fn) (hb : fn.body = some c) (hl : ∀ m, r.low m)
    (h : AW none P c (Ends P fn r G nx) { n := args.length + (fn.ntmps - args.length), l := args, r := [], G := G, nx := nx }) : PC P f args G nx fun r' G' nx' => r' = r ∧ G' = G ∧ nx' = nx := by
  intro E w vs hr hg
  have hT := hg.obj
  have key := pc_of_body (K := fun r' G' nx' => r' = r ∧ nx ≤ nx' ∧ ∀ n o, G n = some o → G' n = some o) hf hb (AW.mono h fun e st hq => by
    cases e with
    | normal => exact ⟨r, hq.1, rfl, hq.2.1, hq.2.2⟩
    | ret => exact ⟨r, hq.1, rfl, hq.2.1, hq.2.2⟩
    | _ => exact hq)
  refine (key E w vs hr hg).mono ?_
  rintro e w' ⟨r', v, E', G', nx', e1, e2, e3, e4, rfl, e5, e6⟩
  have hnx := hg.nx
  refine ⟨r', v, E'.drop nx, G, nx, e1, e2.drop (by omega), e3.drop (hl nx), ?_, rfl, rfl, rfl⟩
  refine (e4.weak e6).drop fun n o ho => ⟨?_, ?_⟩
  · have := hg.obj n o ho
    have hlt : ∀ t, E.T n = some t → n < nx := fun t ht => by have := hg.lt n t ht; omega
    cases o with
    | box => obtain ⟨b, us, tt, h1, _⟩ := this; exact hlt _ h1
    | arr => obtain ⟨b, us, h1, _⟩ := this; exact hlt _ h1
    | tip => obtain ⟨b, us, h1, _⟩ := this; exact hlt _ h1
    | fact => exact hlt _ this.1
    | raw => obtain ⟨b, h1, _⟩ := this; exact hlt _ h1
    | map => obtain ⟨r, es, cl, h1, _⟩ := this; exact hlt _ h1
  · have := hg.obj n o ho
    cases o with
    | box => obtain ⟨b, us, tt, _, _, _, h4, _⟩ := this; exact hnx ▸ h4.low
    | arr => obtain ⟨b, us, _, _, _, h4, _⟩ := this; exact hnx ▸ h4.low
    | tip => trivial
    | fact => exact hnx ▸ this.2.low
    | raw => trivial
    | map wv ok f =>
      obtain ⟨r, es, cl, _, _, h3, _⟩ := this
      intro x c hx
      obtain ⟨e, he, rfl⟩ := h3.has x c hx
      obtain ⟨c', h4, h5⟩ := h3.val e he
      rw [hx] at h4; cases h4
      exact hnx ▸ h5.low

theorem pure_of_body {P : Program} {f : FuncId} {fn : Func} {c : Code} {args : List C} {r : C} (hf : P.funcs[f]? = some fn) (hb : fn.body = some c) (hl : ∀ m, r.low m)
    (h : ∀ (G : Nat → Option GObj) (nx : Nat), AW none P c (Ends P fn r G nx) { n := args.length + (fn.ntmps - args.length), l := args, r := [], G := G, nx := nx }) : Pure P f args r :=
  fun G nx => pc_pure_of_body hf hb hl (h G nx)
end Go.AB
