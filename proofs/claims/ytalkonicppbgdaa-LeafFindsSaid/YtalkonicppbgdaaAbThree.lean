/-
  Changes of a named object; the abstract logic: what code does to abstract states; calls.
-/
import Derived.Test.YtalkonicppbgdaaAbTwo
import Derived.Tactics
import Derived.OrdersHeld
namespace Go.AB
open Go Go.RowKit

/-! ### A named object changes -/
def Env.chg (E : Env) (n : Nat) (t : Nat × Nat × Value) (l : Nat) : Env :=
  { E with T := fun k => if k = n then some t else E.T k, L := fun k => if blk t.2.2 = some k then l else E.L k }

section
variable {E : Env} {w w' : World} {G : Nat → Option GObj} {nx n ver wv ver' wv' l : Nat} {val val' : Value}

/-- What must be so of the new world. -/
structure Chg (E : Env) (w w' : World) (ver wv : Nat) (val : Value) (ver' wv' : Nat) (val' : Value) (l : Nat) : Prop where
  below : Below E.B w w'
  old : ∀ k, k < w.heap.size → blk val ≠ some k → w'.heap[k]? = w.heap[k]?
  new : ∀ b, blk val' = some b → (blk val = some b ∧ E.L b ≤ l) ∨ (w.heap.size ≤ b ∧ b < w'.heap.size)
  cell : ∀ b i, blk val = some b → i < E.L b → w'.cell? ⟨b, i, none⟩ = w.cell? ⟨b, i, none⟩
  ver : ver < ver' ∨ (ver = ver' ∧ val = val' ∧ wv < wv')

theorem Ev.chg (h : SimG E w G nx) (hT : E.T n = some (ver, wv, val)) (hc : Chg E w w' ver wv val ver' wv' val' l) : Ev E w (E.chg n (ver', wv', val') l) w' := by
  refine ⟨hc.below, rfl, fun b => ?_, fun b i hi => ?_, Nat.le_refl _, fun k hk v2 wv2 x2 h2 => ?_, fun k v1 wv1 wv2 x1 h1 h2 hk => ?_⟩
  · simp only [Env.chg]
    split
    · rename_i hb
      rcases hc.new b hb with h1 | h1
      · exact h1.2
      · rw [h.fresh b h1.1]; exact Nat.zero_le _
    · exact Nat.le_refl _
  · by_cases hb : blk val = some b
    · exact hc.cell b i hb hi
    · have : b < w.heap.size := by
        rcases Nat.lt_or_ge b w.heap.size with h1 | h1
        · exact h1
        · rw [h.fresh b h1] at hi; omega
      exact World.cell?_of_block (w := w) (hc.old b this hb)
  · simp only [Env.chg] at h2
    split at h2
    · rename_i e
      subst e
      simp only [Option.some.injEq, Prod.mk.injEq] at h2
      obtain ⟨rfl, rfl, rfl⟩ := h2
      refine ⟨ver, wv, val, hT, ?_, fun e => ?_⟩
      · rcases hc.ver with h1 | h1 <;> omega
      · rcases hc.ver with h1 | ⟨h1, h2, h3⟩
        · omega
        · exact ⟨h2, fun e => by omega⟩
    · rename_i e
      refine ⟨v2, wv2, x2, h2, Nat.le_refl _, fun _ => ⟨rfl, fun _ b hb => ?_⟩⟩
      have hlt := h.tb k _ _ _ b h2 hb
      exact hc.old b hlt.2 (fun e2 => h.ap k n _ _ b h2 hT e hb e2)
  · simp only [Env.chg] at h2
    split at h2
    · rename_i e
      subst e
      rw [hT] at h1
      simp only [Option.some.injEq, Prod.mk.injEq] at h1 h2
      obtain ⟨rfl, rfl, rfl⟩ := h1
      obtain ⟨rfl, rfl, rfl⟩ := h2
      rcases hc.ver with h1 | ⟨h1, h2, h3⟩ <;> omega
    · rw [h1] at h2
      simp at h2; omega

theorem SimG.chg (h : SimG E w G nx) (hT : E.T n = some (ver, wv, val)) (hc : Chg E w w' ver wv val ver' wv' val' l) {o : GObj} (ho : ObjOk (E.chg n (ver', wv', val') l) w' n o) :
    SimG (E.chg n (ver', wv', val') l) w' (setG G n o) nx := by
  have hev := Ev.chg h hT hc
  have hother : ∀ k, k ≠ n → (E.chg n (ver', wv', val') l).T k = E.T k := fun k hk => by simp only [Env.chg]; rw [if_neg hk]
  refine ⟨h.nx, fun k ob hk => ?_, fun k t hk => ?_, fun k v2 wv2 x2 b hk hb => ?_, fun k m t t' b h1 h2 hne hb => ?_, fun b hb => ?_, Nat.le_trans h.base hc.below.size⟩
  · simp only [setG] at hk
    split at hk
    · rename_i e
      subst e
      simp only [Option.some.injEq] at hk
      subst hk
      exact ho
    · rename_i e
      refine (h.obj k ob hk).keep hev (hother k e) (fun v1 wv1 x1 b h1 hb => ?_)
      have hlt := h.tb k _ _ _ b h1 hb
      have hne : blk val ≠ some b := fun e2 => h.ap k n _ _ b h1 hT e hb e2
      refine ⟨hc.old b hlt.2 hne, ?_⟩
      simp only [Env.chg]
      rw [if_neg]
      intro e2
      rcases hc.new b e2 with h3 | h3
      · exact hne h3.1
      · omega
  · by_cases e : k = n
    · subst e; exact h.lt k _ hT
    · rw [hother k e] at hk; exact h.lt k t hk
  · by_cases e : k = n
    · subst e
      simp only [Env.chg, if_true, Option.some.injEq, Prod.mk.injEq] at hk
      obtain ⟨rfl, rfl, rfl⟩ := hk
      rcases hc.new b hb with h3 | h3
      · have := h.tb k _ _ _ b hT h3.1
        exact ⟨this.1, Nat.lt_of_lt_of_le this.2 hc.below.size⟩
      · exact ⟨Nat.le_trans h.base h3.1, h3.2⟩
    · rw [hother k e] at hk
      have := h.tb k _ _ _ b hk hb
      exact ⟨this.1, Nat.lt_of_lt_of_le this.2 hc.below.size⟩
  · have key : ∀ m t', m ≠ n → E.T m = some t' → blk val' = some b → blk t'.2.2 ≠ some b := fun m t' hm h2 hb hb' => by
      rcases hc.new b hb with h3 | h3
      · exact h.ap m n _ _ b h2 hT hm hb' h3.1
      · have := h.tb m t'.1 t'.2.1 t'.2.2 b h2 hb'
        omega
    by_cases e : k = n
    · subst e
      simp only [Env.chg, if_true, Option.some.injEq] at h1
      subst h1
      rw [hother m (Ne.symm hne)] at h2
      exact key m t' (Ne.symm hne) h2 hb
    · rw [hother k e] at h1
      by_cases e2 : m = n
      · subst e2
        simp only [Env.chg, if_true, Option.some.injEq] at h2
        subst h2
        exact fun hb' => key k t e h1 hb' hb
      · rw [hother m e2] at h2
        exact h.ap k m t t' b h1 h2 hne hb
  · simp only [Env.chg]
    rw [if_neg]
    · exact h.fresh b (Nat.le_trans hc.below.size hb)
    · intro e
      rcases hc.new b e with h3 | h3
      · have := (h.tb n _ _ _ b hT h3.1).2
        have := hc.below.size
        omega
      · omega
end

/-! ### The logic -/
/-- An exit's claim on abstract states as one on frames and worlds. -/
def lift (E : Env) (w : World) (Q : Exit → St → Prop) (ex : Exit) (a' : Act) (w' : World) : Prop := ∃ st' E', Ev E w E' w' ∧ Sim E' w' st' a' ∧ Q ex st'

/-- What code does to an abstract state. -/
def AW (P : Program) (c : Code) (Q : Exit → St → Prop) (st : St) : Prop := ∀ E w a, Sim E w st a → c.wp P (lift E w Q) a w

def AThen (K : St → Prop) (Q : Exit → St → Prop) : Exit → St → Prop
  | .normal, st => K st
  | e, st => Q e st

def ABlock (id : Nat) (Q : Exit → St → Prop) : Exit → St → Prop
  | .exit id', st => if id' = id then Q .normal st else Q (.exit id') st
  | e, st => Q e st

theorem AW.mono {P : Program} {c : Code} {Q Q' : Exit → St → Prop} {st : St} (h : AW P c Q st) (hq : ∀ e st, Q e st → Q' e st) : AW P c Q' st :=
  fun E w a hs => Code.wp_mono (fun _ _ _ ⟨st', E', h1, h2, h3⟩ => ⟨st', E', h1, h2, hq _ _ h3⟩) (h E w a hs)

section
variable {P : Program} {Q : Exit → St → Prop} {st : St}

theorem aw_skip (h : Q .normal st) : AW P .skip Q st := fun E w _ hs => wp_skip ⟨st, E, Ev.refl E w, hs, h⟩
theorem aw_label {l : Nat} (h : Q .normal st) : AW P (.label l) Q st := fun E w _ hs => wp_label ⟨st, E, Ev.refl E w, hs, h⟩
theorem aw_exit {id : Nat} (h : Q (.exit id) st) : AW P (.exit id) Q st := fun E w _ hs => wp_exit ⟨st, E, Ev.refl E w, hs, h⟩
theorem aw_goto {l : Nat} (h : Q (.goto l) st) : AW P (.goto l) Q st := fun E w _ hs => wp_goto ⟨st, E, Ev.refl E w, hs, h⟩
theorem aw_ret (h : Q .ret st) : AW P .ret Q st := fun E w _ hs => wp_ret ⟨st, E, Ev.refl E w, hs, h⟩

theorem lift_trans {E1 E2 : Env} {w1 w2 : World} (h : Ev E1 w1 E2 w2) {ex : Exit} {a : Act} {w : World} (hq : lift E2 w2 Q ex a w) : lift E1 w1 Q ex a w :=
  let ⟨st', E', h1, h2, h3⟩ := hq; ⟨st', E', h.trans h1, h2, h3⟩

theorem aw_seq {x y : Code} (h : AW P x (AThen (AW P y Q) Q) st) : AW P (.seq x y) Q st := by
  intro E w a hs
  refine wp_seq (Code.wp_mono ?_ (h E w a hs))
  rintro e a' w' ⟨st', E', h1, h2, h3⟩
  cases e with
  | normal => exact Code.wp_mono (fun _ _ _ hq => lift_trans h1 hq) (h3 E' w' a' h2)
  | _ => exact ⟨st', E', h1, h2, h3⟩

theorem aw_cond {c : Operand} {x y : Code} {b : Bool} (hc : evC st c = .v (.bool b)) (ht : b = true → AW P x Q st) (hf : b = false → AW P y Q st) : AW P (.cond c x y) Q st := by
  intro E w a hs
  have hr := hs.ev c
  rw [hc] at hr
  cases he : a.eval c with
  | bool b' =>
    rw [he] at hr
    cases hr
    exact wp_cond_split he (fun e => ht e E w a hs) (fun e => hf e E w a hs)
  | _ => rw [he] at hr; cases hr

theorem aw_block {id : Nat} {c : Code} (h : AW P c (ABlock id Q) st) : AW P (.block id c) Q st := by
  intro E w a hs
  refine wp_block (Code.wp_mono ?_ (h E w a hs))
  rintro e a' w' ⟨st', E', h1, h2, h3⟩
  cases e with
  | exit id' =>
    simp only [ABlock] at h3
    simp only [Exit.inBlock]
    split at h3
    · rename_i e; rw [if_pos e]; exact ⟨st', E', h1, h2, h3⟩
    · rename_i e; rw [if_neg e]; exact ⟨st', E', h1, h2, h3⟩
  | _ => exact ⟨st', E', h1, h2, h3⟩

/-- What is known may be forgotten: another abstract state that the same frames and worlds meet. -/
def Le (st st' : St) : Prop := ∀ E w a, Sim E w st a → Sim E w st' a
theorem Le.refl (st : St) : Le st st := fun _ _ _ h => h

/-- A loop: what holds at the head of each round, with a number that goes down. -/
theorem aw_loop {c : Code} (I : Nat → St → Prop) (m : Nat) (h0 : I m st)
    (round : ∀ m st, I m st → AW P c (AThen (fun st' => ∃ m' st'', m' < m ∧ Le st' st'' ∧ I m' st'') Q) st) : AW P (.loop c) Q st := by
  intro E w a hs
  have key : ∀ m, ∀ E1 w1 (a1 : Act) st1, I m st1 → Sim E1 w1 st1 a1 → Ev E w E1 w1 → c.wp P (Exit.then (fun a' w' => ∃ m' E' st', m' < m ∧ I m' st' ∧ Sim E' w' st' a' ∧ Ev E w E' w') (lift E w Q)) a1 w1 := by
    intro m E1 w1 a1 st1 hI hs1 hev
    refine Code.wp_mono ?_ (round m st1 hI E1 w1 a1 hs1)
    rintro e a' w' ⟨st', E', h1, h2, h3⟩
    cases e with
    | normal =>
      obtain ⟨m', st'', h4, h5, h6⟩ := h3
      exact ⟨m', E', st'', h4, h6, h5 _ _ _ h2, hev.trans h1⟩
    | _ => exact ⟨st', E', hev.trans h1, h2, h3⟩
  intro b k cs
  have main : ∀ n, ∀ E1 w1 (a1 : Act) st1, I n st1 → Sim E1 w1 st1 a1 → Ev E w E1 w1 →
      ∃ e a' w', lift E w Q e a' w' ∧ Arrives P (lone (b.at a1 (.code c :: .inLoop c :: k)) cs w1) b k cs e a' w' := by
    intro n
    induction n using Nat.strongRecOn with
    | _ n ih =>
      intro E1 w1 a1 st1 hI hs1 hev
      obtain ⟨e, a2, w2, hq, harr⟩ := key n E1 w1 a1 st1 hI hs1 hev b (.inLoop c :: k) cs
      cases e with
      | normal =>
        obtain ⟨m', E2, st2, hlt, hI2, hs2, hev2⟩ := hq
        obtain ⟨e3, a3, w3, hq3, harr3⟩ := ih m' hlt E2 w2 a2 st2 hI2 hs2 hev2
        exact ⟨e3, a3, w3, hq3, .of_steps (Steps.trans harr (.one step_inLoop)) harr3⟩
      | exit id => exact ⟨_, a2, w2, hq, .pass (x := .inLoop c) rfl (fun _ _ => .inl (by simp)) harr⟩
      | goto l => exact ⟨_, a2, w2, hq, .pass (x := .inLoop c) rfl (fun _ _ => .inl (by simp)) harr⟩
      | ret => exact ⟨_, a2, w2, hq, .pass (x := .inLoop c) rfl (fun _ _ => .inl (by simp)) harr⟩
      | panic ch => exact ⟨_, a2, w2, hq, .pass (x := .inLoop c) rfl (fun _ _ => .inl (by simp)) harr⟩
      | outgrown => exact ⟨_, a2, w2, hq, .pass (x := .inLoop c) rfl (fun _ _ => .inl (by simp)) harr⟩
  obtain ⟨e, a', w', hq, harr⟩ := main m E w a st h0 hs (Ev.refl E w)
  exact ⟨e, a', w', hq, .of_steps (.one step_loop) harr⟩

/-- A cut: what is known is put in other words. -/
theorem aw_le {c : Code} {st' : St} (hl : Le st st') (h : AW P c Q st') : AW P c Q st := fun E w a hs => h E w a (hl E w a hs)
end

/-! ### Operations -/
/-- Whether a guarded operation is carried out. -/
def guardC (ops : Array Oper) (st : St) (o : Oper) : Option Bool :=
  match o.guard with
  | none => some true
  | some (j, want) => match (ops[j]?).bind (·.dst) with
    | some d => match st.at d with
      | .v (.bool b) => some (b == want)
      | .tup [] => some false
      | _ => none
    | none => some false

theorem guardC_spec {ops : Array Oper} {st : St} {o : Oper} {b : Bool} (h : guardC ops st o = some b) {E : Env} {w : World} {a : Act} (hs : Sim E w st a) : Region.wanted o (yielded ops a.tmps) = b := by
  unfold guardC at h
  unfold Region.wanted
  cases hg : o.guard with
  | none => rw [hg] at h; simpa using h
  | some p =>
    obtain ⟨j, want⟩ := p
    rw [hg] at h
    simp only at h ⊢
    unfold yielded
    cases hd : (ops[j]?).bind (·.dst) with
    | none => rw [hd] at h; simp at h; subst h; simp
    | some d =>
      rw [hd] at h
      simp only [Option.bind_some] at h ⊢
      have hr := hs.at d
      have hsz : d < a.tmps.size ∨ a.tmps.size ≤ d := Nat.lt_or_ge _ _
      rcases hsz with hsz | hsz
      · have hv : a.tmps[d]? = some (a.tmps.getD d undef) := by simp [hsz]
        rw [hv]
        generalize a.tmps.getD d undef = v at hr
        generalize st.at d = c at h hr
        cases c with
        | v x =>
          cases hr
          cases v with
          | bool bb => simp only [Option.some.injEq] at h; subst h; cases bb <;> cases want <;> rfl
          | _ => simp at h
        | tup cs =>
          cases cs with
          | nil =>
            cases hr
            simp only [Option.some.injEq] at h
            subst h
            cases want <;> rfl
          | cons _ _ => simp at h
        | _ => simp at h
      · have hb : Nat.blt d st.n = false := by
          rw [← hs.sz]
          cases hb : Nat.blt d a.tmps.size
          · rfl
          · rw [Nat.blt_eq] at hb; omega
        simp only [St.at, hb, cond_false] at h
        simp at h

/-- What yields a value in every world that keeps what is laid, and the objects of D; the world stands. -/
def Keeps (E : Env) (D : Nat → Prop) (w w' : World) : Prop :=
  (∀ b i, i < E.L b → w'.cell? ⟨b, i, none⟩ = w.cell? ⟨b, i, none⟩) ∧ ∀ n, D n → ∀ ver wv val b, E.T n = some (ver, wv, val) → blk val = some b → w'.heap[b]? = w.heap[b]?
theorem Keeps.refl (E : Env) (D : Nat → Prop) (w : World) : Keeps E D w w := ⟨fun _ _ _ => rfl, fun _ _ _ _ _ _ _ _ => rfl⟩

def SStep (P : Program) (D : Nat → Prop) (o : Oper) (st : St) (c : C) : Prop :=
  ∀ E w a, Sim E w st a → ∃ v, R E w c v ∧ ∀ w', Keeps E D w w' → (execOp a.eval o).run P w' = .ok (.value v) w'
/-- .. whatever world. -/
def NStep (P : Program) (o : Oper) (st : St) (c : C) : Prop :=
  ∀ E w a, Sim E w st a → ∃ v, R E w c v ∧ ∀ w', (execOp a.eval o).run P w' = .ok (.value v) w'
theorem NStep.s {P : Program} {D : Nat → Prop} {o : Oper} {st : St} {c : C} (h : NStep P o st c) : SStep P D o st c :=
  fun E w a hs => let ⟨v, h1, h2⟩ := h E w a hs; ⟨v, h1, fun w' _ => h2 w'⟩
/-- What changes the world. -/
def EStep (P : Program) (o : Oper) (st : St) (K : St → Prop) : Prop :=
  ∀ E w a, Sim E w st a → ∀ (Kr : Act → World → Prop) (Q : Exit → Act → World → Prop), (∀ a' w' st' E', Ev E w E' w' → Sim E' w' st' a' → K st' → Kr a' w') → o.wp P a w Kr Q

theorem EStep.mono {P : Program} {o : Oper} {st : St} {K K' : St → Prop} (h : EStep P o st K) (hk : ∀ st, K st → K' st) : EStep P o st K' :=
  fun E w a hs Kr Q hq => h E w a hs Kr Q fun a' w' st' E' h1 h2 h3 => hq a' w' st' E' h1 h2 (hk _ h3)

theorem SStep.e {P : Program} {D : Nat → Prop} {o : Oper} {st : St} {c : C} (h : SStep P D o st c) : EStep P o st (fun st' => st' = st.put o.dst c) := by
  intro E w a hs Kr Q hq
  obtain ⟨v, h1, h2⟩ := h E w a hs
  unfold Oper.wp
  rw [h2 w (Keeps.refl E D w)]
  exact hq _ _ _ _ (Ev.refl E w) (hs.put o.dst h1) rfl

/-- The operations of a region, one behind the other. -/
def AOps (P : Program) (ops : Array Oper) (K : St → Prop) (l : List Oper) (st : St) : Prop :=
  ∀ E w a, Sim E w st a → ∀ Q : Exit → Act → World → Prop, (∀ a' w' st' E', Ev E w E' w' → Sim E' w' st' a' → K st' → Q .normal a' w') → wpList P ops Q l a w

section
variable {P : Program} {ops : Array Oper} {K : St → Prop} {rest : List Oper} {o : Oper} {st : St}

theorem aops_nil (h : K st) : AOps P ops K [] st := fun E w a hs _ hq => wpList_nil (hq a w st E (Ev.refl E w) hs h)

theorem aops_e (hg : guardC ops st o = some true) (h : EStep P o st (AOps P ops K rest)) : AOps P ops K (o :: rest) st := by
  intro E w a hs Q hq
  refine wpList_step fun Kr hK => ?_
  rw [if_pos (guardC_spec hg hs)]
  refine h E w a hs Kr Q fun a' w' st' E' h1 h2 h3 => hK a' w' (h3 E' w' a' h2 Q fun a2 w2 st2 E2 q1 q2 q3 => hq a2 w2 st2 E2 (h1.trans q1) q2 q3)

theorem aops_s {c : C} (hg : guardC ops st o = some true) (hq : SStep P (fun _ => True) o st c) (h : AOps P ops K rest (st.put o.dst c)) : AOps P ops K (o :: rest) st :=
  aops_e hg (hq.e.mono fun _ e => e ▸ h)

theorem aops_n {c : C} (hg : guardC ops st o = some true) (hq : NStep P o st c) (h : AOps P ops K rest (st.put o.dst c)) : AOps P ops K (o :: rest) st := aops_s hg hq.s h

theorem aops_skip (hg : guardC ops st o = some false) (h : AOps P ops K rest (st.put o.dst (.tup []))) : AOps P ops K (o :: rest) st := by
  intro E w a hs Q hq
  refine wpList_step fun Kr hK => ?_
  rw [if_neg (by rw [guardC_spec hg hs]; simp)]
  exact hK _ _ (h E w _ (hs.put o.dst (R.undef E w)) Q hq)

theorem aw_region {id : Nat} {l : List Oper} {Q : Exit → St → Prop} (h : AOps P l.toArray (Q .normal) l st) : AW P (.region id l.toArray false) Q st := by
  intro E w a hs
  exact wp_region_lit (h E w a hs _ fun a' w' st' E' h1 h2 h3 => ⟨st', E', h1, h2, h3⟩)
end

/-! ### Calls -/
/-- What a call of a function does. -/
def PC (P : Program) (f : FuncId) (args : List C) (G : Nat → Option GObj) (nx : Nat) (K : C → (Nat → Option GObj) → Nat → Prop) : Prop :=
  ∀ E w vs, Rs E w args vs → SimG E w G nx → Calls P f vs.toArray w fun e w' => ∃ r v E' G' nx', e = .returned v ∧ Ev E w E' w' ∧ R E' w' r v ∧ SimG E' w' G' nx' ∧ K r G' nx'

/-- A call that leaves all as it was. -/
def Pure (P : Program) (f : FuncId) (args : List C) (r : C) : Prop := ∀ G nx, PC P f args G nx fun r' G' nx' => r' = r ∧ G' = G ∧ nx' = nx

theorem PC.mono {P : Program} {f : FuncId} {args : List C} {G : Nat → Option GObj} {nx : Nat} {K K' : C → (Nat → Option GObj) → Nat → Prop} (h : PC P f args G nx K) (hk : ∀ r G nx, K r G nx → K' r G nx) : PC P f args G nx K' :=
  fun E w vs h1 h2 => (h E w vs h1 h2).mono fun _ _ ⟨r, v, E', G', nx', e1, e2, e3, e4, e5⟩ => ⟨r, v, E', G', nx', e1, e2, e3, e4, hk _ _ _ e5⟩

/-- Names of G only, none new. -/
inductive C.low (m : Nat) : C → Prop
  | v {x : Value} : C.low m (.v x)
  | list {rows : List (List C)} {tok : Tok} : (∀ r ∈ rows, ∀ c ∈ r, C.low m c) → (∀ n, tok = .tip n → n < m) → C.low m (.list rows tok)
  | elem {cs : List C} : (∀ c ∈ cs, C.low m c) → C.low m (.elem cs)
  | box {n ver off : Nat} : n < m → C.low m (.box n ver off)
  | arr {n ver : Nat} : n < m → C.low m (.arr n ver)
  | fn {f : Fn} {caps : List C} : (∀ c ∈ caps, C.low m c) → C.low m (.fn f caps)
  | map {n : Nat} : n < m → C.low m (.map n)
  | agg {cs : List C} : (∀ c ∈ cs, C.low m c) → C.low m (.agg cs)
  | tup {cs : List C} : (∀ c ∈ cs, C.low m c) → C.low m (.tup cs)
  | any : C.low m .any

theorem R.low {E : Env} {w : World} {c : C} {v : Value} (h : R E w c v) : c.low E.nx := by
  induction h with
  | v _ => exact .v
  | list _ _ _ _ _ _ _ _ _ h8 ih =>
    refine .list (fun r hr c hc => ?_) fun n hn => (h8 n hn).1
    obtain ⟨j, hj⟩ := List.getElem?_of_mem (List.mem_flatten.2 ⟨r, hr, hc⟩)
    exact ih j c hj
  | elem _ _ _ _ ih => exact .elem fun c hc => let ⟨j, hj⟩ := List.getElem?_of_mem hc; ih j c hj
  | box h _ => exact .box h
  | arr h _ _ _ => exact .arr h
  | fn _ _ _ ih => exact .fn fun c hc => let ⟨j, hj⟩ := List.getElem?_of_mem hc; ih j c hj
  | map h _ => exact .map h
  | agg _ _ _ _ ih => exact .agg fun c hc => let ⟨j, hj⟩ := List.getElem?_of_mem hc; ih j c hj
  | tup _ _ _ ih => exact .tup fun c hc => let ⟨j, hj⟩ := List.getElem?_of_mem hc; ih j c hj
  | any => exact .any

theorem Rs.low {E : Env} {w : World} {cs : List C} {vs : List Value} (h : Rs E w cs vs) : ∀ c ∈ cs, C.low E.nx c := by
  intro c hc
  obtain ⟨j, hj⟩ := List.getElem?_of_mem hc
  have hlt : j < vs.length := by rw [h.1]; exact (List.getElem?_eq_some_iff.1 hj).1
  exact (h.2 j c _ hj (List.getElem?_eq_getElem hlt)).low

/-- Names from m on are dropped. -/
def Env.drop (E : Env) (m : Nat) : Env := { E with T := fun k => if k < m then E.T k else none, nx := m }

theorem R.drop {E : Env} {w : World} {m : Nat} {c : C} {v : Value} (h : R E w c v) (hl : c.low m) : R (E.drop m) w c v := by
  have hT : ∀ n t, (E.drop m).T n = some t → E.T n = some t := fun n t ht => by
    simp only [Env.drop] at ht
    split at ht
    · exact ht
    · cases ht
  induction h with
  | v hx => exact .v hx
  | list h1 h2 h3 h4 h5 h6 _ z1 z2 h8 ih =>
    cases hl with
    | list l1 l2 =>
    refine .list h1 h2 h3 h4 h5 h6 (fun j c hj => ih j c hj ?_) z1 z2 fun n hn => ⟨l2 n hn, fun ver wv val ht => (h8 n hn).2 _ _ _ (hT _ _ ht)⟩
    obtain ⟨r, hr, hc⟩ := List.mem_flatten.1 (List.mem_of_getElem? hj)
    exact l1 r hr c hc
  | elem h1 h2 h3 _ ih =>
    cases hl with
    | elem l1 => exact .elem h1 h2 h3 fun j c hj => ih j c hj (l1 c (List.mem_of_getElem? hj))
  | box _ h2 => cases hl with | box l => exact .box l fun ver' wv val ht => h2 _ _ _ (hT _ _ ht)
  | arr _ q1 q2 h2 => cases hl with | arr l => exact .arr l q1 q2 fun ver' wv val ht => h2 _ _ _ (hT _ _ ht)
  | fn h1 _ h3 ih => cases hl with | fn l => exact .fn h1 (fun j c hj => ih j c hj (l c (List.mem_of_getElem? hj))) h3
  | map _ h2 => cases hl with | map l => exact .map l fun ver wv val ht => h2 _ _ _ (hT _ _ ht)
  | agg h1 h2 _ h4 ih => cases hl with | agg l => exact .agg h1 h2 (fun j c hj => ih j c hj (l c (List.mem_of_getElem? hj))) h4
  | tup h1 _ h3 ih => cases hl with | tup l => exact .tup h1 (fun j c hj => ih j c hj (l c (List.mem_of_getElem? hj))) h3
  | any => exact .any

def GObj.low (m : Nat) : GObj → Prop
  | .box _ cs => ∀ c ∈ cs, C.low m c
  | .arr _ _ _ _ _ cs => ∀ c ∈ cs, C.low m c
  | .tip _ _ _ => True

theorem Rs.drop {E : Env} {w : World} {m : Nat} {cs : List C} {vs : List Value} (h : Rs E w cs vs) (hl : ∀ c ∈ cs, C.low m c) : Rs (E.drop m) w cs vs :=
  ⟨h.1, fun j c v h1 h2 => (h.2 j c v h1 h2).drop (hl c (List.mem_of_getElem? h1))⟩

theorem SimG.drop {E : Env} {w : World} {G : Nat → Option GObj} {nx m : Nat} (h : SimG E w G nx) (hm : ∀ n o, G n = some o → n < m ∧ o.low m) : SimG (E.drop m) w G m := by
  have hT : ∀ n t, (E.drop m).T n = some t → E.T n = some t := fun n t ht => by
    simp only [Env.drop] at ht
    split at ht
    · exact ht
    · cases ht
  have hT' : ∀ n, n < m → (E.drop m).T n = E.T n := fun n hn => by simp only [Env.drop]; rw [if_pos hn]
  refine ⟨rfl, fun n o ho => ?_, fun n t ht => ?_, fun n ver wv val b ht hb => h.tb n ver wv val b (hT _ _ ht) hb, fun n k t t' b h1 h2 hne hb => h.ap n k t t' b (hT _ _ h1) (hT _ _ h2) hne hb, h.fresh, h.base⟩
  · obtain ⟨hn, hlow⟩ := hm n o ho
    have := h.obj n o ho
    cases o with
    | box wv cs =>
      obtain ⟨b, us, tt, h1, h2, h3, h4, h5⟩ := this
      exact ⟨b, us, tt, (hT' n hn).trans h1, h2, h3, h4.drop hlow, h5⟩
    | arr ver wv tt sz len cs =>
      obtain ⟨val, us, h1, h2, h3, h4, h5, h6⟩ := this
      exact ⟨val, us, (hT' n hn).trans h1, h2, h3, h4.drop hlow, h5, h6⟩
    | tip len tt sz =>
      obtain ⟨val, us, h1, h2, h5, h6⟩ := this
      exact ⟨val, us, (hT' n hn).trans h1, h2, h5, h6⟩
  · simp only [Env.drop] at ht ⊢
    split at ht
    · assumption
    · cases ht

theorem Ev.drop {E E' : Env} {w w' : World} (h : Ev E w E' w') {m : Nat} (hm : E.nx ≤ m) : Ev E w (E'.drop m) w' := by
  have hT' : ∀ n, n < m → (E'.drop m).T n = E'.T n := fun n hn => by simp only [Env.drop]; rw [if_pos hn]
  exact ⟨h.below, h.B, h.L, h.cell, hm, fun n hn ver' wv' val' ht => h.T n hn ver' wv' val' (by rw [← hT' n (by omega)]; exact ht), fun n ver wv wv' val h1 h2 hn => h.wv n ver wv wv' val h1 (by rw [← hT' n (by omega)]; exact h2) hn⟩

/-- A function's body. -/
structure Body (P : Program) (f : FuncId) (fn : Func) (c : Code) : Prop where
  hf : P.funcs[f]? = some fn
  hb : fn.body = some c


/-- What a frame gives back. -/
def resC (P : Program) (fn : Func) (st : St) (r : C) : Prop := ∀ E w (a : Act), Sim E w st a → ∃ v, (results fn a.tmps).run P w = .ok v w ∧ R E w r v

theorem Sim.start {E : Env} {w : World} {args : List C} {vs : List Value} {G : Nat → Option GObj} {nx : Nat} (h : Rs E w args vs) (hg : SimG E w G nx) (n : Nat) :
    Sim E w { n := args.length + (n - args.length), l := args, r := [], G := G, nx := nx } { tmps := vs.toArray ++ Array.replicate (n - vs.toArray.size) undef, defers := [] } := by
  refine ⟨rfl, by simp [h.1], fun i v hv => ?_, hg⟩
  simp only [getA]
  rw [List.getD_eq_getElem?_getD]
  rw [Array.getElem?_append] at hv
  simp only [List.size_toArray, List.getElem?_toArray, h.1] at hv
  split at hv
  · rename_i hlt
    rw [List.getElem?_eq_getElem hlt]
    exact h.2 i _ v (List.getElem?_eq_getElem hlt) hv
  · rename_i hlt
    rw [List.getElem?_eq_none (by omega)]
    exact .any

/-- A function's contract out of its body's walk. -/
theorem pc_of_body {P : Program} {f : FuncId} {fn : Func} {c : Code} {args : List C} {G : Nat → Option GObj} {nx : Nat} {K : C → (Nat → Option GObj) → Nat → Prop} (hf : P.funcs[f]? = some fn) (hb : fn.body = some c)
    (h : AW P c (fun e st => match e with | .normal | .ret => ∃ r, resC P fn st r ∧ K r st.G st.nx | _ => False) { n := args.length + (fn.ntmps - args.length), l := args, r := [], G := G, nx := nx }) : PC P f args G nx K := by
  intro E w vs hr hg
  refine calls_of_wp hf hb (Code.wp_mono ?_ (h E w _ (Sim.start hr hg fn.ntmps)))
  rintro e a' w' ⟨st', E', h1, h2, h3⟩
  cases e with
  | normal =>
    obtain ⟨r, hres, hk⟩ := h3
    obtain ⟨v, hv, hr⟩ := hres E' w' a' h2
    exact ⟨h2.d, v, hv, r, v, E', st'.G, st'.nx, rfl, h1, hr, h2.g, hk⟩
  | ret =>
    obtain ⟨r, hres, hk⟩ := h3
    obtain ⟨v, hv, hr⟩ := hres E' w' a' h2
    exact ⟨h2.d, v, hv, r, v, E', st'.G, st'.nx, rfl, h1, hr, h2.g, hk⟩
  | _ => exact h3.elim

/-- The end of the body of a function that leaves all as it was. -/
def Ends (P : Program) (fn : Func) (r : C) (G : Nat → Option GObj) (nx : Nat) (e : Exit) (st : St) : Prop :=
  match e with
  | .normal | .ret => resC P fn st r ∧ nx ≤ st.nx ∧ ∀ n o, G n = some o → st.G n = some o
  | _ => False

theorem pure_of_body {P : Program} {f : FuncId} {fn : Func} {c : Code} {args : List C} {r : C} (hf : P.funcs[f]? = some fn) (hb : fn.body = some c) (hl : ∀ m, r.low m)
    (h : ∀ (G : Nat → Option GObj) (nx : Nat), AW P c (Ends P fn r G nx) { n := args.length + (fn.ntmps - args.length), l := args, r := [], G := G, nx := nx }) : Pure P f args r := by
  intro G nx E w vs hr hg
  have hT := hg.obj
  have key := pc_of_body (K := fun r' G' nx' => r' = r ∧ nx ≤ nx' ∧ ∀ n o, G n = some o → G' n = some o) hf hb (AW.mono (h G nx) fun e st hq => by
    cases e with
    | normal => exact ⟨r, hq.1, rfl, hq.2.1, hq.2.2⟩
    | ret => exact ⟨r, hq.1, rfl, hq.2.1, hq.2.2⟩
    | _ => exact hq)
  refine (key E w vs hr hg).mono ?_
  rintro e w' ⟨r', v, E', G', nx', e1, e2, e3, e4, rfl, e5, e6⟩
  have hnx := hg.nx
  refine ⟨r', v, E'.drop nx, G, nx, e1, e2.drop (by omega), e3.drop (hl nx), ?_, rfl, rfl, rfl⟩
  refine (e4.weak e6).drop fun n o ho => ⟨?_, ?_⟩
  · have := hg.obj n o ho
    have hlt : ∀ t, E.T n = some t → n < nx := fun t ht => by have := hg.lt n t ht; omega
    cases o with
    | box => obtain ⟨b, us, tt, h1, _⟩ := this; exact hlt _ h1
    | arr => obtain ⟨b, us, h1, _⟩ := this; exact hlt _ h1
    | tip => obtain ⟨b, us, h1, _⟩ := this; exact hlt _ h1
  · have := hg.obj n o ho
    cases o with
    | box => obtain ⟨b, us, tt, _, _, _, h4, _⟩ := this; exact hnx ▸ h4.low
    | arr => obtain ⟨b, us, _, _, _, h4, _⟩ := this; exact hnx ▸ h4.low
    | tip => trivial

end Go.AB
