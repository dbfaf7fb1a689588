/-
  Regions that draw their order, walked once: first what is quiet and waits for nothing that acts, then what acts, in the one order that it may have.
-/
import Derived.Test.YtolcenpmgmpmkaaDoorAbFour
import Derived.Test.YtolcenpmgmpmkaaDoorAbCan
namespace Go.AB
open Go Go.RowKit
variable {ρ : Option Nat}

theorem Sim.drew {E : Env} {w : World} {st : St} {a : Act} (h : Sim E w st a) : Sim E w.drew st a :=
  have hb : Below E.B w w.drew := (Below.refl _ _).drew
  ⟨h.d.ev (Ev.same hb rfl), h.sz, fun i v hv => (h.t i v hv).ev (Ev.same hb rfl), h.g.same hb rfl⟩

def OnlyN (Q : Act → World → Prop) : Exit → Act → World → Prop
  | .normal, a, w => Q a w
  | _, _, _ => False

section
variable (P : Program) (ops : Array Oper) (K : St → Prop) (D : List Nat) (late Ef N : Nat → Bool)

/-- The quiet part. -/
def ACan1 (π : List (Nat × Option Nat)) (st : St) : Prop :=
  ∀ (E0 : Env) (w0 : World) (Q : Act → World → Prop), (∀ a' w' st' E', Ev E0 w0 E' w' → Sim E' w' st' a' → K st' → Q a' w') → ∀ a, Sim E0 w0 st a → wpCan P ops (OnlyN Q) (Keeps E0 (· ∈ D) w0) late Ef N π a w0
/-- .. and what acts; b: something late has come up. -/
def ACan2 (b : Bool) (π : List (Nat × Option Nat)) (st : St) : Prop :=
  ∀ (E0 : Env) (w0 : World) (Q : Act → World → Prop), (∀ a' w' st' E', Ev E0 w0 E' w' → Sim E' w' st' a' → K st' → Q a' w') → ∀ E1 w1 a, Ev E0 w0 E1 w1 → Sim E1 w1 st a → (b = false → ∀ n ∈ D, E1.T n = E0.T n) → wpCan P ops (OnlyN Q) (Keeps E0 (· ∈ D) w0) late Ef N π a w1
end

def stamp : GObj → Nat × Nat
  | .box wv _ => (0, wv)
  | .arr ver wv _ _ _ _ => (ver, wv)
  | .tip len _ _ => (len, 0)
  | .fact _ _ => (0, 0)
  | .map wv _ _ => (0, wv)
  | .raw wv _ => (0, wv)

theorem ObjOk.stamp {E : Env} {w : World} {n : Nat} {o : GObj} (h : ObjOk E w n o) : ∃ val, E.T n = some ((stamp o).1, (stamp o).2, val) := by
  cases o with
  | box => obtain ⟨b, us, tt, h1, _⟩ := h; exact ⟨_, h1⟩
  | arr => obtain ⟨b, us, h1, _⟩ := h; exact ⟨_, h1⟩
  | tip => obtain ⟨b, us, h1, _⟩ := h; exact ⟨_, h1⟩
  | fact => exact ⟨_, h.1⟩
  | raw => obtain ⟨b, h1, _⟩ := h; exact ⟨_, h1⟩
  | map => obtain ⟨r, es, cl, h1, _⟩ := h; exact ⟨_, h1⟩

/-- The objects of D are as they were. -/
def SameD (D : List Nat) (st st' : St) : Prop := ∀ n ∈ D, ∃ o o', st.G n = some o ∧ st'.G n = some o' ∧ stamp o = stamp o'

theorem keeps_step {D : List Nat} {E1 E2 : Env} {w1 w2 : World} {st st' : St} {a a' : Act} (h1 : Sim E1 w1 st a) (h2 : Ev E1 w1 E2 w2) (h3 : Sim E2 w2 st' a') (hD : SameD D st st') :
    ∀ n ∈ D, E2.T n = E1.T n ∧ ∀ ver wv val b, E1.T n = some (ver, wv, val) → blk val = some b → w2.heap[b]? = w1.heap[b]? := by
  intro n hn
  obtain ⟨o, o', e1, e2, e3⟩ := hD n hn
  obtain ⟨val1, t1⟩ := (h1.g.obj n o e1).stamp
  obtain ⟨val2, t2⟩ := (h3.g.obj n o' e2).stamp
  have hn1 := h1.g.lt n _ t1
  obtain ⟨v1, wv1, x1, q1, q2, q3⟩ := h2.T n hn1 _ _ _ t2
  rw [t1] at q1
  simp only [Option.some.injEq, Prod.mk.injEq] at q1
  obtain ⟨rfl, rfl, rfl⟩ := q1
  obtain ⟨q4, q5⟩ := q3 (by rw [e3])
  subst q4
  refine ⟨by rw [t2, t1, e3], fun ver wv val b ht hb => ?_⟩
  rw [t1] at ht
  simp only [Option.some.injEq, Prod.mk.injEq] at ht
  obtain ⟨rfl, rfl, rfl⟩ := ht
  exact q5 (by rw [e3]) b hb

section
variable {P : Program} {ol : List Oper} {K : St → Prop} {D : List Nat} {late Ef N : Nat → Bool} {i : Nat} {π : List (Nat × Option Nat)} {o : Oper} {st : St} {c : C} {b : Bool}

theorem acan1_n (hE : Ef i = false) (hN : N i = true) (hol : ol[i]? = some o) (hg : guardC ol.toArray st o = some true) (hq : NStep P o st c) (h : ACan1 P ol.toArray K D late Ef N π (st.put o.dst c)) : ACan1 P ol.toArray K D late Ef N ((i, none) :: π) st := by
  have ho : ol.toArray[i]? = some o := by simpa using hol
  intro E0 w0 Q hQ a hs
  obtain ⟨v, h1, h2⟩ := hq E0 w0 a hs
  exact wpCan_pure (v := v) hE hN ho (guardC_spec hg hs) h2 (h E0 w0 Q hQ _ (hs.put o.dst h1))
theorem acan1_s (hE : Ef i = false) (hN : N i = false) (hol : ol[i]? = some o) (hg : guardC ol.toArray st o = some true) (hq : SStep P (· ∈ D) o st c) (h : ACan1 P ol.toArray K D late Ef N π (st.put o.dst c)) : ACan1 P ol.toArray K D late Ef N ((i, none) :: π) st := by
  have ho : ol.toArray[i]? = some o := by simpa using hol
  intro E0 w0 Q hQ a hs
  obtain ⟨v, h1, h2⟩ := hq E0 w0 a hs
  exact wpCan_quiet (v := v) hE hN ho (guardC_spec hg hs) h2 (h E0 w0 Q hQ _ (hs.put o.dst h1))
theorem acan1_skip (hE : Ef i = false) (hol : ol[i]? = some o) (hg : guardC ol.toArray st o = some false) (h : ACan1 P ol.toArray K D late Ef N π (st.put o.dst (.tup []))) : ACan1 P ol.toArray K D late Ef N ((i, none) :: π) st := by
  have ho : ol.toArray[i]? = some o := by simpa using hol
  intro E0 w0 Q hQ a hs
  exact wpCan_skip hE ho (guardC_spec hg hs) (h E0 w0 Q hQ _ (hs.put o.dst (R.undef E0 w0)))
theorem acan1_two (h : ACan2 P ol.toArray K D late Ef N false π st) : ACan1 P ol.toArray K D late Ef N π st :=
  fun E0 w0 Q hQ a hs => h E0 w0 Q hQ E0 w0 a (Ev.refl E0 w0) hs fun _ _ _ => rfl
theorem acan1_nil (h : K st) : ACan1 P ol.toArray K D late Ef N [] st := fun E0 w0 _ hQ a hs => wpCan_nil (hQ a w0 st E0 (Ev.refl E0 w0) hs h)
theorem acan2_nil (h : K st) : ACan2 P ol.toArray K D late Ef N b [] st := fun _ _ _ hQ E1 w1 a hev hs _ => wpCan_nil (hQ a w1 st E1 hev hs h)
theorem acan2_n (hE : Ef i = false) (hN : N i = true) (hol : ol[i]? = some o) (hg : guardC ol.toArray st o = some true) (hq : NStep P o st c) (h : ACan2 P ol.toArray K D late Ef N b π (st.put o.dst c)) : ACan2 P ol.toArray K D late Ef N b ((i, none) :: π) st := by
  have ho : ol.toArray[i]? = some o := by simpa using hol
  intro E0 w0 Q hQ E1 w1 a hev hs hb
  obtain ⟨v, h1, h2⟩ := hq E1 w1 a hs
  exact wpCan_pure (v := v) hE hN ho (guardC_spec hg hs) h2 (h E0 w0 Q hQ E1 w1 _ hev (hs.put o.dst h1) hb)
theorem acan2_skip (hE : Ef i = false) (hol : ol[i]? = some o) (hg : guardC ol.toArray st o = some false) (h : ACan2 P ol.toArray K D late Ef N b π (st.put o.dst (.tup []))) : ACan2 P ol.toArray K D late Ef N b ((i, none) :: π) st := by
  have ho : ol.toArray[i]? = some o := by simpa using hol
  intro E0 w0 Q hQ E1 w1 a hev hs hb
  exact wpCan_skip hE ho (guardC_spec hg hs) (h E0 w0 Q hQ E1 w1 _ hev (hs.put o.dst (R.undef E1 w1)) hb)
theorem acan2_skipE (hE : Ef i = true) (hol : ol[i]? = some o) (hg : guardC ol.toArray st o = some false) (h : ACan2 P ol.toArray K D late Ef N b π (st.put o.dst (.tup []))) : ACan2 P ol.toArray K D late Ef N b ((i, none) :: π) st := by
  have ho : ol.toArray[i]? = some o := by simpa using hol
  intro E0 w0 Q hQ E1 w1 a hev hs hb
  refine wpCan_eff hE ho fun Kr hK => ?_
  rw [if_neg (by rw [guardC_spec hg hs]; simp)]
  exact hK _ _ (.inr id) (h E0 w0 Q hQ E1 w1 _ hev (hs.put o.dst (R.undef E1 w1)) hb)
/-- What acts, and leaves the objects of D. -/
theorem acan2_e (hE : Ef i = true) (hol : ol[i]? = some o) (hg : guardC ol.toArray st o = some true) (h : EStep P o st fun st' => SameD D st st' ∧ ACan2 P ol.toArray K D late Ef N false π st') : ACan2 P ol.toArray K D late Ef N false ((i, none) :: π) st := by
  have ho : ol.toArray[i]? = some o := by simpa using hol
  intro E0 w0 Q hQ E1 w1 a hev hs hb
  refine wpCan_eff hE ho fun Kr hK => ?_
  rw [if_pos (guardC_spec hg hs)]
  refine h E1 w1 a hs Kr _ fun a' w' st' E' h1 h2 h3 => ?_
  have hk := keeps_step hs h1 h2 h3.1
  refine hK a' w' (.inr fun hS => ⟨fun b i hi => (h1.cell b i (Nat.lt_of_lt_of_le hi (hev.L b))).trans (hS.1 b i hi), fun n hn ver wv val b ht hb' => ?_⟩) (h3.2 E0 w0 Q hQ E' w' a' (hev.trans h1) h2 fun e n hn => (hk n hn).1.trans (hb e n hn))
  have := hb rfl n hn
  exact ((hk n hn).2 ver wv val b (this.trans ht) hb').trans (hS.2 n hn ver wv val b ht hb')
/-- What acts when all that reads has come up. -/
theorem acan2_late (hE : Ef i = true) (hL : late i = true) (hol : ol[i]? = some o) (hg : guardC ol.toArray st o = some true) (h : EStep P o st (ACan2 P ol.toArray K D late Ef N true π)) : ACan2 P ol.toArray K D late Ef N b ((i, none) :: π) st := by
  have ho : ol.toArray[i]? = some o := by simpa using hol
  intro E0 w0 Q hQ E1 w1 a hev hs hb
  refine wpCan_eff hE ho fun Kr hK => ?_
  rw [if_pos (guardC_spec hg hs)]
  refine h E1 w1 a hs Kr _ fun a' w' st' E' h1 h2 h3 => ?_
  exact hK a' w' (.inl hL) (h3 E0 w0 Q hQ E' w' a' (hev.trans h1) h2 fun e => by cases e)

def noDefer (l : List Oper) : Bool := l.all fun o => !isDefer o.op
theorem noDefer_spec {l : List Oper} (h : noDefer l = true) {i : Nat} {o : Oper} (ho : l.toArray[i]? = some o) : ∀ c, o.op ≠ .defer c := fun c e => by
  have ho' : l[i]? = some o := by simpa using ho
  have := List.all_eq_true.1 h o (List.mem_of_getElem? ho')
  simp [e, isDefer] at this
theorem wpAny_fen {l : List Oper} {q : Act → World → Prop} (hd : noDefer l = true) : ∀ (fuel : Nat) (listed : Array Bool) (a : Act) (w : World), wpAny P .any l.toArray (OnlyN q) fuel listed a w → wpAnyIn (fen ρ) 1 P .any l.toArray (OnlyN q) fuel listed a w
  | 0, _, _, _, h => h
  | fuel + 1, listed, a, w, h => by
    refine ⟨h.1, fun i hi => ?_⟩
    have h2 := h.2 i hi
    unfold wpOp at h2
    unfold wpOpIn
    cases ho : l.toArray[i]? with
    | none => rw [ho] at h2; exact wpAny_fen hd fuel _ _ _ h2
    | some o =>
      rw [ho] at h2
      dsimp only at h2 ⊢
      split
      · rename_i hw
        rw [if_pos hw] at h2
        rcases h2 with h2 | ⟨_, a0, w0, h2⟩
        · exact Oper.wpIn_mono (fun a w => wpAny_fen hd fuel _ a w) (oper_fen (noDefer_spec hd ho) h2)
        · exact h2.elim
      · rename_i hw
        rw [if_neg hw] at h2
        exact ⟨fun _ _ => trivial, wpAny_fen hd fuel _ _ _ h2⟩
theorem cwp_any {id : Nat} {l : List Oper} {q : Act → World → Prop} {a : Act} {w : World} (hm : P.follows .mixedOrders = true) (hd : noDefer l = true) (h : wpAny P .any l.toArray (OnlyN q) l.toArray.size (Array.replicate l.toArray.size false) a w.drew) : cwp ρ P (.region id l.toArray true) (OnlyN q) a w :=
  wpIn_region_any hm (wpAny_fen hd _ _ _ _ h)
theorem aw_draw {id : Nat} {l : List Oper} {Q : Exit → St → Prop} (π : List (Nat × Option Nat)) (late Ef N : Nat → Bool) (D : List Nat) (hm : P.follows .mixedOrders = true)
    (hchk : (noDefer l && (Region.noSelect l.toArray && (canChk l.toArray late Ef N π (Array.replicate l.toArray.size false) && (lateChk late Ef N π && planLen π == l.toArray.size)))) = true)
    (h : ACan1 P l.toArray (Q .normal) D late Ef N π st) : AW ρ P (.region id l.toArray true) Q st := by
  intro E w a hs
  rw [Bool.and_eq_true] at hchk
  have hev : Ev E w E w.drew := Ev.same ((Below.refl _ _).drew) rfl
  refine cwp_mono (Q := OnlyN fun a' w' => lift E w Q .normal a' w') ?_ (cwp_any hm hchk.1 (wpAny_can (Keeps E (· ∈ D) w.drew) π Ef N late (fun _ _ _ _ _ h => h) hchk.2 (Keeps.refl _ _ _) (h E w.drew _ (fun a' w' st' E' h1 h2 h3 => ⟨st', E', hev.trans h1, h2, h3⟩) a hs.drew)))
  intro e a' w' hq
  cases e with
  | normal => exact hq
  | _ => exact hq.elim
end
end Go.AB
