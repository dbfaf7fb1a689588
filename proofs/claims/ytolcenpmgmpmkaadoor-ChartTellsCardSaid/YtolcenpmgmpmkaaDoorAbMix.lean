/-
  Regions that draw their order, where what acts may come up in several orders: the quiet part once, then each order by itself.
-/
import Derived.Test.YtolcenpmgmpmkaaDoorAbThirteen
namespace Go.AB
open Go Go.RowKit
variable {ρ : Option Nat}

def endOf : List (Nat × Option Nat) → Array Bool → Array Bool
  | [], l => l
  | p :: r, l => endOf r (l.setIfInBounds p.1 true)
def canChkT (ops : Array Oper) (late N : Nat → Bool) : List (Nat × Option Nat) → Array Bool → Bool
  | [], _ => true
  | (_, some _) :: _, _ => false
  | (i, none) :: rest, listed =>
    ((Region.ready .any ops listed).contains i && Region.free .any ops listed i && (ops[i]?).isSome &&
       (N i || ((List.range ops.size).all fun j => !late j || j == i || reach .any ops ops.size j i))) &&
    canChkT ops late N rest (listed.setIfInBounds i true)

section
variable {P : Program} {ops : Array Oper} {Q : Exit → Act → World → Prop} {S : World → Prop} {late N : Nat → Bool}
theorem wpCan_soundT (fin : Act → World → Prop) (fuel : Nat) (hs : Region.noSelect ops = true) (hQ : ∀ (o : Option Tmp) (v : Value) c a w, Q (.panic c) (a.put o v) w → Q (.panic c) a w) :
    ∀ (π : List (Nat × Option Nat)) (listed : Array Bool) (a : Act) (w : World), Closed .any ops listed → canChkT ops late N π listed = true → S w →
      (∀ a, fin a w → wpAnyS P .any ops Q S late fuel (endOf π listed) a w) → wpCan P ops (OnlyN fin) S late (fun _ => false) N π a w → wpAnyS P .any ops Q S late (planLen π + fuel) listed a w := by
  intro π
  induction π with
  | nil =>
    intro listed a w _ _ _ hf h
    have := hf a h
    simpa [planLen, endOf] using this
  | cons p rest ih =>
    obtain ⟨i, m⟩ := p
    intro listed a w hcl hc hSw hf h
    cases m with
    | some j => simp [canChkT] at hc
    | none =>
      simp only [canChkT, Bool.and_eq_true] at hc
      obtain ⟨⟨⟨⟨hready, hfree⟩, hsome⟩, hlate⟩, hc2⟩ := hc
      simp only [wpCan, Bool.false_eq_true, if_false] at h
      cases ho : ops[i]? with
      | none => rw [ho] at hsome; cases hsome
      | some o =>
        rw [ho] at h
        obtain ⟨v, hy, hrest⟩ := h
        have hi : i ∈ Region.ready .any ops listed := by simpa using hready
        have hrec := ih _ _ _ (hcl.set hi) hc2 hSw hf hrest
        have hp : planLen ((i, none) :: rest) + fuel = planLen rest + fuel + 1 := by simp only [planLen]; omega
        rw [hp]
        by_cases hN : N i = true
        · rw [if_pos hN] at hy
          exact wpAnyS_first (depth := ops.size) (fun _ => True) ho (Region.noSelect_spec hs) (fun c a w => hQ o.dst v c a w) (.inl fun _ => trivial) (planLen rest + fuel) listed a w hcl (Region.free_spec ho hfree) hi hy trivial hrec
        · rw [if_neg hN] at hy
          refine wpAnyS_first (depth := ops.size) S ho (Region.noSelect_spec hs) (fun c a w => hQ o.dst v c a w) (.inr ⟨rfl, ?_⟩) (planLen rest + fuel) listed a w hcl (Region.free_spec ho hfree) hi hy hSw hrec
          intro j oj hoj hlj hne
          have hlate' := (Bool.or_eq_true _ _ ▸ hlate).resolve_left hN
          rw [List.all_eq_true] at hlate'
          have := hlate' j (List.mem_range.2 (Array.getElem?_eq_some_iff.1 hoj).1)
          simp only [Bool.or_eq_true, Bool.not_eq_true', beq_iff_eq] at this
          rcases this with (h1 | h1) | h1
          · rw [hlj] at h1; cases h1
          · exact absurd h1 hne
          · exact h1
end

section
variable (P : Program) (ol : List Oper) (K : St → Prop) (late : Nat → Bool)
/-- What is left, in whatever order. -/
def AAny (fuel : Nat) (listed : List Bool) (st : St) : Prop :=
  ∀ (E0 : Env) (w0 : World) (Q : Act → World → Prop), (∀ a' w' st' E', Ev E0 w0 E' w' → Sim E' w' st' a' → K st' → Q a' w') →
    ∀ E1 w1 a, Ev E0 w0 E1 w1 → Sim E1 w1 st a → wpAnyS P .any ol.toArray (OnlyN Q) (Keeps E0 (· ∈ ([] : List Nat)) w0) late fuel listed.toArray a w1
/-- One operation, then the rest. -/
def AOne (fuel : Nat) (listed : List Bool) (i : Nat) (st : St) : Prop :=
  ∃ o, ol[i]? = some o ∧ ((guardC ol.toArray st o = some true ∧ EStep P o st (AAny P ol K late fuel (listed.set i true))) ∨ (guardC ol.toArray st o = some false ∧ AAny P ol K late fuel (listed.set i true) (st.put o.dst (.tup []))))
def AEach (fuel : Nat) (listed : List Bool) (st : St) : List Nat → Prop
  | [] => True
  | i :: is => AOne P ol K late fuel listed i st ∧ AEach fuel listed st is
end
section
variable {P : Program} {ol : List Oper} {K : St → Prop} {late : Nat → Bool} {fuel : Nat} {listed : List Bool} {st : St} {i : Nat} {is : List Nat} {o : Oper} {c : C}
theorem aeach_nil : AEach P ol K late fuel listed st [] := trivial
theorem aeach_cons (h : AOne P ol K late fuel listed i st) (k : AEach P ol K late fuel listed st is) : AEach P ol K late fuel listed st (i :: is) := ⟨h, k⟩
theorem aone_e (hol : ol[i]? = some o) (hg : guardC ol.toArray st o = some true) {listed' : List Bool} (hl : listed.set i true = listed') (h : EStep P o st (AAny P ol K late fuel listed')) : AOne P ol K late fuel listed i st :=
  ⟨o, hol, .inl ⟨hg, by rw [hl]; exact h⟩⟩
theorem aone_s (hol : ol[i]? = some o) (hg : guardC ol.toArray st o = some true) {listed' : List Bool} (hl : listed.set i true = listed') (hq : SStep P (fun _ => True) o st c) (h : AAny P ol K late fuel listed' (st.put o.dst c)) : AOne P ol K late fuel listed i st :=
  aone_e hol hg hl (hq.e.mono fun _ e => e ▸ h)
theorem aone_n (hol : ol[i]? = some o) (hg : guardC ol.toArray st o = some true) {listed' : List Bool} (hl : listed.set i true = listed') (hq : NStep P o st c) (h : AAny P ol K late fuel listed' (st.put o.dst c)) : AOne P ol K late fuel listed i st :=
  aone_s hol hg hl hq.s h
theorem aone_skip (hol : ol[i]? = some o) (hg : guardC ol.toArray st o = some false) {listed' : List Bool} (hl : listed.set i true = listed') (h : AAny P ol K late fuel listed' (st.put o.dst (.tup []))) : AOne P ol K late fuel listed i st :=
  ⟨o, hol, .inr ⟨hg, by rw [hl]; exact h⟩⟩
theorem aany_nil (hr : (Region.ready .any ol.toArray listed.toArray == []) = true) (h : K st) : AAny P ol K late fuel listed st := by
  intro E0 w0 Q hQ E1 w1 a hev hs
  have hr' : Region.ready .any ol.toArray listed.toArray = [] := by simpa using hr
  have hq := hQ a w1 st E1 hev hs h
  cases fuel with
  | zero => exact ⟨hr', hq⟩
  | succ n => exact ⟨fun _ => hq, fun i hi => by rw [hr'] at hi; cases hi⟩
theorem aany_step (is : List Nat) (hr : (Region.ready .any ol.toArray listed.toArray == is) = true) (hne : is ≠ []) (h : AEach P ol K late fuel listed st is) : AAny P ol K late (fuel + 1) listed st := by
  intro E0 w0 Q hQ E1 w1 a hev hs
  have hr' : Region.ready .any ol.toArray listed.toArray = is := by simpa using hr
  refine ⟨fun e => absurd (hr'.symm.trans e) hne, fun i hi => ?_⟩
  rw [hr'] at hi
  have hi' : AOne P ol K late fuel listed i st := by
    clear hr hr' hne
    induction is with
    | nil => cases hi
    | cons j is ih =>
      rcases List.mem_cons.1 hi with rfl | hi
      · exact h.1
      · exact ih h.2 hi
  obtain ⟨o, hol, hcase⟩ := hi'
  have ho : ol.toArray[i]? = some o := by simpa using hol
  have hset : listed.toArray.setIfInBounds i true = (listed.set i true).toArray := by simp
  refine wpOp_step ho fun Kr hK => ?_
  rcases hcase with ⟨hg, h1⟩ | ⟨hg, h1⟩
  · rw [if_pos (guardC_spec hg hs)]
    refine h1 E1 w1 a hs Kr _ fun a' w' st' E' q1 q2 q3 => ?_
    refine hK a' w' ⟨.inr fun hS => ⟨fun b j hj => (q1.cell b j (Nat.lt_of_lt_of_le hj (hev.L b))).trans (hS.1 b j hj), fun n hn => by cases hn⟩, ?_⟩
    rw [hset]
    exact q3 E0 w0 Q hQ E' w' a' (hev.trans q1) q2
  · rw [if_neg (by rw [guardC_spec hg hs]; simp)]
    refine hK _ _ ⟨.inr id, ?_⟩
    rw [hset]
    exact h1 E0 w0 Q hQ E1 w1 _ hev (hs.put o.dst (R.undef E1 w1))
theorem aany_split {d : Option Tmp} {b : Bool} (ht : b = true → AAny P ol K late fuel listed (st.put d (.v (.bool true)))) (hf : b = false → AAny P ol K late fuel listed (st.put d (.v (.bool false)))) : AAny P ol K late fuel listed (st.put d (.v (.bool b))) := by
  cases b
  · exact hf rfl
  · exact ht rfl

/-- A state read as another one. -/
def Tr (st st' : St) : Prop := ∀ E w a, Sim E w st a → ∃ E', Ev E w E' w ∧ Sim E' w st' a
theorem aany_of_tr {st' : St} (h : Tr st st') (k : AAny P ol K late fuel listed st') : AAny P ol K late fuel listed st := by
  intro E0 w0 Q hQ E1 w1 a hev hs
  obtain ⟨E', q1, q2⟩ := h E1 w1 a hs
  exact k E0 w0 Q hQ E' w1 a (hev.trans q1) q2
theorem tr_commit {i n wv : Nat} {cs : List C} (h0 : st.at i = .box n 0 0) (hG : st.G n = some (.box wv cs)) (hne : cs ≠ []) : Tr st { st with r := (i, .elem cs) :: st.r, G := delG st.G n } := by
  intro E w a hs
  obtain ⟨E', b, hE, hg', hTT, hT, hone, us, h1, h2⟩ := commit_core hs hG
  have hp := hs.at i
  rw [h0] at hp
  have hl : R E' w (.elem cs) (a.tmps.getD i undef) := by
    generalize hv : a.tmps.getD i undef = v at hp
    cases hp with
    | @box _ _ _ b' q1 q2 =>
      have hb : b' = b := by
        have := (q2 _ _ _ hT).2 rfl
        simp only [blk, Option.some.injEq] at this
        exact this.symm
      subst hb
      exact .elem hne hone (.inr ⟨b', 0, rfl, h1⟩) h2
  have hs2 := hs.evd hE hg'
  refine ⟨E', hE, ⟨hs2.d, hs.sz, fun j v hj => ?_, hg'⟩⟩
  simp only [getA]
  cases hb : Nat.beq i j
  · exact hs2.t j v hj
  · have hij := Nat.eq_of_beq_eq_true hb
    subst hij
    have hv : a.tmps.getD i undef = v := by rw [Array.getD_eq_getD_getElem?, hj]; rfl
    exact hv ▸ hl

theorem aw_drawT {id : Nat} {l : List Oper} {Q : Exit → St → Prop} (π : List (Nat × Option Nat)) (late N : Nat → Bool) (fuel : Nat) (listed : List Bool) (hm : P.follows .mixedOrders = true)
    (hchk : (noDefer l && (Region.noSelect l.toArray && (canChkT l.toArray late N π (Array.replicate l.toArray.size false) && ((endOf π (Array.replicate l.toArray.size false)).toList == listed && planLen π + fuel == l.toArray.size)))) = true)
    (h : ACan1 P l.toArray (AAny P l (Q .normal) late fuel listed) [] late (fun _ => false) N π st) : AW ρ P (.region id l.toArray true) Q st := by
  intro E w a hs
  simp only [Bool.and_eq_true, beq_iff_eq] at hchk
  obtain ⟨h0, h1, h2, h3, h4⟩ := hchk
  have hev : Ev E w E w.drew := Ev.same ((Below.refl _ _).drew) rfl
  have hend : endOf π (Array.replicate l.toArray.size false) = listed.toArray := by rw [← h3]
  have key : wpAnyS P .any l.toArray (OnlyN fun a' w' => lift E w Q .normal a' w') (Keeps E (· ∈ ([] : List Nat)) w.drew) late (planLen π + fuel) (Array.replicate l.toArray.size false) a w.drew := by
    refine wpCan_soundT (fun a' w' => wpAnyS P .any l.toArray (OnlyN fun a' w' => lift E w Q .normal a' w') (Keeps E (· ∈ ([] : List Nat)) w.drew) late fuel listed.toArray a' w') fuel h1 (fun _ _ _ _ _ h => h) π _ a w.drew ?_ h2 (Keeps.refl _ _ _) (fun a' h' => by rw [hend]; exact h') ?_
    · intro j o _ hj
      rw [Array.getD_eq_getD_getElem?, Array.getElem?_replicate] at hj
      split at hj <;> simp at hj
    · exact h E w.drew _ (fun a' w' st' E' q1 q2 q3 => q3 E w.drew _ (fun a2 w2 st2 E2 r1 r2 r3 => ⟨st2, E2, hev.trans r1, r2, r3⟩) E' w' a' q1 q2) a hs.drew
  rw [h4] at key
  refine cwp_mono (Q := OnlyN fun a' w' => lift E w Q .normal a' w') ?_ (cwp_any hm h0 (wpAny_of_S _ _ _ _ key))
  intro e a' w' hq
  cases e with
  | normal => exact hq
  | _ => exact hq.elim
end
/-! ### Quiet operations between what acts -/
def closedChk (ops : Array Oper) (listed : Array Bool) : Bool :=
  (List.range ops.size).all fun j => !listed.getD j false || match ops[j]? with
    | some o => o.after.toList.all fun e => !Region.binds .any e || listed.getD e.on false
    | none => true
theorem closedChk_spec {ops : Array Oper} {listed : Array Bool} (h : closedChk ops listed = true) : Closed .any ops listed := by
  intro j o ho hj e he hb
  have hlt := (Array.getElem?_eq_some_iff.1 ho).1
  have := List.all_eq_true.1 h j (List.mem_range.2 hlt)
  simp only [hj, Bool.not_true, Bool.false_or, ho, List.all_eq_true] at this
  have := this e (by simpa using he)
  simpa [hb] using this
section
variable {P : Program} {ops : Array Oper} {Q : Exit → Act → World → Prop}
theorem wpAnyS_rebase {S S2 : World → Prop} (hS : ∀ w, S2 w → S w) : ∀ (fuel : Nat) (listed : Array Bool) (a : Act) (w : World), S2 w → wpAnyS P .any ops Q S2 (fun _ => false) fuel listed a w → wpAnyS P .any ops Q S (fun _ => false) fuel listed a w
  | 0, _, _, _, _, h => h
  | fuel + 1, listed, a, w, hw, h => by
    refine ⟨h.1, fun i hi => wpOp_mono (fun a' w' h' => ?_) (h.2 i hi)⟩
    have h2 := (h'.1.resolve_left (by simp)) hw
    exact ⟨.inr fun _ => hS _ h2, wpAnyS_rebase hS fuel _ a' w' h2 h'.2⟩
end
theorem aany_quiet {P : Program} {ol : List Oper} {K : St → Prop} {total : Nat} {listed : List Bool} {st : St} (π : List (Nat × Option Nat)) (N : Nat → Bool) (fuel : Nat) (listed' : List Bool)
    (hchk : (closedChk ol.toArray listed.toArray && (Region.noSelect ol.toArray && (canChkT ol.toArray (fun _ => false) N π listed.toArray && ((endOf π listed.toArray).toList == listed' && total == planLen π + fuel)))) = true)
    (h : ACan1 P ol.toArray (AAny P ol K (fun _ => false) fuel listed') [] (fun _ => false) (fun _ => false) N π st) : AAny P ol K (fun _ => false) total listed st := by
  simp only [Bool.and_eq_true, beq_iff_eq] at hchk
  obtain ⟨h0, h1, h2, h3, h4⟩ := hchk
  subst h4
  intro E0 w0 Q hQ E1 w1 a hev hs
  have hend : endOf π listed.toArray = listed'.toArray := by rw [← h3]
  refine wpAnyS_rebase (S2 := Keeps E1 (· ∈ ([] : List Nat)) w1) (fun w' hk => ⟨fun b i hi => (hk.1 b i (Nat.lt_of_lt_of_le hi (hev.L b))).trans (hev.cell b i hi), fun n hn => by cases hn⟩) _ _ _ _ (Keeps.refl _ _ _) ?_
  refine wpCan_soundT (fun a' w' => wpAnyS P .any ol.toArray (OnlyN Q) (Keeps E1 (· ∈ ([] : List Nat)) w1) (fun _ => false) fuel listed'.toArray a' w') fuel h1 (fun _ _ _ _ _ h => h) π _ a w1 (closedChk_spec h0) h2 (Keeps.refl _ _ _) (fun a' h' => by rw [hend]; exact h') ?_
  exact h E1 w1 _ (fun a' w' st' E' q1 q2 q3 => q3 E1 w1 Q (fun a2 w2 st2 E2 r1 r2 r3 => hQ a2 w2 st2 E2 (hev.trans r1) r2 r3) E' w' a' q1 q2) a hs
end Go.AB
