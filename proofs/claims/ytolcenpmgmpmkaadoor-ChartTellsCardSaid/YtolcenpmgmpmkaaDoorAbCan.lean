/-
  A region that draws its order, walked once in a given order: what only reads is taken as early as it may, under one condition on the worlds; what writes, makes or calls is taken where nothing else may come up.
-/
import Derived.WalkKit
import Derived.OrdersHeld
namespace Go.AB
open Go Go.RowKit

section
variable {P : Program} {ops : Array Oper} {Q : Exit → Act → World → Prop} {md : Region.Mode} {S : World → Prop} {late : Nat → Bool}

/-- Whatever order is picked from here on; behind each operation that is carried out S holds, but behind the late ones. -/
def wpAnyS (P : Program) (md : Region.Mode) (ops : Array Oper) (Q : Exit → Act → World → Prop) (S : World → Prop) (late : Nat → Bool) : Nat → Array Bool → Act → World → Prop
  | 0, listed, a, w => Region.ready md ops listed = [] ∧ Q .normal a w
  | fuel + 1, listed, a, w =>
    (Region.ready md ops listed = [] → Q .normal a w) ∧
    ∀ i ∈ Region.ready md ops listed, wpOp P ops Q i (fun a' w' => (late i = true ∨ (S w → S w')) ∧ wpAnyS P md ops Q S late fuel (listed.setIfInBounds i true) a' w') a w

theorem wpAny_of_S : ∀ (fuel : Nat) (listed : Array Bool) (a : Act) (w : World), wpAnyS P md ops Q S late fuel listed a w → wpAny P md ops Q fuel listed a w
  | 0, _, _, _, h => h
  | fuel + 1, _, _, _, h => ⟨h.1, fun i hi => wpOp_mono (fun a' w' h' => wpAny_of_S fuel _ a' w' h'.2) (h.2 i hi)⟩

/-- j waits for i, at once or by others. -/
def reach (md : Region.Mode) (ops : Array Oper) : Nat → Nat → Nat → Bool
  | 0, _, _ => false
  | n + 1, j, i => match ops[j]? with
    | none => false
    | some o => o.after.any fun e => Region.binds md e && (e.on == i || reach md ops n e.on i)

/-- What is listed has all listed that it waits for. -/
def Closed (md : Region.Mode) (ops : Array Oper) (listed : Array Bool) : Prop :=
  ∀ j o, ops[j]? = some o → listed.getD j false = true → ∀ e ∈ o.after, Region.binds md e = true → listed.getD e.on false = true

theorem reach_listed {listed : Array Bool} (hc : Closed md ops listed) : ∀ (n j i : Nat) (o : Oper), ops[j]? = some o →
    (∀ e ∈ o.after, Region.binds md e = true → listed.getD e.on false = true) → reach md ops n j i = true → listed.getD i false = true := by
  intro n
  induction n with
  | zero => intro j i o _ _ h; simp [reach] at h
  | succ n ih =>
    intro j i o ho hall h
    simp only [reach, ho] at h
    obtain ⟨e, he, h2⟩ := Array.any_eq_true'.1 h
    simp only [Bool.and_eq_true, Bool.or_eq_true, beq_iff_eq] at h2
    obtain ⟨hb, h3⟩ := h2
    have hl := hall e he hb
    rcases h3 with rfl | h3
    · exact hl
    · cases ho' : ops[e.on]? with
      | none => cases n <;> simp [reach, ho'] at h3
      | some o' => exact ih e.on i o' ho' (hc e.on o' ho' hl) h3

theorem Closed.set {listed : Array Bool} (hc : Closed md ops listed) {i : Nat} (hi : i ∈ Region.ready md ops listed) : Closed md ops (listed.setIfInBounds i true) := by
  intro j o ho hj e he hb
  by_cases hij : i = j
  · subst hij
    obtain ⟨_, o', ho', hall⟩ := mem_ready.1 hi
    rw [ho] at ho'
    cases ho'
    exact getD_set_true (hall e he hb)
  · rw [getD_set_ne false hij] at hj
    exact getD_set_true (hc j o ho hj e he hb)

/-- An operation that may come up now may be taken first, if it yields its value in every world that meets T; T is S, S holds and every late operation waits for it; or T is nothing. -/
theorem wpAnyS_first {i : Nat} {oi : Oper} {v : Value} {depth : Nat} (T : World → Prop) (hi : ops[i]? = some oi) (hsel : ∀ (j : Nat) (o : Oper) cs b, ops[j]? = some o → o.op ≠ .select cs b)
    (hQ : ∀ c a w, Q (.panic c) (a.put oi.dst v) w → Q (.panic c) a w)
    (hT : (∀ w, T w) ∨ (T = S ∧ ∀ j oj, ops[j]? = some oj → late j = true → j ≠ i → reach md ops depth j i = true)) :
    ∀ (fuel : Nat) (listed : Array Bool) (a : Act) (w : World), Closed md ops listed →
      (∀ j oj, ops[j]? = some oj → j ≠ i → listed.getD j true = false → (∀ e ∈ oj.after, Region.binds md e = true → e.on ≠ i) → oi.apart ops oj = true) →
      i ∈ Region.ready md ops listed → YieldsIf P ops T oi v a → T w →
      wpAnyS P md ops Q S late fuel (listed.setIfInBounds i true) (a.put oi.dst v) w → wpAnyS P md ops Q S late (fuel + 1) listed a w := by
  intro fuel
  induction fuel with
  | zero =>
    intro listed a w _ _ hr hy hS H
    refine ⟨fun h => (by rw [h] at hr; cases hr), fun j hj => ?_⟩
    by_cases hji : j = i
    · subst hji; exact hy.wpOp hi hS ⟨.inr id, H⟩
    · have := ready_mono hj hji
      rw [H.1] at this
      cases this
  | succ fuel ih =>
    intro listed a w hc hfree hr hy hS H
    refine ⟨fun h => (by rw [h] at hr; cases hr), fun j hj => ?_⟩
    by_cases hji : j = i
    · subst hji; exact hy.wpOp hi hS ⟨.inr id, H⟩
    · have h1 := H.2 j (ready_mono hj hji)
      obtain ⟨hjun, oj, hoj, hall⟩ := mem_ready.1 hj
      have hiun : listed.getD i false = false := by
        have h0 := (mem_ready.1 hr).1
        rcases Nat.lt_or_ge i listed.size with h' | h'
        · simp [h'] at h0 ⊢; exact h0
        · simp [Array.getElem?_eq_none h']
      have hnot : ∀ e ∈ oj.after, Region.binds md e = true → e.on ≠ i := fun e he hb heq => by
        have h1 := hall e he hb
        rw [heq, hiun] at h1
        cases h1
      have h2 := wpOp_putIf hoj (hfree j oj hoj hji hjun hnot) (fun cs b => hsel i oi cs b hi) (fun cs b => hsel j oj cs b hoj) hQ hy h1
      have hfree' : ∀ k ok, ops[k]? = some ok → k ≠ i → (listed.setIfInBounds j true).getD k true = false →
          (∀ e ∈ ok.after, Region.binds md e = true → e.on ≠ i) → oi.apart ops ok = true := fun k ok hk hki hun hno => by
        refine hfree k ok hk hki ?_ hno
        by_cases hjk : j = k
        · subst hjk; exact hjun
        · rw [getD_set_ne true hjk] at hun; exact hun
      refine wpOp_mono (fun a' w' h3 => ?_) h2
      obtain ⟨hy', hS', H'⟩ := h3
      have hT' : T w' := by
        rcases hT with hT | ⟨rfl, hlate⟩
        · exact hT w'
        · refine (hS'.resolve_left ?_) hS
          intro hl
          have := reach_listed hc depth j i oj hoj hall (hlate j oj hoj hl hji)
          rw [hiun] at this
          cases this
      refine ⟨hS', ih (listed.setIfInBounds j true) a' w' (hc.set hj) hfree' (ready_mono hr (Ne.symm hji)) hy' hT' ?_⟩
      rw [Array.setIfInBounds_comm _ _ hji]
      exact H'

/-- The walk in the order of a list: E are those that are carried out, N those that need no world; two that act may come up together. -/
def wpCan (P : Program) (ops : Array Oper) (Q : Exit → Act → World → Prop) (S : World → Prop) (late E N : Nat → Bool) : List (Nat × Option Nat) → Act → World → Prop
  | [], a, w => Q .normal a w
  | (i, some j) :: rest, a, w =>
    wpOp P ops Q i (fun a' w' => (S w → S w') ∧ wpOp P ops Q j (fun a2 w2 => (S w' → S w2) ∧ wpCan P ops Q S late E N rest a2 w2) a' w') a w ∧
    wpOp P ops Q j (fun a' w' => (S w → S w') ∧ wpOp P ops Q i (fun a2 w2 => (S w' → S w2) ∧ wpCan P ops Q S late E N rest a2 w2) a' w') a w
  | (i, none) :: rest, a, w =>
    if E i = true then wpOp P ops Q i (fun a' w' => (late i = true ∨ (S w → S w')) ∧ wpCan P ops Q S late E N rest a' w') a w
    else match ops[i]? with
      | none => False
      | some o => ∃ v, YieldsIf P ops (if N i = true then fun _ => True else S) o v a ∧ wpCan P ops Q S late E N rest (a.put o.dst v) w

/-- The order fits the region. -/
def canChk (ops : Array Oper) (late E N : Nat → Bool) : List (Nat × Option Nat) → Array Bool → Bool
  | [], listed => Region.ready .any ops listed == []
  | (i, some j) :: rest, listed =>
    E i && E j && i != j && Region.ready .any ops listed == [i, j] && Region.ready .any ops (listed.setIfInBounds i true) == [j] && Region.ready .any ops (listed.setIfInBounds j true) == [i] &&
    canChk ops late E N rest ((listed.setIfInBounds i true).setIfInBounds j true)
  | (i, none) :: rest, listed =>
    (if E i = true then Region.ready .any ops listed == [i]
     else (Region.ready .any ops listed).contains i && Region.free .any ops listed i && (ops[i]?).isSome &&
       (N i || ((List.range ops.size).all fun j => !late j || j == i || reach .any ops ops.size j i))) &&
    canChk ops late E N rest (listed.setIfInBounds i true)

/-- How many operations. -/
def planLen : List (Nat × Option Nat) → Nat
  | [] => 0
  | (_, some _) :: r => planLen r + 2
  | (_, none) :: r => planLen r + 1

/-- Behind a late operation nothing is taken for its reading. -/
def lateChk (late E N : Nat → Bool) : List (Nat × Option Nat) → Bool
  | [] => true
  | (i, m) :: rest => (!late i || rest.all fun j => E j.1 || N j.1) && lateChk late E N rest

theorem wpCan_sound {E N : Nat → Bool} (hs : Region.noSelect ops = true) (hQ : ∀ (o : Option Tmp) (v : Value) c a w, Q (.panic c) (a.put o v) w → Q (.panic c) a w) :
    ∀ (π : List (Nat × Option Nat)) (listed : Array Bool) (a : Act) (w : World), Closed .any ops listed → canChk ops late E N π listed = true → lateChk late E N π = true →
      ((π.all fun j => E j.1 || N j.1) = true ∨ S w) → wpCan P ops Q S late E N π a w → wpAnyS P .any ops Q S late (planLen π) listed a w := by
  intro π
  induction π with
  | nil =>
    intro listed a w _ hc _ _ h
    exact ⟨by simpa [canChk] using hc, h⟩
  | cons p rest ih =>
    obtain ⟨i, m⟩ := p
    intro listed a w hcl hc hl hSw h
    simp only [lateChk, Bool.and_eq_true, Bool.or_eq_true, Bool.not_eq_true'] at hl
    obtain ⟨hl1, hl2⟩ := hl
    cases m with
    | some j =>
      simp only [canChk, Bool.and_eq_true, beq_iff_eq, bne_iff_ne, ne_eq] at hc
      obtain ⟨⟨⟨⟨⟨⟨hEi, hEj⟩, hij⟩, hr⟩, hri⟩, hrj⟩, hc2⟩ := hc
      simp only [wpCan] at h
      obtain ⟨h1, h2⟩ := h
      have hclij := (hcl.set (i := i) (by rw [hr]; simp)).set (i := j) (by rw [hri]; simp)
      have hcomm : (listed.setIfInBounds j true).setIfInBounds i true = (listed.setIfInBounds i true).setIfInBounds j true := Array.setIfInBounds_comm _ _ (fun e => hij e.symm)
      have fin : ∀ a2 w1 w2, (S w → S w1) → (S w1 → S w2) → wpCan P ops Q S late E N rest a2 w2 → wpAnyS P .any ops Q S late (planLen rest) ((listed.setIfInBounds i true).setIfInBounds j true) a2 w2 := fun a2 w1 w2 q1 q2 q3 => by
        refine ih _ a2 w2 hclij hc2 hl2 ?_ q3
        rcases hSw with hSw | hSw
        · exact .inl (by simp only [List.all_cons, Bool.and_eq_true] at hSw; exact hSw.2)
        · exact .inr (q2 (q1 hSw))
      show wpAnyS P .any ops Q S late (planLen rest + 1 + 1) listed a w
      refine ⟨fun h0 => (by rw [hr] at h0; cases h0), fun k hk => ?_⟩
      rw [hr] at hk
      simp only [List.mem_cons, List.not_mem_nil, or_false] at hk
      rcases hk with rfl | rfl
      · refine wpOp_mono (fun a' w' h' => ⟨.inr h'.1, ?_⟩) h1
        refine ⟨fun h0 => (by rw [hri] at h0; cases h0), fun k2 hk2 => ?_⟩
        rw [hri] at hk2
        obtain rfl : k2 = j := by simpa using hk2
        exact wpOp_mono (fun a2 w2 h2 => ⟨.inr h2.1, fin a2 w' w2 h'.1 h2.1 h2.2⟩) h'.2
      · refine wpOp_mono (fun a' w' h' => ⟨.inr h'.1, ?_⟩) h2
        refine ⟨fun h0 => (by rw [hrj] at h0; cases h0), fun k2 hk2 => ?_⟩
        rw [hrj] at hk2
        obtain rfl : k2 = i := by simpa using hk2
        refine wpOp_mono (fun a2 w2 h2 => ⟨.inr h2.1, ?_⟩) h'.2
        rw [hcomm]
        exact fin a2 w' w2 h'.1 h2.1 h2.2
    | none =>
    simp only [canChk, Bool.and_eq_true] at hc
    obtain ⟨hc1, hc2⟩ := hc
    simp only [wpCan] at h
    show wpAnyS P .any ops Q S late (planLen rest + 1) listed a w
    split at hc1
    · rename_i hE
      rw [if_pos hE] at h
      have hr : Region.ready .any ops listed = [i] := by simpa using hc1
      refine ⟨fun h0 => (by rw [hr] at h0; cases h0), fun j hj => ?_⟩
      rw [hr] at hj
      obtain rfl : j = i := by simpa using hj
      refine wpOp_mono (fun a' w' h' => ⟨h'.1, ih _ a' w' (hcl.set (by rw [hr]; simp)) hc2 hl2 ?_ h'.2⟩) h
      rcases h'.1 with h1 | h1
      · exact .inl (by simpa using hl1.resolve_left (by rw [h1]; simp))
      · rcases hSw with hSw | hSw
        · exact .inl (by simp only [List.all_cons, Bool.and_eq_true] at hSw; exact hSw.2)
        · exact .inr (h1 hSw)
    · rename_i hE
      rw [if_neg hE] at h
      simp only [Bool.and_eq_true] at hc1
      obtain ⟨⟨⟨hready, hfree⟩, hsome⟩, hlate⟩ := hc1
      cases ho : ops[i]? with
      | none => rw [ho] at hsome; cases hsome
      | some o =>
        rw [ho] at h
        obtain ⟨v, hy, hrest⟩ := h
        have hi : i ∈ Region.ready .any ops listed := by simpa using hready
        have hSr : (rest.all fun j => E j.1 || N j.1) = true ∨ S w := by
          rcases hSw with hSw | hSw
          · exact .inl (by simp only [List.all_cons, Bool.and_eq_true] at hSw; exact hSw.2)
          · exact .inr hSw
        have hrec := ih _ _ _ (hcl.set hi) hc2 hl2 hSr hrest
        by_cases hN : N i = true
        · rw [if_pos hN] at hy
          exact wpAnyS_first (depth := ops.size) (fun _ => True) ho (Region.noSelect_spec hs) (fun c a w => hQ o.dst v c a w) (.inl fun _ => trivial) (planLen rest) listed a w hcl (Region.free_spec ho hfree) hi hy trivial hrec
        · rw [if_neg hN] at hy
          have hS : S w := hSw.resolve_left (by simp [hE, hN])
          refine wpAnyS_first (depth := ops.size) S ho (Region.noSelect_spec hs) (fun c a w => hQ o.dst v c a w) (.inr ⟨rfl, ?_⟩) (planLen rest) listed a w hcl (Region.free_spec ho hfree) hi hy hS hrec
          intro j oj hoj hlj hne
          have hlate' := (Bool.or_eq_true _ _ ▸ hlate).resolve_left hN
          rw [List.all_eq_true] at hlate'
          have := hlate' j (List.mem_range.2 (Array.getElem?_eq_some_iff.1 hoj).1)
          simp only [Bool.or_eq_true, Bool.not_eq_true', beq_iff_eq] at this
          rcases this with (h1 | h1) | h1
          · rw [hlj] at h1; cases h1
          · exact absurd h1 hne
          · exact h1

/-- A region that draws its order, by one order of it. -/
theorem wpAny_can {l : List Oper} (S : World → Prop) (π : List (Nat × Option Nat)) (E N late : Nat → Bool) {a : Act} {w : World}
    (hQ : ∀ (o : Option Tmp) (v : Value) c a w, Q (.panic c) (a.put o v) w → Q (.panic c) a w)
    (hchk : (Region.noSelect l.toArray && (canChk l.toArray late E N π (Array.replicate l.toArray.size false) && (lateChk late E N π && planLen π == l.toArray.size))) = true)
    (hS : S w.drew) (h : wpCan P l.toArray Q S late E N π a w.drew) : wpAny P .any l.toArray Q l.toArray.size (Array.replicate l.toArray.size false) a w.drew := by
  simp only [Bool.and_eq_true, beq_iff_eq] at hchk
  obtain ⟨h1, h2, h3, h4⟩ := hchk
  have hsound := wpCan_sound h1 hQ π (Array.replicate l.toArray.size false) a w.drew (by
    intro j o _ hj
    rw [Array.getD_eq_getD_getElem?, Array.getElem?_replicate] at hj
    split at hj <;> simp at hj) h2 h3 (.inr hS) h
  rw [h4] at hsound
  exact wpAny_of_S (S := S) (late := late) _ _ _ _ hsound

theorem wpCan_nil {E N : Nat → Bool} {a : Act} {w : World} (h : Q .normal a w) : wpCan P ops Q S late E N [] a w := h

/-- What only reads. -/
theorem wpCan_quiet {E N : Nat → Bool} {i : Nat} {rest : List (Nat × Option Nat)} {o : Oper} {v : Value} {a : Act} {w : World} (hE : E i = false) (hN : N i = false) (ho : ops[i]? = some o) (hw : Region.wanted o (yielded ops a.tmps) = true)
    (hy : ∀ w', S w' → (execOp a.eval o).run P w' = .ok (.value v) w') (h : wpCan P ops Q S late E N rest (a.put o.dst v) w) : wpCan P ops Q S late E N ((i, none) :: rest) a w := by
  simp only [wpCan, hE, hN, ho]
  exact ⟨v, .inl ⟨hw, hy⟩, h⟩

/-- What needs no world. -/
theorem wpCan_pure {E N : Nat → Bool} {i : Nat} {rest : List (Nat × Option Nat)} {o : Oper} {v : Value} {a : Act} {w : World} (hE : E i = false) (hN : N i = true) (ho : ops[i]? = some o) (hw : Region.wanted o (yielded ops a.tmps) = true)
    (hy : ∀ w', (execOp a.eval o).run P w' = .ok (.value v) w') (h : wpCan P ops Q S late E N rest (a.put o.dst v) w) : wpCan P ops Q S late E N ((i, none) :: rest) a w := by
  simp only [wpCan, hE, hN, ho, if_true]
  exact ⟨v, .inl ⟨hw, fun w' _ => hy w'⟩, h⟩

/-- What is passed over. -/
theorem wpCan_skip {E N : Nat → Bool} {i : Nat} {rest : List (Nat × Option Nat)} {o : Oper} {a : Act} {w : World} (hE : E i = false) (ho : ops[i]? = some o) (hw : Region.wanted o (yielded ops a.tmps) = false)
    (h : wpCan P ops Q S late E N rest (a.put o.dst undef) w) : wpCan P ops Q S late E N ((i, none) :: rest) a w := by
  simp only [wpCan, hE, ho]
  exact ⟨undef, .inr ⟨hw, rfl⟩, h⟩

/-- What writes, makes or calls. -/
theorem wpCan_eff {E N : Nat → Bool} {i : Nat} {rest : List (Nat × Option Nat)} {o : Oper} {a : Act} {w : World} (hE : E i = true) (ho : ops[i]? = some o)
    (h : ∀ K : Act → World → Prop, (∀ a' w', (late i = true ∨ (S w → S w')) → wpCan P ops Q S late E N rest a' w' → K a' w') → if Region.wanted o (yielded ops a.tmps) = true then Oper.wp P o a w K Q else K (a.put o.dst undef) w) : wpCan P ops Q S late E N ((i, none) :: rest) a w := by
  simp only [wpCan, hE, if_true]
  exact wpOp_step ho fun K hK => h K fun a' w' h1 h2 => hK a' w' ⟨h1, h2⟩
end
end Go.AB
