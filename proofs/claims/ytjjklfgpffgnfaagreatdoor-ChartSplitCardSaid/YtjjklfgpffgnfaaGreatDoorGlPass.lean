/-
 Charts in plain words: how lines lead from one edition to another one, line by line.
-/
import Derived.Test.YtjjklfgpffgnfaaGreatDoorGrpG
namespace Go.AB
open Go Go.RowKit
open Go.AB.Enc (cells)
open Go.PB (Chap TextD PlaceD ReadingD CopyD WayD)
/-! ### Both ways as many -/
section
variable {t : TextD} {es fs : List StretchD}
theorem lines_nodup (t : TextD) : (linesT t).Nodup := (linesT_sorted t).imp fun {a b} h e => by subst e; exact ltL_irr _ h
theorem as_inj (hS : Sound t es) {p q v : L2} (h1 : asOf es p = some v) (h2 : asOf es q = some v) : p = q := by
 have k1 := (back_iff hS.no).2 h1
 have k2 := (back_iff hS.no).2 h2
 rw [k1] at k2
 exact Option.some.inj k2
theorem crossOf_keys (hS : Sound t es) : ((linesT t).filterMap (crossOf es fs)).Pairwise fun a b => passK a ≠ passK b := by
 rw [List.pairwise_filterMap]
 refine List.Pairwise.imp (fun {a b} hab x hx y hy e => ?_) (lines_nodup t)
 obtain ⟨v, u, h1, h2, rfl⟩ := crossOf_some.1 hx
 obtain ⟨v', u', h3, h4, rfl⟩ := crossOf_some.1 hy
 have e' : v = v' := e
 subst e'
 exact hab (as_inj hS h1 h3)
theorem cross_ex (hS : Sound t es) : CrossOk es fs (crossS es fs) ∧ (crossS es fs).length = ((linesT t).filterMap (crossOf es fs)).length := by
 obtain ⟨S0, h0⟩ : ∃ S, S = (linesT t).filterMap (crossOf es fs) := ⟨_, rfl⟩
 have hk := crossOf_keys (fs := fs) hS
 rw [← h0] at hk ⊢
 have hp := List.mergeSort_perm S0 fun a b => decide (¬ ltL (passK b) (passK a))
 have hs := List.pairwise_mergeSort (le := fun a b : PassD => decide (¬ ltL (passK b) (passK a))) (fun a b c h1 h2 => by
  have h1 := of_decide_eq_true h1
  have h2 := of_decide_eq_true h2
  refine decide_eq_true ?_
  unfold ltL at h1 h2 ⊢
  omega) (fun a b => by
  rw [Bool.or_eq_true, decide_eq_true_eq, decide_eq_true_eq]
  unfold ltL
  omega) S0
 have hk2 : (S0.mergeSort fun a b => decide (¬ ltL (passK b) (passK a))).Pairwise fun a b => passK a ≠ passK b := (hp.pairwise_iff fun {a b} h e => h e.symm).2 hk
 have hok : CrossOk es fs (S0.mergeSort fun a b => decide (¬ ltL (passK b) (passK a))) := by
  refine crossOk_lines hS ?_ fun x => by rw [hp.mem_iff, h0]
  refine (List.pairwise_and_iff.2 ⟨hs, hk2⟩).imp fun {a b} h => ?_
  exact Classical.byContradiction fun hn => h.2 (ltL_tri hn (of_decide_eq_true h.1))
 rw [crossS_eq hok]
 exact ⟨hok, hp.length_eq⟩
theorem cross_len (hS : Sound t es) (hF : Sound t fs) : (crossS es fs).length = (crossS fs es).length := by
 rw [(cross_ex (fs := fs) hS).2, (cross_ex (fs := es) hF).2, List.length_filterMap_eq_countP, List.length_filterMap_eq_countP]
 congr 1
 funext p
 unfold crossOf
 cases asOf es p <;> cases asOf fs p <;> rfl
theorem cross_le (hS : Sound t es) : (crossS es fs).length ≤ 60 := by
 rw [(cross_ex hS).2]
 exact Nat.le_trans (List.length_filterMap_le _ _) (linesT_len hS.tx)
end
/-! ### What is taken together -/
/-- the lines of a passage, one each -/
def expQ (q : PassD) : List PassD := (List.range q.n.toNat).map fun (i : Nat) => ⟨q.ch, q.ln + i, q.tc, q.tl + i, 1⟩
theorem expQ_len (q : PassD) : (expQ q).length = q.n.toNat := by simp [expQ]
theorem mem_expQ {q x : PassD} : x ∈ expQ q ↔ ∃ i : Int, 0 ≤ i ∧ i < q.n ∧ x = ⟨q.ch, q.ln + i, q.tc, q.tl + i, 1⟩ := by
 unfold expQ
 rw [List.mem_map]
 constructor
 ·rintro ⟨i, hi, rfl⟩
  rw [List.mem_range] at hi
  exact ⟨i, by omega, by omega, rfl⟩
 ·rintro ⟨i, h1, h2, rfl⟩
  exact ⟨i.toNat, List.mem_range.2 (by omega), by rw [show ((i.toNat : Nat) : Int) = i by omega]⟩
theorem expQ_one {x : PassD} (h : x.n = 1) : expQ x = [x] := by
 obtain ⟨a, b, c, d, n⟩ := x
 dsimp only at h
 subst h
 simp [expQ]
theorem expQ_on {p x : PassD} (hp : 1 ≤ p.n) (hx : x.n = 1) (h : onP p x = true) : expQ { p with n := p.n + 1 } = expQ p ++ [x] := by
 simp only [onP, Bool.and_eq_true, decide_eq_true_eq] at h
 obtain ⟨h1, h2, h3, h4⟩ := h
 unfold expQ
 dsimp only
 rw [show (p.n + 1).toNat = p.n.toNat + 1 by omega, List.range_succ, List.map_append, List.map_singleton]
 congr 2
 obtain ⟨a, b, c, d, n⟩ := x
 dsimp only at h1 h2 h3 h4 hx
 rw [show ((p.n.toNat : Nat) : Int) = p.n by omega, h1, h2, h3, h4, hx]
theorem last_eq {α : Type} {out : List α} {p : α} (h : out[out.length - 1]? = some p) : out = out.take (out.length - 1) ++ [p] := by
 obtain ⟨h1, h2⟩ := List.getElem?_eq_some_iff.1 h
 have := List.take_append_drop (out.length - 1) out
 rw [List.drop_eq_getElem_cons h1, h2, List.drop_eq_nil_of_le (by omega)] at this
 exact this.symm
theorem last_set {α : Type} {out : List α} {p q : α} (h : out[out.length - 1]? = some p) : out.set (out.length - 1) q = out.take (out.length - 1) ++ [q] := by
 obtain ⟨h1, h2⟩ := List.getElem?_eq_some_iff.1 h
 have e := last_eq h
 have hl : (out.take (out.length - 1)).length = out.length - 1 := by rw [List.length_take]; omega
 have e2 : out.set (out.length - 1) q = (out.take (out.length - 1) ++ [p]).set (out.length - 1) q := by rw [← e]
 rw [e2, List.set_append_right _ _ (by rw [hl]; exact Nat.le_refl _), hl, Nat.sub_self]
 rfl
theorem mergeQ_exp {L : List PassD} (h : ∀ x ∈ L, x.n = 1) : (mergeQ L).flatMap expQ = L ∧ ∀ q ∈ mergeQ L, 1 ≤ q.n := by
 suffices k : ∀ k, k ≤ L.length → (mergeQ (L.take k)).flatMap expQ = L.take k ∧ ∀ q ∈ mergeQ (L.take k), 1 ≤ q.n by
  have := k L.length (Nat.le_refl _)
  rwa [List.take_length] at this
 intro k
 induction k with
 | zero => intro _; simp [mergeQ]
 | succ k ih =>
  intro hk
  have hx0 : L[k]? = some L[k] := List.getElem?_eq_getElem (by omega)
  have hb := h L[k] (List.mem_of_getElem? hx0)
  obtain ⟨i1, i2⟩ := ih (by omega)
  have ap : (mergeQ (L.take k) ++ [L[k]]).flatMap expQ = L.take (k + 1) ∧ ∀ q ∈ mergeQ (L.take k) ++ [L[k]], 1 ≤ q.n := by
   refine ⟨by rw [List.flatMap_append, i1, List.flatMap_singleton, expQ_one hb, List.take_add_one, hx0]; rfl, fun q hq => ?_⟩
   rcases List.mem_append.1 hq with hq | hq
   ·exact i2 q hq
   ·rw [List.mem_singleton] at hq; subst hq; omega
  rw [mergeQ_succ hx0]
  unfold stepQ
  split
  ·rename_i p hp
   cases ho : onP p L[k] with
   | false => exact ap
   | true =>
    rw [cond_true, last_set hp]
    have hp1 := i2 p (List.mem_of_getElem? hp)
    rw [last_eq hp] at i1 i2
    refine ⟨?_, fun q hq => ?_⟩
    ·rw [List.flatMap_append, List.flatMap_singleton] at i1
     rw [List.flatMap_append, List.flatMap_singleton, expQ_on hp1 hb ho, ← List.append_assoc, i1, List.take_add_one, hx0]; rfl
    ·rcases List.mem_append.1 hq with hq | hq
     ·exact i2 q (List.mem_append_left _ hq)
     ·rw [List.mem_singleton] at hq; subst hq; dsimp only; omega
  ·exact ap
def sumN : List PassD → Int
 | [] => 0
 | q :: l => q.n + sumN l
theorem sumN_app (l m : List PassD) : sumN (l ++ m) = sumN l + sumN m := by
 induction l with
 | nil => simp [sumN]
 | cons q l ih => rw [List.cons_append, sumN, sumN, ih]; omega
theorem sumN_take {L : List PassD} {k : Nat} {q : PassD} (h : L[k]? = some q) : sumN (L.take (k + 1)) = sumN (L.take k) + q.n := by
 rw [List.take_add_one, h, Option.toList_some, sumN_app]; simp [sumN]
theorem sumN_exp {L : List PassD} (h : ∀ q ∈ L, 1 ≤ q.n) : sumN L = ((L.flatMap expQ).length : Int) := by
 induction L with
 | nil => simp [sumN]
 | cons q L ih =>
  rw [sumN, ih fun z hz => h z (List.mem_cons_of_mem _ hz), List.flatMap_cons, List.length_append, expQ_len]
  have := h q (List.mem_cons_self ..)
  omega
theorem sumN_bd {L : List PassD} (h : ∀ q ∈ L, 1 ≤ q.n ∧ q.n ≤ 61) (k : Nat) : 0 ≤ sumN (L.take k) ∧ sumN (L.take k) ≤ 61 * (k : Int) := by
 induction k with
 | zero => simp [sumN]
 | succ k ih =>
  cases hk : L[k]? with
  | none => rw [List.take_add_one, hk]; simp only [Option.toList_none, List.append_nil]; omega
  | some q => rw [sumN_take hk]; have := h q (List.mem_of_getElem? hk); omega
section
variable {t : TextD} {x y : EditionD} {p : PlaceD} {k : Nat} {q q1 : PassD}
theorem crossS_one {es fs : List StretchD} (h : CrossOk es fs (crossS es fs)) : ∀ z ∈ crossS es fs, z.n = 1 := fun z hz => by
 obtain ⟨_, _, _, _, _, rfl⟩ := (h.mem z).1 hz; rfl
structure PassOk (t : TextD) (x y : EditionD) (L : List PassD) : Prop where
 ok : CrossOk x.ss y.ss (L.flatMap expQ)
 pos : ∀ q ∈ L, 1 ≤ q.n
 bd : ∀ q ∈ L, PBd 61 q
 len : L.length ≤ 60
theorem crossL_ok (h : soundEr t x = 0) (k : soundEr t y = 0) : PassOk t x y (crossL t x y) := by
 have hS := soundEr_sound h
 obtain ⟨h1, h2⟩ := cross_ex (fs := y.ss) hS
 have h3 := mergeQ_exp (crossS_one h1)
 have e : crossL t x y = mergeQ (crossS x.ss y.ss) := by simp [crossL, bothEr_eq h k]
 rw [e]
 refine ⟨by rw [h3.1]; exact h1, h3.2, fun q hq => (mergeQ_bd (crossOk_bd hS.ok (soundEr_sound k).ok h1) q hq).mono (by have := cross_le (fs := y.ss) hS; omega), Nat.le_trans (mergeQ_len _) (cross_le hS)⟩
theorem crossL_sum (h : soundEr t x = 0) (k : soundEr t y = 0) : sumN (crossL t x y) = sumN (crossL t y x) := by
 have h1 := crossL_ok h k
 have h2 := crossL_ok k h
 rw [sumN_exp h1.pos, sumN_exp h2.pos, ← crossS_eq h1.ok, ← crossS_eq h2.ok, cross_len (soundEr_sound h) (soundEr_sound k)]
theorem PassOk.order {L : List PassD} (h : PassOk t x y L) (h1 : L[k - 1]? = some q1) (h2 : L[k]? = some q) (hk : 0 < k) : ¬ q.ch < q1.ch ∧ (q.ch = q1.ch → ¬ q.ln < q1.ln + q1.n) := by
 have hs := (List.pairwise_flatMap.1 h.ok.sorted).2
 obtain ⟨a1, a2⟩ := List.getElem?_eq_some_iff.1 h1
 obtain ⟨b1, b2⟩ := List.getElem?_eq_some_iff.1 h2
 have := List.pairwise_iff_getElem.1 hs (k - 1) k a1 b1 (by omega)
 rw [a2, b2] at this
 have p1 := h.pos q1 (List.mem_of_getElem? h1)
 have p2 := h.pos q (List.mem_of_getElem? h2)
 have := this _ (mem_expQ.2 ⟨q1.n - 1, by omega, by omega, rfl⟩) _ (mem_expQ.2 ⟨0, by omega, by omega, rfl⟩)
 unfold ltL passK at this
 dsimp only at this
 omega
/-- a passage has a reference's line -/
def covB (u : RefD) (s : PassD) : Bool := decide (s.ch = u.ch) && (decide (s.ln ≤ u.ln) && decide (u.ln < s.ln + s.n))
theorem covB_true {u : RefD} {s : PassD} : covB u s = true ↔ s.ch = u.ch ∧ s.ln ≤ u.ln ∧ u.ln < s.ln + s.n := by simp [covB]
theorem PassOk.cover {L : List PassD} (h : PassOk t x y L) (hS : Sound t x.ss) {u : RefD} (hq : q ∈ L) (hu : asOf x.ss (p.ch, p.ln) = some (u.ch, u.ln)) (hc : covB u q = true) : asOf y.ss (p.ch, p.ln) = some (q.tc, q.tl + u.ln - q.ln) := by
 obtain ⟨c1, c2, c3⟩ := covB_true.1 hc
 obtain ⟨p', v', u', h1, h2, e⟩ := (h.ok.mem ⟨q.ch, q.ln + (u.ln - q.ln), q.tc, q.tl + (u.ln - q.ln), 1⟩).1 (List.mem_flatMap.2 ⟨q, hq, mem_expQ.2 ⟨u.ln - q.ln, by omega, by omega, rfl⟩⟩)
 simp only [passOf, PassD.mk.injEq, and_true] at e
 obtain ⟨e1, e2, e3, e4⟩ := e
 have ev : v' = (u.ch, u.ln) := Prod.ext (by dsimp only; omega) (by dsimp only; omega)
 rw [ev] at h1
 rw [as_inj hS hu h1, h2]
 congr 1
 exact Prod.ext (by dsimp only; omega) (by dsimp only; omega)
theorem PassOk.covered {L : List PassD} (h : PassOk t x y L) {u : RefD} {w : L2} (hu : asOf x.ss (p.ch, p.ln) = some (u.ch, u.ln)) (hw : asOf y.ss (p.ch, p.ln) = some w) : L.any (covB u) = true := by
 obtain ⟨q, hq, hm⟩ := List.mem_flatMap.1 ((h.ok.mem _).2 ⟨_, _, _, hu, hw, rfl⟩)
 obtain ⟨i, i1, i2, e⟩ := mem_expQ.1 hm
 simp only [passOf, PassD.mk.injEq, and_true] at e
 exact List.any_eq_true.2 ⟨q, hq, covB_true.2 ⟨by omega, by omega, by omega⟩⟩
end
end Go.AB
