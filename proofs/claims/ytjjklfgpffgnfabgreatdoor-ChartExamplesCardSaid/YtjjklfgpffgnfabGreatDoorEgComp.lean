/-
 Contracts: comparisons of numbers, of rows of numbers.
-/
import Derived.Test.YtjjklfgpffgnfabGreatDoorAbSort
import Derived.Test.YtjjklfgpffgnfabGreatDoorGrpA
namespace Go.AB
open Go Go.RowKit
open Go.AB.Enc (cells)
def cmpI (a b : Int) : Int := bif decide (a < b) then -1 else bif decide (b < a) then 1 else 0
def cmpL : List Int → List Int → Int
 | [], [] => 0
 | [], _ :: _ => -1
 | _ :: _, [] => 1
 | x :: a, y :: b => bif decide (cmpI x y = 0) then cmpL a b else cmpI x y
theorem cmpI_lt {a b : Int} : cmpI a b < 0 ↔ a < b := by
 unfold cmpI
 by_cases h : a < b
 ·simp [h]
 by_cases h2 : b < a <;> simp [h, h2]
theorem cmpI_gt {a b : Int} : 0 < cmpI a b ↔ b < a := by
 unfold cmpI
 by_cases h : a < b
 ·simp [h]; omega
 by_cases h2 : b < a <;> simp [h, h2]
theorem cmpI_zero {a b : Int} : cmpI a b = 0 ↔ a = b := by
 unfold cmpI
 by_cases h : a < b
 ·simp [h]; omega
 by_cases h2 : b < a <;> simp [h, h2] <;> omega
/-- words of the same length, one behind the other -/
def ltW : List Int → List Int → Prop
 | x :: a, y :: b => x < y ∨ x = y ∧ ltW a b
 | _, _ => False
theorem cmpL_lt : ∀ {a b : List Int}, a.length = b.length → (cmpL a b < 0 ↔ ltW a b)
 | [], [], _ => by simp [cmpL, ltW]
 | x :: a, y :: b, h => by
  simp only [cmpL, ltW]
  by_cases h0 : cmpI x y = 0
  ·have := cmpI_zero.1 h0
   subst this
   rw [decide_eq_true h0, cond_true, cmpL_lt (by simpa using h)]
   simp
  have := mt cmpI_zero.2 h0
  rw [decide_eq_false h0, cond_false, cmpI_lt]
  constructor
  ·exact .inl
  rintro (h1 | ⟨h1, _⟩)
  ·exact h1
  exact absurd h1 this
theorem cmpL_gt : ∀ {a b : List Int}, a.length = b.length → (0 < cmpL a b ↔ ltW b a)
 | [], [], _ => by simp [cmpL, ltW]
 | x :: a, y :: b, h => by
  simp only [cmpL, ltW]
  by_cases h0 : cmpI x y = 0
  ·have := cmpI_zero.1 h0
   subst this
   rw [decide_eq_true h0, cond_true, cmpL_gt (by simpa using h)]
   simp
  have := mt cmpI_zero.2 h0
  rw [decide_eq_false h0, cond_false, cmpI_gt]
  constructor
  ·exact .inl
  rintro (h1 | ⟨h1, _⟩)
  ·exact h1
  exact absurd h1.symm this
end Go.AB
namespace Go.Proofs.YtjjklfgpffgnfabGreatDoor
set_option maxRecDepth 10000
open Go.RowKit Go.AB
open Go.AB.Enc (cells)
theorem isNaN_pure (x : Int) : Pure Tryz.prog 120 [.v (.int .i64 x)] (.v (.bool false)) := by
 refine pure_of_body Tryz.func120 rfl (fun m => .v) fun G nx => ?_
 simp only [Tryz.ntmps120, List.length_cons, List.length_nil, Nat.reduceAdd, Nat.reduceSub]
 refine aw_lt fun hlt => ?_
 dsimp only at hlt
 refine yS fun _ K1 => ?_
 refine yR ?_
 refine yA rfl rfl ?_
 refine yN ?_
 dsimp only [St.put]
 refine K1 _ ?_
 refine yS fun _ K2 => ?_
 refine yR ?_
 refine yM rfl rfl ?_
 refine yM rfl rfl ?_
 refine aops_n rfl (n_neq rfl rfl rfl) ?_
 refine yA rfl rfl ?_
 refine yN ?_
 dsimp only [St.put]
 refine K2 _ ?_
 refine aw_ret ?_
 refine ends_1 rfl (by constructor) zN zS ?_
 exact vb (by simp)
theorem cmpCompare_pure (x y : Int) : Pure Tryz.prog 83 [.v (.int .i64 x), .v (.int .i64 y)] (.v (.int .i64 (cmpI x y))) := by
 refine pure_of_body Tryz.func83 rfl (fun m => .v) fun G nx => ?_
 simp only [Tryz.ntmps83, List.length_cons, List.length_nil, Nat.reduceAdd, Nat.reduceSub]
 refine aw_lt fun hlt => ?_
 dsimp only at hlt
 refine yS fun _ K1 => ?_
 refine yR ?_
 refine yA rfl rfl ?_
 refine yN ?_
 dsimp only [St.put]
 refine K1 _ ?_
 refine yS fun _ K2 => ?_
 refine yR ?_
 refine yM rfl rfl ?_
 try dsimp only [St.put]
 refine aops_e rfl (e_call_pure rfl rfl rfl (isNaN_pure _) ?_)
 refine yA rfl rfl ?_
 refine yN ?_
 dsimp only [St.put]
 refine K2 _ ?_
 refine yS fun _ K3 => ?_
 refine yR ?_
 refine yM rfl rfl ?_
 try dsimp only [St.put]
 refine aops_e rfl (e_call_pure rfl rfl rfl (isNaN_pure _) ?_)
 refine yA rfl rfl ?_
 refine yN ?_
 dsimp only [St.put]
 refine K3 _ ?_
 refine yS fun _ K4 => ?_
 refine yS fun _ K5 => ?_
 refine yR ?_
 refine aops_n rfl (n_bool (c := false) (n_mv rfl (by constructor)) (by rfl)) ?_
 refine yN ?_
 dsimp only [St.put]
 refine K5 _ ?_
 refine aw_cond rfl (fun h => by cases h) (fun _ => ?_)
 refine aw_skip ?_
 refine K4 _ ?_
 refine yS fun _ K6 => ?_
 refine yS fun _ K7 => ?_
 refine yR ?_
 refine aops_n rfl (n_bool (c := false) (n_mv rfl (by constructor)) (by rfl)) ?_
 refine yN ?_
 dsimp only [St.put]
 refine K7 _ ?_
 refine aw_cond rfl (fun h => by cases h) (fun _ => ?_)
 refine aw_skip ?_
 refine K6 _ ?_
 refine yS fun _ K8 => ?_
 refine yS fun _ K9 => ?_
 refine yR ?_
 refine yM rfl rfl ?_
 refine yM rfl rfl ?_
 refine aops_n rfl (n_lss rfl rfl rfl) ?_
 refine yN ?_
 dsimp only [St.put]
 refine K9 _ ?_
 refine aw_cond rfl (fun hc => ?_) (fun hc => ?_)
 ·have h1 := of_decide_eq_true hc
  refine yS fun _ K10 => ?_
  refine yR ?_
  refine yA rfl rfl ?_
  refine yN ?_
  dsimp only [St.put]
  refine K10 _ ?_
  refine aw_ret ?_
  refine ends_1 rfl (by constructor) zN zS ?_
  exact vi (by simp [cmpI, h1])
 have h1 := of_decide_eq_false hc
 refine aw_skip ?_
 refine K8 _ ?_
 refine yS fun _ K11 => ?_
 refine yS fun _ K12 => ?_
 refine yR ?_
 refine yM rfl rfl ?_
 refine yM rfl rfl ?_
 refine aops_n rfl (n_gtr rfl rfl rfl) ?_
 refine yN ?_
 dsimp only [St.put]
 refine K12 _ ?_
 refine aw_cond rfl (fun hc => ?_) (fun hc => ?_)
 ·have h2 := of_decide_eq_true hc
  refine yS fun _ K13 => ?_
  refine yR ?_
  refine yA rfl rfl ?_
  refine yN ?_
  dsimp only [St.put]
  refine K13 _ ?_
  refine aw_ret ?_
  refine ends_1 rfl (by constructor) zN zS ?_
  exact vi (by have h2' : y < x := h2; simp [cmpI, h1, h2'])
 have h2 := of_decide_eq_false hc
 refine aw_skip ?_
 refine K11 _ ?_
 refine yS fun _ K14 => ?_
 refine yR ?_
 refine yA rfl rfl ?_
 refine yN ?_
 dsimp only [St.put]
 refine K14 _ ?_
 refine aw_ret ?_
 refine ends_1 rfl (by constructor) zN zS ?_
 exact vi (by have h2' : ¬ y < x := h2; simp [cmpI, h1, h2'])
theorem cmpL_step {a b : List Int} {k : Nat} {x y : Int} (hx : a[k]? = some x) (hy : b[k]? = some y) : cmpL (a.drop k) (b.drop k) = bif decide (cmpI x y = 0) then cmpL (a.drop (k + 1)) (b.drop (k + 1)) else cmpI x y := by
 obtain ⟨h1, h2⟩ := List.getElem?_eq_some_iff.1 hx
 obtain ⟨h3, h4⟩ := List.getElem?_eq_some_iff.1 hy
 rw [List.drop_eq_getElem_cons h1, List.drop_eq_getElem_cons h3, h2, h4]; rfl
theorem cmpSlices_pure (a b : List Int) (ha : a.length ≤ 1000) (hb : b.length ≤ 1000) : Pure Tryz.prog 55 [lst a, lst b] (.v (.int .i64 (cmpL a b))) := by
 refine pure_of_body Tryz.func55 rfl (fun m => .v) fun G nx => ?_
 simp only [Tryz.ntmps55, List.length_cons, List.length_nil, Nat.reduceAdd, Nat.reduceSub]
 refine aw_lt fun hlt => ?_
 dsimp only at hlt
 refine yS fun _ K1 => ?_
 refine yR ?_
 refine yA rfl rfl ?_
 refine yN ?_
 dsimp only [St.put]
 refine K1 _ ?_
 refine yS fun _ K2 => ?_
 refine yS fun _ K3 => ?_
 refine yR ?_
 refine yM rfl rfl ?_
 refine aops_n rfl (n_len' rfl rfl (List.length_map _)) ?_
 refine yM rfl rfl ?_
 refine yN ?_
 dsimp only [St.put]
 refine K3 _ ?_
 refine aw_block ?_
 refine aw_wipe 12 ?_
 simp only [firsts, getA, Nat.reduceAdd, List.getD_cons_zero, List.getD_cons_succ, List.getD_nil, natBeq, Nat.reduceBEq, cond_true, cond_false]
 refine aw_forget (G) zX ?_
 dsimp only
 refine aw_loopD (X := Nat) (fun k => k ≤ a.length ∧ k ≤ b.length ∧ cmpL a b = cmpL (a.drop k) (b.drop k)) (fun k => a.length - k) (fun k => [(5, .any), (6, .any), (7, .any), (8, .any), (11, .v (.int .i64 (k : Int)))]) (fun k G' => G') 0 rfl ?_ ?_ (fun _ _ h => h) ?_ ?_ ?_
 ·exact ⟨Nat.zero_le _, Nat.zero_le _, rfl⟩
 ·exact zF
 ·rintro k hI
  exact zL
 ·exact fun _ _ _ _ h => .inl h
 rintro k hI
 dsimp only at hI ⊢
 refine yS fun _ K4 => ?_
 refine yR ?_
 refine aops_n rfl (n_lss rfl rfl rfl) ?_
 refine yN ?_
 dsimp only [St.put]
 refine K4 _ ?_
 refine yS fun _ K5 => ?_
 refine aw_cond rfl (fun hc => ?_) (fun hc => ?_)
 ·replace hc := of_decide_eq_true hc
  obtain ⟨x, hx⟩ : ∃ x, a[k]? = some x := some_of_lt (by omega)
  refine aw_skip ?_
  refine K5 _ ?_
  refine yS fun _ K6 => ?_
  refine aw_block ?_
  refine yS fun _ K7 => ?_
  refine yR ?_
  refine yM rfl rfl ?_
  refine aops_n rfl (n_indexAddr rfl rfl rfl rfl (map_get (by assumption)) (Enc.len _)) ?_
  refine yL rfl rfl rfl ?_
  refine yA rfl rfl ?_
  refine yA rfl rfl ?_
  refine yN ?_
  dsimp only [St.put]
  refine K7 _ ?_
  refine yS fun _ K8 => ?_
  refine yS fun _ K9 => ?_
  refine yR ?_
  refine yM rfl rfl ?_
  refine yM rfl rfl ?_
  refine aops_n rfl (n_len' rfl rfl (List.length_map _)) ?_
  refine aops_n rfl (n_geq rfl rfl rfl) ?_
  refine yN ?_
  dsimp only [St.put]
  refine K9 _ ?_
  refine aw_cond rfl (fun hc => ?_) (fun hc => ?_)
  ·replace hc := of_decide_eq_true hc
   refine yS fun _ K10 => ?_
   refine yR ?_
   refine yA rfl rfl ?_
   refine yN ?_
   dsimp only [St.put]
   refine K10 _ ?_
   refine aw_ret ?_
   refine ends_1 rfl (by constructor) zN zS ?_
   exact vi (by
    rw [hI.2.2, List.drop_of_length_le (show b.length ≤ k by omega)]
    obtain ⟨h1, h2⟩ := List.getElem?_eq_some_iff.1 hx
    rw [List.drop_eq_getElem_cons h1]; rfl)
  replace hc := of_decide_eq_false hc
  obtain ⟨y, hy⟩ : ∃ x, b[k]? = some x := some_of_lt (by omega)
  refine aw_skip ?_
  refine K8 _ ?_
  refine yS fun _ K11 => ?_
  refine yR ?_
  refine yM rfl rfl ?_
  refine yM rfl rfl ?_
  refine aops_n rfl (n_indexAddr rfl rfl rfl rfl (map_get (by assumption)) (Enc.len _)) ?_
  refine yL rfl rfl rfl ?_
  refine yA rfl rfl ?_
  refine yN ?_
  dsimp only [St.put]
  refine K11 _ ?_
  refine yS fun _ K12 => ?_
  refine yR ?_
  refine yM rfl rfl ?_
  refine yM rfl rfl ?_
  try dsimp only [St.put]
  refine aops_e rfl (e_call_pure rfl rfl rfl (cmpCompare_pure x y) ?_)
  refine yA rfl rfl ?_
  refine yN ?_
  dsimp only [St.put]
  refine K12 _ ?_
  refine yS fun _ K13 => ?_
  refine yR ?_
  refine yM rfl rfl ?_
  refine aops_n rfl (n_neq rfl rfl rfl) ?_
  refine yN ?_
  dsimp only [St.put]
  refine K13 _ ?_
  refine aw_cond rfl (fun hc => ?_) (fun hc => ?_)
  ·have h1 : cmpI x y ≠ 0 := nd_t hc
   have hst := cmpL_step hx hy
   rw [decide_eq_false h1] at hst
   refine yS fun _ K14 => ?_
   refine yR ?_
   refine yM rfl rfl ?_
   refine yA rfl rfl ?_
   refine yN ?_
   dsimp only [St.put]
   refine K14 _ ?_
   refine aw_ret ?_
   refine ends_1 rfl (by constructor) zN zS ?_
   exact vi (hI.2.2.trans hst).symm
  have h1 : cmpI x y = 0 := nd_f hc
  have hst := cmpL_step hx hy
  rw [decide_eq_true h1] at hst
  refine aw_skip ?_
  refine K6 _ ?_
  refine yR ?_
  refine aops_n rfl (n_add rfl rfl rfl (by omega)) ?_
  refine yM rfl rfl ?_
  refine yN ?_
  dsimp only [St.put]
  exact ⟨k + 1, by omega, ⟨by omega, by omega, hI.2.2.trans hst⟩, ⟨⟨rfl, rfl⟩, zF, zB, zN, zX⟩⟩
 replace hc := of_decide_eq_false hc
 have hdr := hI.2.2
 rw [List.drop_of_length_le (show a.length ≤ k by omega)] at hdr
 refine aw_exit ?_
 refine K2 _ ?_
 refine yS fun _ K15 => ?_
 refine yS fun _ K16 => ?_
 refine yR ?_
 refine yM rfl rfl ?_
 refine aops_n rfl (n_len' rfl rfl (List.length_map _)) ?_
 refine yM rfl rfl ?_
 refine aops_n rfl (n_len' rfl rfl (List.length_map _)) ?_
 refine aops_n rfl (n_lss rfl rfl rfl) ?_
 refine yN ?_
 dsimp only [St.put]
 refine K16 _ ?_
 refine aw_cond rfl (fun hc => ?_) (fun hc => ?_)
 ·replace hc := of_decide_eq_true hc
  refine yS fun _ K17 => ?_
  refine yR ?_
  refine yA rfl rfl ?_
  refine yN ?_
  dsimp only [St.put]
  refine K17 _ ?_
  refine aw_ret ?_
  refine ends_1 rfl (by constructor) zN zS ?_
  exact vi (by
   rw [hdr]
   cases hb : b.drop k with
   | nil => have := congrArg List.length hb; simp at this; omega
   | cons z l => rfl)
 replace hc := of_decide_eq_false hc
 refine aw_skip ?_
 refine K15 _ ?_
 refine yS fun _ K18 => ?_
 refine yR ?_
 refine yA rfl rfl ?_
 refine yN ?_
 dsimp only [St.put]
 refine K18 _ ?_
 refine aw_ret ?_
 refine ends_1 rfl (by constructor) zN zS ?_
 exact vi (by rw [hdr, List.drop_of_length_le (show b.length ≤ k by omega)]; rfl)
end Go.Proofs.YtjjklfgpffgnfabGreatDoor
