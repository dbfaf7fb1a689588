/-
 Contracts: comparisons of numbers, of rows of numbers.
-/
import Derived.Test.YtejhjijbgceklaaGreatDoorAbSort
import Derived.Test.YtejhjijbgceklaaGreatDoorGrpA
namespace Go.AB
open Go Go.RowKit
open Go.AB.Enc (cells)
def cmpI (a b : Int) : Int := bif decide (a < b) then -1 else bif decide (b < a) then 1 else 0
/-- words of the same length, one behind the other -/
def ltW : List Int → List Int → Prop
 | x :: a, y :: b => x < y ∨ x = y ∧ ltW a b
 | _, _ => False
end Go.AB
namespace Go.Proofs.YtejhjijbgceklaaGreatDoor
set_option maxRecDepth 10000
open Go.RowKit Go.AB
open Go.AB.Enc (cells)
theorem isNaN_pure (x : Int) : Pure Tryz.prog 96 [.v (.int .i64 x)] (.v (.bool false)) := by
 refine pure_of_body Tryz.func96 rfl (fun m => .v) fun G nx => ?_
 simp only [Tryz.ntmps96, List.length_cons, List.length_nil, Nat.reduceAdd, Nat.reduceSub]
 refine aw_lt fun hlt => ?_
 dsimp only at hlt
 refine yS fun _ K1 => ?_
 refine yR ?_
 refine yA rfl rfl ?_
 refine yN ?_
 dsimp only [St.put]
 refine K1 _ ?_
 refine yS fun _ K2 => ?_
 refine yR ?_
 refine yM rfl rfl ?_
 refine yM rfl rfl ?_
 refine aops_n rfl (n_neq rfl rfl rfl) ?_
 refine yA rfl rfl ?_
 refine yN ?_
 dsimp only [St.put]
 refine K2 _ ?_
 refine aw_ret ?_
 refine ends_1 rfl (by constructor) zN zS ?_
 exact vb (by simp)
theorem cmpCompare_pure (x y : Int) : Pure Tryz.prog 90 [.v (.int .i64 x), .v (.int .i64 y)] (.v (.int .i64 (cmpI x y))) := by
 refine pure_of_body Tryz.func90 rfl (fun m => .v) fun G nx => ?_
 simp only [Tryz.ntmps90, List.length_cons, List.length_nil, Nat.reduceAdd, Nat.reduceSub]
 refine aw_lt fun hlt => ?_
 dsimp only at hlt
 refine yS fun _ K1 => ?_
 refine yR ?_
 refine yA rfl rfl ?_
 refine yN ?_
 dsimp only [St.put]
 refine K1 _ ?_
 refine yS fun _ K2 => ?_
 refine yR ?_
 refine yM rfl rfl ?_
 try dsimp only [St.put]
 refine aops_e rfl (e_call_pure rfl rfl rfl (isNaN_pure _) ?_)
 refine yA rfl rfl ?_
 refine yN ?_
 dsimp only [St.put]
 refine K2 _ ?_
 refine yS fun _ K3 => ?_
 refine yR ?_
 refine yM rfl rfl ?_
 try dsimp only [St.put]
 refine aops_e rfl (e_call_pure rfl rfl rfl (isNaN_pure _) ?_)
 refine yA rfl rfl ?_
 refine yN ?_
 dsimp only [St.put]
 refine K3 _ ?_
 refine yS fun _ K4 => ?_
 refine yS fun _ K5 => ?_
 refine yR ?_
 refine aops_n rfl (n_bool (c := false) (n_mv rfl (by constructor)) (by rfl)) ?_
 refine yN ?_
 dsimp only [St.put]
 refine K5 _ ?_
 refine aw_cond rfl (fun h => by cases h) (fun _ => ?_)
 refine aw_skip ?_
 refine K4 _ ?_
 refine yS fun _ K6 => ?_
 refine yS fun _ K7 => ?_
 refine yR ?_
 refine aops_n rfl (n_bool (c := false) (n_mv rfl (by constructor)) (by rfl)) ?_
 refine yN ?_
 dsimp only [St.put]
 refine K7 _ ?_
 refine aw_cond rfl (fun h => by cases h) (fun _ => ?_)
 refine aw_skip ?_
 refine K6 _ ?_
 refine yS fun _ K8 => ?_
 refine yS fun _ K9 => ?_
 refine yR ?_
 refine yM rfl rfl ?_
 refine yM rfl rfl ?_
 refine aops_n rfl (n_lss rfl rfl rfl) ?_
 refine yN ?_
 dsimp only [St.put]
 refine K9 _ ?_
 refine aw_cond rfl (fun hc => ?_) (fun hc => ?_)
 ·have h1 := of_decide_eq_true hc
  refine yS fun _ K10 => ?_
  refine yR ?_
  refine yA rfl rfl ?_
  refine yN ?_
  dsimp only [St.put]
  refine K10 _ ?_
  refine aw_ret ?_
  refine ends_1 rfl (by constructor) zN zS ?_
  exact vi (by simp [cmpI, h1])
 have h1 := of_decide_eq_false hc
 refine aw_skip ?_
 refine K8 _ ?_
 refine yS fun _ K11 => ?_
 refine yS fun _ K12 => ?_
 refine yR ?_
 refine yM rfl rfl ?_
 refine yM rfl rfl ?_
 refine aops_n rfl (n_gtr rfl rfl rfl) ?_
 refine yN ?_
 dsimp only [St.put]
 refine K12 _ ?_
 refine aw_cond rfl (fun hc => ?_) (fun hc => ?_)
 ·have h2 := of_decide_eq_true hc
  refine yS fun _ K13 => ?_
  refine yR ?_
  refine yA rfl rfl ?_
  refine yN ?_
  dsimp only [St.put]
  refine K13 _ ?_
  refine aw_ret ?_
  refine ends_1 rfl (by constructor) zN zS ?_
  exact vi (by have h2' : y < x := h2; simp [cmpI, h1, h2'])
 have h2 := of_decide_eq_false hc
 refine aw_skip ?_
 refine K11 _ ?_
 refine yS fun _ K14 => ?_
 refine yR ?_
 refine yA rfl rfl ?_
 refine yN ?_
 dsimp only [St.put]
 refine K14 _ ?_
 refine aw_ret ?_
 refine ends_1 rfl (by constructor) zN zS ?_
 exact vi (by have h2' : ¬ y < x := h2; simp [cmpI, h1, h2'])
end Go.Proofs.YtejhjijbgceklaaGreatDoor
