/-
 Contracts: comparisons of numbers, of rows of numbers.
-/
import Derived.Test.YtjjklfgpffgnfaaGreatDoorAbSort
import Derived.Test.YtjjklfgpffgnfaaGreatDoorGrpA
namespace Go.AB
open Go Go.RowKit
open Go.AB.Enc (cells)
def ji (a b : Int) : Int := bif decide (a < b) then -1 else bif decide (b < a) then 1 else 0
def fp : List Int → List Int → Int
 | [], [] => 0
 | [], _ :: _ => -1
 | _ :: _, [] => 1
 | x :: a, y :: b => bif decide (ji x y = 0) then fp a b else ji x y
theorem ukk {a b : Int} : ji a b < 0 ↔ a < b := by
 unfold ji
 by_cases h : a < b
 ·simp [h]
 by_cases h2 : b < a <;> simp [h, h2]
theorem ukl {a b : Int} : 0 < ji a b ↔ b < a := by
 unfold ji
 by_cases h : a < b
 ·simp [h]; omega
 by_cases h2 : b < a <;> simp [h, h2]
theorem cmpI_zero {a b : Int} : ji a b = 0 ↔ a = b := by
 unfold ji
 by_cases h : a < b
 ·simp [h]; omega
 by_cases h2 : b < a <;> simp [h, h2] <;> omega
/-- words of the same length, one behind the other -/
def ltW : List Int → List Int → Prop
 | x :: a, y :: b => x < y ∨ x = y ∧ ltW a b
 | _, _ => False
theorem tv : ∀ {a b : List Int}, a.length = b.length → (fp a b < 0 ↔ ltW a b)
 | [], [], _ => by simp [fp, ltW]
 | x :: a, y :: b, h => by
  simp only [fp, ltW]
  by_cases h0 : ji x y = 0
  ·have := cmpI_zero.1 h0
   subst this
   rw [decide_eq_true h0, cond_true, tv (by simpa using h)]
   simp
  have := mt cmpI_zero.2 h0
  rw [decide_eq_false h0, cond_false, ukk]
  constructor
  ·exact .inl
  rintro (h1 | ⟨h1, _⟩)
  ·exact h1
  exact absurd h1 this
theorem xd : ∀ {a b : List Int}, a.length = b.length → (0 < fp a b ↔ ltW b a)
 | [], [], _ => by simp [fp, ltW]
 | x :: a, y :: b, h => by
  simp only [fp, ltW]
  by_cases h0 : ji x y = 0
  ·have := cmpI_zero.1 h0
   subst this
   rw [decide_eq_true h0, cond_true, xd (by simpa using h)]
   simp
  have := mt cmpI_zero.2 h0
  rw [decide_eq_false h0, cond_false, ukl]
  constructor
  ·exact .inl
  rintro (h1 | ⟨h1, _⟩)
  ·exact h1
  exact absurd h1.symm this
end Go.AB
namespace Go.Proofs.YtjjklfgpffgnfaaGreatDoor
set_option maxRecDepth 10000
open Go.RowKit Go.AB
open Go.AB.Enc (cells)
theorem ua9 (x : Int) : c8 Tryz.prog 119 [.v (.int .i64 x)] (.v (.bool false)) := by
 refine dr Tryz.func119 rfl (fun m => .v) fun G nx => ?_
 simp only [Tryz.ntmps119, List.length_cons, List.length_nil, Nat.reduceAdd, Nat.reduceSub]
 refine bi fun hlt => ?_
 dsimp only at hlt
 refine yS fun _ K1 => ?_
 refine yR ?_
 refine yA rfl rfl ?_
 refine yN ?_
 dsimp only [St.put]
 refine K1 _ ?_
 refine yS fun _ K2 => ?_
 refine yR ?_
 refine yM rfl rfl ?_
 refine yM rfl rfl ?_
 refine aa rfl (dt rfl rfl rfl) ?_
 refine yA rfl rfl ?_
 refine yN ?_
 dsimp only [St.put]
 refine K2 _ ?_
 refine am ?_
 refine bf rfl (by constructor) zN zS ?_
 exact vb (by simp)
theorem ukm (x y : Int) : c8 Tryz.prog 92 [.v (.int .i64 x), .v (.int .i64 y)] (.v (.int .i64 (ji x y))) := by
 refine dr Tryz.func92 rfl (fun m => .v) fun G nx => ?_
 simp only [Tryz.ntmps92, List.length_cons, List.length_nil, Nat.reduceAdd, Nat.reduceSub]
 refine bi fun hlt => ?_
 dsimp only at hlt
 refine yS fun _ K1 => ?_
 refine yR ?_
 refine yA rfl rfl ?_
 refine yN ?_
 dsimp only [St.put]
 refine K1 _ ?_
 refine yS fun _ K2 => ?_
 refine yR ?_
 refine yM rfl rfl ?_
 try dsimp only [St.put]
 refine ae rfl (bd rfl rfl rfl (ua9 _) ?_)
 refine yA rfl rfl ?_
 refine yN ?_
 dsimp only [St.put]
 refine K2 _ ?_
 refine yS fun _ K3 => ?_
 refine yR ?_
 refine yM rfl rfl ?_
 try dsimp only [St.put]
 refine ae rfl (bd rfl rfl rfl (ua9 _) ?_)
 refine yA rfl rfl ?_
 refine yN ?_
 dsimp only [St.put]
 refine K3 _ ?_
 refine yS fun _ K4 => ?_
 refine yS fun _ K5 => ?_
 refine yR ?_
 refine aa rfl (bt (c := false) (a8 rfl (by constructor)) (by rfl)) ?_
 refine yN ?_
 dsimp only [St.put]
 refine K5 _ ?_
 refine al rfl (fun h => by cases h) (fun _ => ?_)
 refine aw ?_
 refine K4 _ ?_
 refine yS fun _ K6 => ?_
 refine yS fun _ K7 => ?_
 refine yR ?_
 refine aa rfl (bt (c := false) (a8 rfl (by constructor)) (by rfl)) ?_
 refine yN ?_
 dsimp only [St.put]
 refine K7 _ ?_
 refine al rfl (fun h => by cases h) (fun _ => ?_)
 refine aw ?_
 refine K6 _ ?_
 refine yS fun _ K8 => ?_
 refine yS fun _ K9 => ?_
 refine yR ?_
 refine yM rfl rfl ?_
 refine yM rfl rfl ?_
 refine aa rfl (cr rfl rfl rfl) ?_
 refine yN ?_
 dsimp only [St.put]
 refine K9 _ ?_
 refine al rfl (fun hc => ?_) (fun hc => ?_)
 ·have h1 := of_decide_eq_true hc
  refine yS fun _ K10 => ?_
  refine yR ?_
  refine yA rfl rfl ?_
  refine yN ?_
  dsimp only [St.put]
  refine K10 _ ?_
  refine am ?_
  refine bf rfl (by constructor) zN zS ?_
  exact vi (by simp [ji, h1])
 have h1 := of_decide_eq_false hc
 refine aw ?_
 refine K8 _ ?_
 refine yS fun _ K11 => ?_
 refine yS fun _ K12 => ?_
 refine yR ?_
 refine yM rfl rfl ?_
 refine yM rfl rfl ?_
 refine aa rfl (gz rfl rfl rfl) ?_
 refine yN ?_
 dsimp only [St.put]
 refine K12 _ ?_
 refine al rfl (fun hc => ?_) (fun hc => ?_)
 ·have h2 := of_decide_eq_true hc
  refine yS fun _ K13 => ?_
  refine yR ?_
  refine yA rfl rfl ?_
  refine yN ?_
  dsimp only [St.put]
  refine K13 _ ?_
  refine am ?_
  refine bf rfl (by constructor) zN zS ?_
  exact vi (by have h2' : y < x := h2; simp [ji, h1, h2'])
 have h2 := of_decide_eq_false hc
 refine aw ?_
 refine K11 _ ?_
 refine yS fun _ K14 => ?_
 refine yR ?_
 refine yA rfl rfl ?_
 refine yN ?_
 dsimp only [St.put]
 refine K14 _ ?_
 refine am ?_
 refine bf rfl (by constructor) zN zS ?_
 exact vi (by have h2' : ¬ y < x := h2; simp [ji, h1, h2'])
theorem uce {a b : List Int} {k : Nat} {x y : Int} (hx : a[k]? = some x) (hy : b[k]? = some y) : fp (a.drop k) (b.drop k) = bif decide (ji x y = 0) then fp (a.drop (k + 1)) (b.drop (k + 1)) else ji x y := by
 obtain ⟨h1, h2⟩ := List.getElem?_eq_some_iff.1 hx
 obtain ⟨h3, h4⟩ := List.getElem?_eq_some_iff.1 hy
 rw [List.drop_eq_getElem_cons h1, List.drop_eq_getElem_cons h3, h2, h4]; rfl
theorem xc (a b : List Int) (ha : a.length ≤ 1000) (hb : b.length ≤ 1000) : c8 Tryz.prog 66 [lst a, lst b] (.v (.int .i64 (fp a b))) := by
 refine dr Tryz.func66 rfl (fun m => .v) fun G nx => ?_
 simp only [Tryz.ntmps66, List.length_cons, List.length_nil, Nat.reduceAdd, Nat.reduceSub]
 refine bi fun hlt => ?_
 dsimp only at hlt
 refine yS fun _ K1 => ?_
 refine yR ?_
 refine yA rfl rfl ?_
 refine yN ?_
 dsimp only [St.put]
 refine K1 _ ?_
 refine yS fun _ K2 => ?_
 refine yS fun _ K3 => ?_
 refine yR ?_
 refine yM rfl rfl ?_
 refine aa rfl (ck rfl rfl (List.length_map _)) ?_
 refine yM rfl rfl ?_
 refine yN ?_
 dsimp only [St.put]
 refine K3 _ ?_
 refine bn ?_
 refine eg 12 ?_
 simp only [dj, bq, Nat.reduceAdd, List.getD_cons_zero, List.getD_cons_succ, List.getD_nil, dw, Nat.reduceBEq, cond_true, cond_false]
 refine fg (G) zX ?_
 dsimp only
 refine fu (X := Nat) (fun k => k ≤ a.length ∧ k ≤ b.length ∧ fp a b = fp (a.drop k) (b.drop k)) (fun k => a.length - k) (fun k => [(5, .any), (6, .any), (7, .any), (8, .any), (11, .v (.int .i64 (k : Int)))]) (fun k G' => G') 0 rfl ?_ ?_ (fun _ _ h => h) ?_ ?_ ?_
 ·exact ⟨Nat.zero_le _, Nat.zero_le _, rfl⟩
 ·exact zF
 ·rintro k hI
  exact zL
 ·exact fun _ _ _ _ h => .inl h
 rintro k hI
 dsimp only at hI ⊢
 refine yS fun _ K4 => ?_
 refine yR ?_
 refine aa rfl (cr rfl rfl rfl) ?_
 refine yN ?_
 dsimp only [St.put]
 refine K4 _ ?_
 refine yS fun _ K5 => ?_
 refine al rfl (fun hc => ?_) (fun hc => ?_)
 ·replace hc := of_decide_eq_true hc
  obtain ⟨x, hx⟩ : ∃ x, a[k]? = some x := fj (by omega)
  refine aw ?_
  refine K5 _ ?_
  refine yS fun _ K6 => ?_
  refine bn ?_
  refine yS fun _ K7 => ?_
  refine yR ?_
  refine yM rfl rfl ?_
  refine aa rfl (b7 rfl rfl rfl rfl (cm (by assumption)) (Enc.len _)) ?_
  refine yL rfl rfl rfl ?_
  refine yA rfl rfl ?_
  refine yA rfl rfl ?_
  refine yN ?_
  dsimp only [St.put]
  refine K7 _ ?_
  refine yS fun _ K8 => ?_
  refine yS fun _ K9 => ?_
  refine yR ?_
  refine yM rfl rfl ?_
  refine yM rfl rfl ?_
  refine aa rfl (ck rfl rfl (List.length_map _)) ?_
  refine aa rfl (m9 rfl rfl rfl) ?_
  refine yN ?_
  dsimp only [St.put]
  refine K9 _ ?_
  refine al rfl (fun hc => ?_) (fun hc => ?_)
  ·replace hc := of_decide_eq_true hc
   refine yS fun _ K10 => ?_
   refine yR ?_
   refine yA rfl rfl ?_
   refine yN ?_
   dsimp only [St.put]
   refine K10 _ ?_
   refine am ?_
   refine bf rfl (by constructor) zN zS ?_
   exact vi (by
    rw [hI.2.2, List.drop_of_length_le (show b.length ≤ k by omega)]
    obtain ⟨h1, h2⟩ := List.getElem?_eq_some_iff.1 hx
    rw [List.drop_eq_getElem_cons h1]; rfl)
  replace hc := of_decide_eq_false hc
  obtain ⟨y, hy⟩ : ∃ x, b[k]? = some x := fj (by omega)
  refine aw ?_
  refine K8 _ ?_
  refine yS fun _ K11 => ?_
  refine yR ?_
  refine yM rfl rfl ?_
  refine yM rfl rfl ?_
  refine aa rfl (b7 rfl rfl rfl rfl (cm (by assumption)) (Enc.len _)) ?_
  refine yL rfl rfl rfl ?_
  refine yA rfl rfl ?_
  refine yN ?_
  dsimp only [St.put]
  refine K11 _ ?_
  refine yS fun _ K12 => ?_
  refine yR ?_
  refine yM rfl rfl ?_
  refine yM rfl rfl ?_
  try dsimp only [St.put]
  refine ae rfl (bd rfl rfl rfl (ukm x y) ?_)
  refine yA rfl rfl ?_
  refine yN ?_
  dsimp only [St.put]
  refine K12 _ ?_
  refine yS fun _ K13 => ?_
  refine yR ?_
  refine yM rfl rfl ?_
  refine aa rfl (dt rfl rfl rfl) ?_
  refine yN ?_
  dsimp only [St.put]
  refine K13 _ ?_
  refine al rfl (fun hc => ?_) (fun hc => ?_)
  ·have h1 : ji x y ≠ 0 := ny hc
   have hst := uce hx hy
   rw [decide_eq_false h1] at hst
   refine yS fun _ K14 => ?_
   refine yR ?_
   refine yM rfl rfl ?_
   refine yA rfl rfl ?_
   refine yN ?_
   dsimp only [St.put]
   refine K14 _ ?_
   refine am ?_
   refine bf rfl (by constructor) zN zS ?_
   exact vi (hI.2.2.trans hst).symm
  have h1 : ji x y = 0 := li hc
  have hst := uce hx hy
  rw [decide_eq_true h1] at hst
  refine aw ?_
  refine K6 _ ?_
  refine yR ?_
  refine aa rfl (bw rfl rfl rfl (by omega)) ?_
  refine yM rfl rfl ?_
  refine yN ?_
  dsimp only [St.put]
  exact ⟨k + 1, by omega, ⟨by omega, by omega, hI.2.2.trans hst⟩, ⟨⟨rfl, rfl⟩, zF, zB, zN, zX⟩⟩
 replace hc := of_decide_eq_false hc
 have hdr := hI.2.2
 rw [List.drop_of_length_le (show a.length ≤ k by omega)] at hdr
 refine ey ?_
 refine K2 _ ?_
 refine yS fun _ K15 => ?_
 refine yS fun _ K16 => ?_
 refine yR ?_
 refine yM rfl rfl ?_
 refine aa rfl (ck rfl rfl (List.length_map _)) ?_
 refine yM rfl rfl ?_
 refine aa rfl (ck rfl rfl (List.length_map _)) ?_
 refine aa rfl (cr rfl rfl rfl) ?_
 refine yN ?_
 dsimp only [St.put]
 refine K16 _ ?_
 refine al rfl (fun hc => ?_) (fun hc => ?_)
 ·replace hc := of_decide_eq_true hc
  refine yS fun _ K17 => ?_
  refine yR ?_
  refine yA rfl rfl ?_
  refine yN ?_
  dsimp only [St.put]
  refine K17 _ ?_
  refine am ?_
  refine bf rfl (by constructor) zN zS ?_
  exact vi (by
   rw [hdr]
   cases hb : b.drop k with
   | nil => have := congrArg List.length hb; simp at this; omega
   | cons z l => rfl)
 replace hc := of_decide_eq_false hc
 refine aw ?_
 refine K15 _ ?_
 refine yS fun _ K18 => ?_
 refine yR ?_
 refine yA rfl rfl ?_
 refine yN ?_
 dsimp only [St.put]
 refine K18 _ ?_
 refine am ?_
 refine bf rfl (by constructor) zN zS ?_
 exact vi (by rw [hdr, List.drop_of_length_le (show b.length ≤ k by omega)]; rfl)
end Go.Proofs.YtjjklfgpffgnfaaGreatDoor
