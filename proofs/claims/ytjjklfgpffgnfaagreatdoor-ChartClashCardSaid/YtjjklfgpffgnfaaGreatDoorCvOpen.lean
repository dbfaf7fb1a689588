/-
 Contracts of the program's functions of charts: what is valid; books.
-/
import Derived.Test.YtjjklfgpffgnfaaGreatDoorCuFuncs
import Derived.Test.YtjjklfgpffgnfaaGreatDoorLcCheck
namespace Go.AB
open Go Go.RowKit
open Go.AB.Enc (cells)
open Go.PB (bv ai PlaceD)
/-- the cells of an open book -/
def gi (t : ai) (e : av) (n m : Nat) : List C := [.v (.int .i64 e.id), lst e.ss, lst t, .map n, .map m]
theorem f9 (f : L2 → Option L2) (n : Nat) : ∀ x c, az f x = some c → C.low n c := by
 intro x c h
 unfold az at h
 cases hf : f x with
 | none => rw [hf] at h; cases h
 | some v =>
  rw [hf] at h
  cases h
  exact .agg (ar .v (ar .v bl))
theorem n8 (f : L2 → Option L2) (p : L2) : ∃ v : L2, (az f p).getD (iw (.agg #[.int .i64 0, .int .i64 0])) = .agg [.v (.int .i64 v.1), .v (.int .i64 v.2)] := by
 unfold az
 cases f p with
 | none => exact ⟨(0, 0), rfl⟩
 | some v => exact ⟨v, rfl⟩
theorem ueh {ss : List StretchD} {k i : Nat} {s : StretchD} (hs : ss[k]? = some s) (hi : s.tt = s.fr + i) : ss.take k ++ [fk s i] = ss.take (k + 1) := by
 rw [ukb hi, List.take_add_one, hs]; rfl
end Go.AB
namespace Go.Proofs.YtjjklfgpffgnfaaGreatDoor
set_option maxRecDepth 10000
open Go.RowKit Go.AB
open Go.AB.Enc (cells)
open Go.PB (bv ai PlaceD cy c6 cz)
theorem kr (t : ai) (e : av) (hl : e.ss.length ≤ 20) : da cv Tryz.prog 52 [b8 t, val e] (.v (.int .i64 (cw t e))) := by
 refine fy Tryz.func52 rfl (fun m => .v) fun G nx hF => ?_
 simp only [Tryz.ntmps52, List.length_cons, List.length_nil, Nat.reduceAdd, Nat.reduceSub]
 refine bi fun hlt => ?_
 dsimp only at hlt
 have hnx := hlt 0 _ hF
 refine yS fun _ K1 => ?_
 refine yR ?_
 try dsimp only [St.put]
 refine yB rfl rfl rfl ?_
 try dsimp only [St.put]
 refine yB rfl rfl rfl ?_
 refine yA rfl rfl ?_
 refine yN ?_
 dsimp only [St.put]
 refine K1 _ ?_
 refine yS fun _ K2 => ?_
 refine yS fun _ K3 => ?_
 refine yR ?_
 try dsimp only [St.put]
 refine af rfl (aq rfl rfl rfl) ?_
 try dsimp only [St.put]
 refine ae rfl (bd rfl rfl rfl (uaw t) ?_)
 refine yA rfl rfl ?_
 refine yN ?_
 dsimp only [St.put]
 refine K3 _ ?_
 refine yS fun _ K4 => ?_
 refine yR ?_
 refine yM rfl rfl ?_
 refine aa rfl (dt rfl rfl rfl) ?_
 refine yN ?_
 dsimp only [St.put]
 refine K4 _ ?_
 refine al rfl (fun hc => ?_) (fun hc => ?_)
 ·have htx : ct t = false := by
   cases h : ct t
   ·rfl
   simp [g5, h] at hc
  refine yS fun _ K5 => ?_
  refine yR ?_
  refine yM rfl rfl ?_
  refine yA rfl rfl ?_
  refine yN ?_
  dsimp only [St.put]
  refine K5 _ ?_
  refine am ?_
  refine bf rfl (by constructor) zN zS ?_
  exact vi (by simp [cw, g5, htx])
 have htx : ct t = true := by
  cases h : ct t
  ·simp [g5, h] at hc
  rfl
 refine aw ?_
 refine K2 _ ?_
 refine yS fun _ K6 => ?_
 refine yR ?_
 refine yF rfl rfl rfl rfl ?_
 refine yL rfl rfl rfl ?_
 refine aa rfl (m8 rfl rfl) ?_
 try dsimp only [St.put]
 refine ae rfl (eb rfl rfl rfl (ugc e.ss (fun s => !g9 t s) _ _ hl fun s _ => ulp t s htx) zG ?_)
 refine yA rfl rfl ?_
 refine yN ?_
 dsimp only [St.put]
 have hfl := List.length_filter_le (fun s => !g9 t s) e.ss
 refine K6 _ ?_
 refine yS fun _ K7 => ?_
 refine eg 16 ?_
 simp only [dj, bq, Nat.reduceAdd, List.getD_cons_zero, List.getD_cons_succ, List.getD_nil, dw, Nat.reduceBEq, cond_true, cond_false]
 refine mi (X := Bool) (fun b => b = !i5 t e) (fun b => [(31, .v (.bool b))]) (fun b G' => G') rfl ?_ (fun _ _ _ _ h => .inl h) ?_ ?_
 ·rintro b hI
  exact zL
 ·refine yR ?_
  refine yF rfl rfl rfl rfl ?_
  refine yL rfl rfl rfl ?_
  try dsimp only [St.put]
  refine ae rfl (c9 rfl rfl rfl (by decide) (by decide) zR (by decide) ?_)
  try dsimp only [St.put]
  refine ae rfl (bd rfl rfl rfl (nq _ _ [e.id]) ?_)
  refine aa rfl (dn rfl rfl) ?_
  refine yM rfl rfl ?_
  refine e7 (fun hs => ?_) (fun hs => ?_)
  ·have h5 : inB e.id 0 9999 = false := by rw [iz] at hs; simpa using hs
   refine yK rfl ?_
   refine yK rfl ?_
   refine yK rfl ?_
   refine yK rfl ?_
   refine aa rfl (bg rfl rfl (by constructor)) ?_
   refine yM rfl rfl ?_
   refine yK rfl ?_
   refine yK rfl ?_
   refine yK rfl ?_
   refine aa rfl (bg rfl rfl (by constructor)) ?_
   refine yN ?_
   dsimp only [St.put]
   refine ⟨_, ?_, ⟨⟨rfl, rfl⟩, zF, zB, zN, zX⟩⟩
   rw [w6]
   (rw [h5]; rfl)
  have h5 : inB e.id 0 9999 = true := by rw [iz] at hs; simpa using hs
  refine yF rfl rfl rfl rfl ?_
  refine yL rfl rfl rfl ?_
  refine aa rfl (ck rfl rfl (List.length_map _)) ?_
  refine aa rfl (gz rfl rfl rfl) ?_
  refine aa rfl (cd rfl rfl (by constructor)) ?_
  refine yM rfl rfl ?_
  refine e7 (fun hs => ?_) (fun hs => ?_)
  ·have h11 : decide (e.ss.length ≤ 12) = false := by have := of_decide_eq_true hs; rw [decide_eq_false_iff_not]; omega
   refine yK rfl ?_
   refine yK rfl ?_
   refine yK rfl ?_
   refine aa rfl (bg rfl rfl (by constructor)) ?_
   refine yN ?_
   dsimp only [St.put]
   refine ⟨_, ?_, ⟨⟨rfl, rfl⟩, zF, zB, zN, zX⟩⟩
   rw [w6]
   (rw [h5, h11]; rfl)
  have h11 : decide (e.ss.length ≤ 12) = true := by have := of_decide_eq_false hs; rw [decide_eq_true_eq]; omega
  refine yM rfl rfl ?_
  refine aa rfl (ck rfl rfl (List.length_map _)) ?_
  refine aa rfl (gz rfl rfl rfl) ?_
  refine aa rfl (cd rfl rfl (by constructor)) ?_
  refine yN ?_
  dsimp only [St.put]
  refine ⟨_, ?_, ⟨⟨rfl, rfl⟩, zF, zB, zN, zX⟩⟩
  rw [w6]
  (rw [h5, h11]; simp only [Bool.true_and]; rw [← decide_not, decide_eq_decide]; omega)
 rintro b hst
 dsimp only at hst ⊢
 refine al rfl (fun hc => ?_) (fun hc => ?_)
 ·have he : i5 t e = false := by rw [hc] at hst; simpa using hst.symm
  refine yS fun _ K9 => ?_
  refine yR ?_
  refine yA rfl rfl ?_
  refine yN ?_
  dsimp only [St.put]
  refine K9 _ ?_
  refine am ?_
  refine bf rfl (by constructor) zN zS ?_
  exact vi (by simp [cw, htx, he])
 have he : i5 t e = true := by rw [hc] at hst; simpa using hst.symm
 refine aw ?_
 refine K7 _ ?_
 refine yS fun _ K10 => ?_
 refine yR ?_
 refine yA rfl rfl ?_
 refine yN ?_
 dsimp only [St.put]
 refine K10 _ ?_
 refine am ?_
 refine bf rfl (by constructor) zN zS ?_
 exact vi (by simp [cw, htx, he])
theorem uhd (a b : StretchD) (ha : SOk a) (hb : SOk b) : c8 Tryz.prog 84 [val a, val b] (.v (.bool (i1 a b))) := by
 refine dr Tryz.func84 rfl (fun m => .v) fun G nx => ?_
 simp only [Tryz.ntmps84, List.length_cons, List.length_nil, Nat.reduceAdd, Nat.reduceSub]
 refine bi fun hlt => ?_
 dsimp only at hlt
 rw [← uhe ha hb]
 obtain ⟨a1, a2, a3, a4, a5, a6⟩ := ha
 obtain ⟨b1, b2, b3, b4, b5, b6⟩ := hb
 refine yS fun _ K1 => ?_
 refine yR ?_
 try dsimp only [St.put]
 refine yB rfl rfl rfl ?_
 try dsimp only [St.put]
 refine yB rfl rfl rfl ?_
 refine yA rfl rfl ?_
 refine yN ?_
 dsimp only [St.put]
 refine K1 _ ?_
 refine eg 6 ?_
 simp only [dj, bq, Nat.reduceAdd, List.getD_cons_zero, List.getD_cons_succ, List.getD_nil, dw, Nat.reduceBEq, cond_true, cond_false]
 refine mi (X := Bool) (fun b1 => b1 = (decide (a.ch = b.ch) && decide (max a.fr b.fr < min a.tt b.tt))) (fun b1 => [(5, .v (.bool b1))]) (fun b1 G' => G') rfl ?_ (fun _ _ _ _ h => .inl h) ?_ ?_
 ·rintro b1 hI
  exact zL
 ·refine yR ?_
  refine yF rfl rfl rfl rfl ?_
  refine yL rfl rfl rfl ?_
  refine yF rfl rfl rfl rfl ?_
  refine yL rfl rfl rfl ?_
  refine aa rfl (g3 rfl rfl rfl) ?_
  refine yM rfl rfl ?_
  refine e7 (fun hs => ?_) (fun hs => ?_)
  ·have h5 := of_decide_eq_true hs
   refine yF rfl rfl rfl rfl ?_
   refine yL rfl rfl rfl ?_
   refine yF rfl rfl rfl rfl ?_
   refine yL rfl rfl rfl ?_
   refine aa rfl (sw rfl rfl rfl rfl) ?_
   refine yF rfl rfl rfl rfl ?_
   refine yL rfl rfl rfl ?_
   refine yF rfl rfl rfl rfl ?_
   refine yL rfl rfl rfl ?_
   refine aa rfl (vj rfl rfl rfl rfl) ?_
   refine aa rfl (cr rfl rfl rfl) ?_
   refine aa rfl (bg rfl rfl (by constructor)) ?_
   refine yA rfl rfl ?_
   refine yN ?_
   dsimp only [St.put]
   refine ⟨_, ?_, ⟨⟨rfl, rfl⟩, zF, zB, zN, zX⟩⟩
   simp [h5]
  have h5 := of_decide_eq_false hs
  refine yK rfl ?_
  refine yK rfl ?_
  refine yK rfl ?_
  refine yK rfl ?_
  refine yK rfl ?_
  refine yK rfl ?_
  refine yK rfl ?_
  refine yK rfl ?_
  refine yK rfl ?_
  refine yK rfl ?_
  refine yK rfl ?_
  refine aa rfl (cd rfl rfl (by constructor)) ?_
  refine yA rfl rfl ?_
  refine yN ?_
  dsimp only [St.put]
  refine ⟨_, ?_, ⟨⟨rfl, rfl⟩, zF, zB, zN, zX⟩⟩
  simp [h5]
 rintro b1 hst
 dsimp only at hst ⊢
 refine yS fun _ K3 => ?_
 refine yR ?_
 refine yM rfl rfl ?_
 refine yM rfl rfl ?_
 refine e7 (fun hs => ?_) (fun hs => ?_)
 ·have h1 := hs
  refine yK rfl ?_
  refine yK rfl ?_
  refine yK rfl ?_
  refine yK rfl ?_
  refine yK rfl ?_
  refine yK rfl ?_
  refine yK rfl ?_
  refine yK rfl ?_
  refine yK rfl ?_
  refine yK rfl ?_
  refine yK rfl ?_
  refine yK rfl ?_
  refine yK rfl ?_
  refine yK rfl ?_
  refine yK rfl ?_
  refine yK rfl ?_
  refine yK rfl ?_
  refine yK rfl ?_
  refine yK rfl ?_
  refine yK rfl ?_
  refine yK rfl ?_
  refine yK rfl ?_
  refine yK rfl ?_
  refine yK rfl ?_
  refine yK rfl ?_
  refine yK rfl ?_
  refine yK rfl ?_
  refine yK rfl ?_
  refine yK rfl ?_
  refine yK rfl ?_
  refine aa rfl (bg rfl rfl (by constructor)) ?_
  refine yA rfl rfl ?_
  refine yN ?_
  dsimp only [St.put]
  refine K3 _ ?_
  refine am ?_
  refine bf rfl (by constructor) zN zS ?_
  first
  | (refine vb ?_; rw [h1] at hst; simp [mb, ← hst]; done)
  | (refine vb ?_; rw [h1] at hst; simp [mb, ← hst, h7]; done)
  | (refine vb ?_; rw [h1] at hst; simp only [mb, ← hst, Bool.false_or]; simp [h7])
 have h1 := hs
 refine yF rfl rfl rfl rfl ?_
 refine yL rfl rfl rfl ?_
 refine yF rfl rfl rfl rfl ?_
 refine yL rfl rfl rfl ?_
 refine aa rfl (g3 rfl rfl rfl) ?_
 refine yM rfl rfl ?_
 refine e7 (fun hs => ?_) (fun hs => ?_)
 ·have h7 := of_decide_eq_true hs
  refine yF rfl rfl rfl rfl ?_
  refine yL rfl rfl rfl ?_
  refine yF rfl rfl rfl rfl ?_
  refine yL rfl rfl rfl ?_
  refine aa rfl (sw rfl rfl rfl rfl) ?_
  refine yF rfl rfl rfl rfl ?_
  refine yL rfl rfl rfl ?_
  refine yF rfl rfl rfl rfl ?_
  refine yL rfl rfl rfl ?_
  refine aa rfl (bw rfl rfl rfl (by omega)) ?_
  refine yF rfl rfl rfl rfl ?_
  refine yL rfl rfl rfl ?_
  refine aa rfl (ip rfl rfl rfl (by omega)) ?_
  refine yF rfl rfl rfl rfl ?_
  refine yL rfl rfl rfl ?_
  refine yF rfl rfl rfl rfl ?_
  refine yL rfl rfl rfl ?_
  refine aa rfl (bw rfl rfl rfl (by omega)) ?_
  refine yF rfl rfl rfl rfl ?_
  refine yL rfl rfl rfl ?_
  refine aa rfl (ip rfl rfl rfl (by omega)) ?_
  refine aa rfl (vj rfl rfl rfl rfl) ?_
  refine aa rfl (cr rfl rfl rfl) ?_
  refine aa rfl (bg rfl rfl (by constructor)) ?_
  refine aa rfl (cd rfl rfl (by constructor)) ?_
  refine yA rfl rfl ?_
  refine yN ?_
  dsimp only [St.put]
  refine K3 _ ?_
  refine am ?_
  refine bf rfl (by constructor) zN zS ?_
  first
  | (refine vb ?_; rw [h1] at hst; simp [mb, ← hst]; done)
  | (refine vb ?_; rw [h1] at hst; simp [mb, ← hst, h7]; done)
  | (refine vb ?_; rw [h1] at hst; simp only [mb, ← hst, Bool.false_or]; simp [h7])
 have h7 := of_decide_eq_false hs
 refine yK rfl ?_
 refine yK rfl ?_
 refine yK rfl ?_
 refine yK rfl ?_
 refine yK rfl ?_
 refine yK rfl ?_
 refine yK rfl ?_
 refine yK rfl ?_
 refine yK rfl ?_
 refine yK rfl ?_
 refine yK rfl ?_
 refine yK rfl ?_
 refine yK rfl ?_
 refine yK rfl ?_
 refine yK rfl ?_
 refine yK rfl ?_
 refine yK rfl ?_
 refine yK rfl ?_
 refine yK rfl ?_
 refine yK rfl ?_
 refine yK rfl ?_
 refine yK rfl ?_
 refine yK rfl ?_
 refine aa rfl (cd rfl rfl (by constructor)) ?_
 refine aa rfl (cd rfl rfl (by constructor)) ?_
 refine yA rfl rfl ?_
 refine yN ?_
 dsimp only [St.put]
 refine K3 _ ?_
 refine am ?_
 refine bf rfl (by constructor) zN zS ?_
 first
 | (refine vb ?_; rw [h1] at hst; simp [mb, ← hst]; done)
 | (refine vb ?_; rw [h1] at hst; simp [mb, ← hst, h7]; done)
 | (refine vb ?_; rw [h1] at hst; simp only [mb, ← hst, Bool.false_or]; simp [h7])
set_option maxHeartbeats 1000000 in
/-- what an opened book leaves: its maps, and how it clashes -/
theorem m6 (t : ai) (e : av) (hl : e.ss.length ≤ 12) (he : ∀ s ∈ e.ss, SOk s) (G : Nat → Option GObj) (nx : Nat) :
  PC Tryz.prog 53 [b8 t, val e] G nx fun r G' nx' => ∃ y : Nat × Nat, r = .tup [.elem (gi t e nx (nx + 1)), .v (.int .i64 (ma e.ss.length (ef e.ss))), .v (.int .i64 (uh (ef e.ss))), .v (.bool (ef e.ss).isSome)] ∧ G' = (ak (ak G nx (bo Tryz.prog 115 y.1 (az ((ax e.ss))))) (nx + 1) (bo Tryz.prog 115 y.2 (az ((cn e.ss))))) ∧ nx' = nx + 1 + 1 := by
 refine pu (fun (y : Nat × Nat) => (ak (ak G nx (bo Tryz.prog 115 y.1 (az ((ax e.ss))))) (nx + 1) (bo Tryz.prog 115 y.2 (az ((cn e.ss)))))) (nx + 1 + 1) Tryz.func53 rfl (.tup (ar (.elem (ar .v (ar (bh _ _) (ar (bh _ _) (ar (.map (show nx < nx + 1 + 1 by omega)) (ar (.map (show nx + 1 < nx + 1 + 1 by omega)) bl)))))) (ar .v (ar .v (ar .v bl))))) zN (fun hlt y => (by (repeat' (refine gt ?_ (by (try dsimp only); omega) ?_)); all_goals (first | exact ie zS | (repeat' (first | exact trivial | refine ⟨?_, ?_⟩ | exact .v | exact .any | refine .elem ?_ | exact bh _ _ | exact e9 _ _ | exact dq _ _ | exact ff _ (by (try dsimp only); omega) | exact .box (by (try dsimp only); omega) | exact ed | exact bl | exact gg (f9 _ _) | refine fa ?_ ?_ | exact .arr (by (try dsimp only); omega) | exact .own (by (try dsimp only); omega) | exact .map (by (try dsimp only); omega) | exact ez _ | refine ar ?_ ?_ | exact bh _ _))))) ?_
 simp only [Tryz.ntmps53, List.length_cons, List.length_nil, Nat.reduceAdd, Nat.reduceSub]
 refine bi fun hlt => ?_
 dsimp only at hlt
 refine yS fun _ K1 => ?_
 refine yR ?_
 try dsimp only [St.put]
 refine yB rfl rfl rfl ?_
 try dsimp only [St.put]
 refine yB rfl rfl rfl ?_
 refine yA rfl rfl ?_
 refine yA rfl rfl ?_
 refine yA rfl rfl ?_
 refine yA rfl rfl ?_
 refine yN ?_
 dsimp only [St.put]
 refine K1 _ ?_
 refine uc3 ?_
 refine yS fun _ K2 => ?_
 refine yR ?_
 refine yE rfl rfl rfl ?_
 try dsimp only [St.put]
 refine af rfl (aq rfl rfl rfl) ?_
 try dsimp only [St.put]
 refine ae rfl (xa (α := Int × Int) rfl ?_)
 try dsimp only [St.put]
 refine ae rfl (xa (α := Int × Int) rfl ?_)
 refine aa rfl (du rfl rfl) ?_
 try dsimp only [St.put]
 refine ae rfl (o9 (cs := gi t e nx (nx + 1)) rfl rfl (by simp [gi]) ?_)
 refine yA rfl rfl ?_
 refine yN ?_
 dsimp only [St.put]
 refine K2 _ ?_
 refine yS fun _ K3 => ?_
 refine yR ?_
 refine yF rfl rfl rfl rfl ?_
 refine yL rfl rfl rfl ?_
 refine aa rfl (ck rfl rfl (List.length_map _)) ?_
 refine yA rfl rfl ?_
 refine yN ?_
 dsimp only [St.put]
 refine K3 _ ?_
 refine yS fun _ K4 => ?_
 refine uc4 ?_
 refine K4 _ ?_
 refine yS fun _ K5 => ?_
 refine yS fun _ K6 => ?_
 refine yR ?_
 refine yF rfl rfl rfl rfl ?_
 refine yL rfl rfl rfl ?_
 refine aa rfl (ck rfl rfl (List.length_map _)) ?_
 refine yM rfl rfl ?_
 refine yN ?_
 dsimp only [St.put]
 refine K6 _ ?_
 refine bn ?_
 refine eg 32 ?_
 simp only [dj, bq, Nat.reduceAdd, List.getD_cons_zero, List.getD_cons_succ, List.getD_nil, dw, Nat.reduceBEq, cond_true, cond_false]
 refine fg ((ak (ak G nx (bo Tryz.prog 115 0 (az ((ax (e.ss.take 0)))))) (nx + 1) (bo Tryz.prog 115 0 (az ((cn (e.ss.take 0))))))) zX ?_
 dsimp only
 refine fu (X := Nat × Option (Nat × Nat) × Nat × Nat) (fun x => x.1 ≤ e.ss.length ∧ lf (e.ss.take x.1) x.2.1) (fun x => e.ss.length - x.1) (fun x => [(5, .v (.int .i64 (ma e.ss.length x.2.1 : Int))), (6, .v (.int .i64 (uh x.2.1 : Int))), (7, .v (.bool x.2.1.isSome)), (8, .any), (9, .any), (10, .any), (11, .any), (12, .any), (13, .any), (14, .any), (15, .any), (16, .any), (17, .any), (18, .any), (31, .v (.int .i64 (x.1 : Int)))]) (fun x G' => (ak (ak G nx (bo Tryz.prog 115 x.2.2.1 (az ((ax (e.ss.take x.1)))))) (nx + 1) (bo Tryz.prog 115 x.2.2.2 (az ((cn (e.ss.take x.1))))))) (0, none, 0, 0) rfl ?_ ?_ ?_ ?_ ?_ ?_
 ·exact ⟨Nat.zero_le _, ujc _⟩
 ·exact zF
 ·exact zX
 ·rintro ⟨k, oc, V, W⟩ hI
  exact (by (try dsimp only); repeat' (first | exact trivial | refine ⟨?_, ?_⟩ | exact .v | exact .any | refine .elem ?_ | exact bh _ _ | exact e9 _ _ | exact dq _ _ | exact ff _ (by (try dsimp only); omega) | exact .box (by (try dsimp only); omega) | exact ed | exact bl | exact gg (f9 _ _) | refine fa ?_ ?_ | exact .arr (by (try dsimp only); omega) | exact .own (by (try dsimp only); omega) | exact .map (by (try dsimp only); omega) | exact ez _ | refine ar ?_ ?_ | exact bh _ _))
 ·rintro ⟨k, oc, V, W⟩ hI
  exact (by (repeat' (refine gt ?_ (by (try dsimp only); omega) ?_)); all_goals (first | exact ie zS | (repeat' (first | exact trivial | refine ⟨?_, ?_⟩ | exact .v | exact .any | refine .elem ?_ | exact bh _ _ | exact e9 _ _ | exact dq _ _ | exact ff _ (by (try dsimp only); omega) | exact .box (by (try dsimp only); omega) | exact ed | exact bl | exact gg (f9 _ _) | refine fa ?_ ?_ | exact .arr (by (try dsimp only); omega) | exact .own (by (try dsimp only); omega) | exact .map (by (try dsimp only); omega) | exact ez _ | refine ar ?_ ?_ | exact bh _ _))))
 rintro ⟨k, oc, V, W⟩ hI
 dsimp only at hI ⊢
 refine yS fun _ K7 => ?_
 refine yR ?_
 refine aa rfl (cr rfl rfl rfl) ?_
 refine yN ?_
 dsimp only [St.put]
 refine K7 _ ?_
 refine yS fun _ K8 => ?_
 refine al rfl (fun hc => ?_) (fun hc => ?_)
 ·replace hc := of_decide_eq_true hc
  obtain ⟨s, hk⟩ : ∃ x, e.ss[k]? = some x := fj (by omega)
  have hso := he s (gr hk)
  obtain ⟨o1, o2, o3, o4, o5, o6⟩ := id hso
  refine aw ?_
  refine K8 _ ?_
  refine yS fun _ K9 => ?_
  refine bn ?_
  refine yS fun _ K10 => ?_
  refine yR ?_
  refine yM rfl rfl ?_
  refine aa rfl (b7 rfl rfl rfl rfl (cm (by assumption)) (Enc.len _)) ?_
  refine yE rfl rfl rfl ?_
  try dsimp only [St.put]
  refine ae rfl (bp rfl ?_)
  refine yA rfl rfl ?_
  try dsimp only [St.put]
  refine ae rfl (ay rfl rfl rfl zG rfl rfl (by rfl) ?_)
  refine yN ?_
  dsimp only [St.put]
  refine K10 _ ?_
  refine dg (i := 9) rfl zG (by first | exact List.cons_ne_nil _ _ | (simp; done) | (simp [putAt]; done)) ?_
  dsimp only
  refine yS fun _ K11 => ?_
  refine yS fun _ K12 => ?_
  refine yR ?_
  refine yF rfl rfl rfl rfl ?_
  refine yL rfl rfl rfl ?_
  refine yF rfl rfl rfl rfl ?_
  refine yL rfl rfl rfl ?_
  refine aa rfl (ip rfl rfl rfl (by omega)) ?_
  refine yM rfl rfl ?_
  refine yN ?_
  dsimp only [St.put]
  rw [← umd (e.ss.take k) s, ← ul5 (e.ss.take k) s]
  refine K12 _ ?_
  refine bn ?_
  refine eg 42 ?_
  simp only [dj, bq, Nat.reduceAdd, List.getD_cons_zero, List.getD_cons_succ, List.getD_nil, dw, Nat.reduceBEq, cond_true, cond_false]
  refine fg ((ak (ak G nx (bo Tryz.prog 115 V (az ((ax (e.ss.take k ++ [fk s 0])))))) (nx + 1) (bo Tryz.prog 115 W (az ((cn (e.ss.take k ++ [fk s 0]))))))) zX ?_
  dsimp only
  refine fu (X := Nat × Nat × Nat) (fun x => (x.1 : Int) ≤ s.tt - s.fr) (fun x => (s.tt - s.fr).toNat - x.1) (fun x => [(10, .any), (11, .any), (12, .any), (13, .any), (14, .any), (15, .any), (16, .any), (41, .v (.int .i64 (x.1 : Int)))]) (fun x G' => (ak (ak G nx (bo Tryz.prog 115 x.2.1 (az ((ax (e.ss.take k ++ [fk s x.1])))))) (nx + 1) (bo Tryz.prog 115 x.2.2 (az ((cn (e.ss.take k ++ [fk s x.1]))))))) (0, V, W) rfl ?_ ?_ ?_ ?_ ?_ ?_
  ·dsimp only; omega
  ·exact zF
  ·exact zX
  ·rintro ⟨i, V', W'⟩ hI
   exact (by (try dsimp only); repeat' (first | exact trivial | refine ⟨?_, ?_⟩ | exact .v | exact .any | refine .elem ?_ | exact bh _ _ | exact e9 _ _ | exact dq _ _ | exact ff _ (by (try dsimp only); omega) | exact .box (by (try dsimp only); omega) | exact ed | exact bl | exact gg (f9 _ _) | refine fa ?_ ?_ | exact .arr (by (try dsimp only); omega) | exact .own (by (try dsimp only); omega) | exact .map (by (try dsimp only); omega) | exact ez _ | refine ar ?_ ?_ | exact bh _ _))
  ·rintro ⟨i, V', W'⟩ hI
   exact (by (repeat' (refine gt ?_ (by (try dsimp only); omega) ?_)); all_goals (first | exact ie zS | (repeat' (first | exact trivial | refine ⟨?_, ?_⟩ | exact .v | exact .any | refine .elem ?_ | exact bh _ _ | exact e9 _ _ | exact dq _ _ | exact ff _ (by (try dsimp only); omega) | exact .box (by (try dsimp only); omega) | exact ed | exact bl | exact gg (f9 _ _) | refine fa ?_ ?_ | exact .arr (by (try dsimp only); omega) | exact .own (by (try dsimp only); omega) | exact .map (by (try dsimp only); omega) | exact ez _ | refine ar ?_ ?_ | exact bh _ _))))
  rintro ⟨i, V', W'⟩ hJ
  dsimp only at hJ ⊢
  refine yS fun _ K13 => ?_
  refine yR ?_
  refine aa rfl (cr rfl rfl rfl) ?_
  refine yN ?_
  dsimp only [St.put]
  refine K13 _ ?_
  refine yS fun _ K14 => ?_
  refine al rfl (fun hc => ?_) (fun hc => ?_)
  ·replace hc := of_decide_eq_true hc
   refine aw ?_
   refine K14 _ ?_
   refine yS fun _ K15 => ?_
   refine bn ?_
   refine yS fun _ K16 => ?_
   refine yR ?_
   refine yM rfl rfl ?_
   refine yA rfl rfl ?_
   refine yN ?_
   dsimp only [St.put]
   refine K16 _ ?_
   refine yS fun _ K17 => ?_
   refine gj [(0, none), (1, none), (2, none), (3, none), (4, none), (5, none), (6, none), (7, none), (8, none), (9, none), (10, none), (11, none), (12, none), (13, none), (14, some 15), (16, none), (17, none)] (fun i => [17].contains i) (fun i => [14, 15, 16, 17].contains i) (fun i => [0, 2, 4, 5, 6, 7, 9, 11, 12, 13].contains i) [] (by kernel_rfl) (by kernel_rfl) ?_
   refine ah rfl rfl rfl rfl (b9 rfl rfl rfl) ?_
   try dsimp only [St.put]
   refine aj rfl rfl rfl rfl (a7 rfl rfl) ?_
   refine ah rfl rfl rfl rfl (b9 rfl rfl rfl) ?_
   try dsimp only [St.put]
   refine aj rfl rfl rfl rfl (a7 rfl rfl) ?_
   refine xM rfl rfl rfl rfl rfl ?_
   refine ah rfl rfl rfl rfl (bw rfl rfl rfl (by omega)) ?_
   refine ah rfl rfl rfl rfl (ir rfl rfl) ?_
   refine ah rfl rfl rfl rfl (b9 rfl rfl rfl) ?_
   try dsimp only [St.put]
   refine aj rfl rfl rfl rfl (a7 rfl rfl) ?_
   refine ah rfl rfl rfl rfl (b9 rfl rfl rfl) ?_
   try dsimp only [St.put]
   refine aj rfl rfl rfl rfl (a7 rfl rfl) ?_
   refine xM rfl rfl rfl rfl rfl ?_
   refine ah rfl rfl rfl rfl (bw rfl rfl rfl (by omega)) ?_
   refine ah rfl rfl rfl rfl (ir rfl rfl) ?_
   refine il ?_
   refine ub rfl rfl rfl rfl rfl rfl rfl rfl (by decide) (by simp) ?_
   try dsimp only [St.put]
   refine jl rfl rfl rfl (ay rfl rfl rfl zG rfl rfl (by rfl) ⟨zD, ?_⟩)
   try dsimp only [St.put]
   refine gn rfl rfl rfl rfl (ay rfl rfl rfl zG rfl rfl (by rfl) ?_)
   refine ij ?_
   dsimp only [St.put]
   refine K17 _ ?_
   refine dg (i := 11) rfl zG (by first | exact List.cons_ne_nil _ _ | (simp; done) | (simp [putAt]; done)) ?_
   refine dg (i := 12) rfl zG (by first | exact List.cons_ne_nil _ _ | (simp; done) | (simp [putAt]; done)) ?_
   dsimp only
   refine eg 42 ?_
   simp only [dj, bq, Nat.reduceAdd, List.getD_cons_zero, List.getD_cons_succ, List.getD_nil, dw, Nat.reduceBEq, cond_true, cond_false]
   refine mi (X := Nat) (fun x => True) (fun x => []) (fun x G' => (ak (ak G nx (bo Tryz.prog 115 x (az ((ax (e.ss.take k ++ [fk s (i + 1)])))))) (nx + 1) (bo Tryz.prog 115 W' (az ((cn (e.ss.take k ++ [fk s i]))))))) rfl ?_ ?_ ?_ ?_
   ·rintro V2 hI
    exact (by (try dsimp only); repeat' (first | exact trivial | refine ⟨?_, ?_⟩ | exact .v | exact .any | refine .elem ?_ | exact bh _ _ | exact e9 _ _ | exact dq _ _ | exact ff _ (by (try dsimp only); omega) | exact .box (by (try dsimp only); omega) | exact ed | exact bl | exact gg (f9 _ _) | refine fa ?_ ?_ | exact .arr (by (try dsimp only); omega) | exact .own (by (try dsimp only); omega) | exact .map (by (try dsimp only); omega) | exact ez _ | refine ar ?_ ?_ | exact bh _ _))
   ·rintro V2 hI
    exact (by (repeat' (refine gt ?_ (by (try dsimp only); omega) ?_)); all_goals (first | exact ie zS | (repeat' (first | exact trivial | refine ⟨?_, ?_⟩ | exact .v | exact .any | refine .elem ?_ | exact bh _ _ | exact e9 _ _ | exact dq _ _ | exact ff _ (by (try dsimp only); omega) | exact .box (by (try dsimp only); omega) | exact ed | exact bl | exact gg (f9 _ _) | refine fa ?_ ?_ | exact .arr (by (try dsimp only); omega) | exact .own (by (try dsimp only); omega) | exact .map (by (try dsimp only); omega) | exact ez _ | refine ar ?_ ?_ | exact bh _ _))))
   ·refine yS fun _ K19 => ?_
    obtain ⟨v1, hv1⟩ : ∃ v : L2, (az (ax (e.ss.take k ++ [fk s i])) (s.ch, s.fr + i)).getD (iw (.agg #[.int .i64 0, .int .i64 0])) = .agg [.v (.int .i64 v.1), .v (.int .i64 v.2)] := n8 _ _
    obtain ⟨b1, hb1⟩ : ∃ b, (az (ax (e.ss.take k ++ [fk s i])) (s.ch, s.fr + i)).isSome = b := ⟨_, rfl⟩
    refine gj [(0, none), (1, none), (2, none), (3, none), (4, none), (5, none), (6, none), (7, none), (8, none), (9, none), (10, none), (11, none)] (fun i => [10].contains i) (fun i => [9, 10].contains i) (fun i => [0, 1, 2, 6, 7, 8, 11].contains i) [nx] (by kernel_rfl) (by kernel_rfl) ?_
    refine xM rfl rfl rfl rfl rfl ?_
    refine ah rfl rfl rfl rfl (iq rfl rfl) ?_
    refine ah rfl rfl rfl rfl (b9 rfl rfl rfl) ?_
    try dsimp only [St.put]
    refine aj rfl rfl rfl rfl (a7 rfl rfl) ?_
    try dsimp only [St.put]
    refine aj rfl rfl rfl rfl (aq rfl rfl rfl) ?_
    try dsimp only [St.put]
    refine aj rfl rfl rfl rfl (nt (s.ch, s.fr + i) rfl rfl zG (by simp) rfl hv1 hb1) ?_
    refine xM rfl rfl rfl rfl rfl ?_
    refine ah rfl rfl rfl rfl (c7 rfl rfl rfl) ?_
    refine ah rfl rfl rfl rfl (c7 rfl rfl rfl) ?_
    refine il ?_
    try dsimp only [St.put]
    refine jl rfl rfl rfl (bp rfl ⟨zD, ?_⟩)
    try dsimp only [St.put]
    refine gn rfl rfl rfl rfl (ay rfl rfl rfl zG rfl rfl (by rfl) ?_)
    refine jk rfl rfl rfl rfl (cg rfl (by constructor)) ?_
    refine ij ?_
    dsimp only [St.put]
    refine K19 _ ?_
    refine yS fun _ K20 => ?_
    refine yR ?_
    refine yM rfl rfl ?_
    refine aa rfl (dn rfl rfl) ?_
    refine yN ?_
    dsimp only [St.put]
    refine K20 _ ?_
    refine al rfl (fun hc => ?_) (fun hc => ?_)
    ·have hn1 : ax (e.ss.take k ++ [fk s i]) (s.ch, s.fr + i) = none := by
      have : b1 = false := by simpa using hc
      rw [this] at hb1
      exact capp_none.1 (by simpa using hb1)
     refine gj [(0, none), (1, none), (2, none), (3, none), (4, none), (5, none), (6, none)] (fun i => [6].contains i) (fun i => [6].contains i) (fun i => [0, 1, 2].contains i) [] (by kernel_rfl) (by kernel_rfl) ?_
     refine xM rfl rfl rfl rfl rfl ?_
     refine ah rfl rfl rfl rfl (iq rfl rfl) ?_
     refine ah rfl rfl rfl rfl (b9 rfl rfl rfl) ?_
     try dsimp only [St.put]
     refine aj rfl rfl rfl rfl (a7 rfl rfl) ?_
     try dsimp only [St.put]
     refine aj rfl rfl rfl rfl (aq rfl rfl rfl) ?_
     try dsimp only [St.put]
     refine aj rfl rfl rfl rfl (aq rfl rfl rfl) ?_
     refine il ?_
     try dsimp only [St.put]
     refine gn rfl rfl rfl rfl (w9 ((s.ch, s.fr + i)) rfl rfl rfl zG rfl (zl (uda (e.ss.take k) s i) hn1) ?_)
     refine ij ?_
     dsimp only [St.put]
     first
      | (rw [hgo]; exact ⟨V', trivial, ⟨⟨rfl, rfl⟩, zF, zB, zN, zX⟩⟩)
      | exact ⟨V' + 1, trivial, ⟨⟨rfl, rfl⟩, zF, zB, zN, zX⟩⟩
    have hgo := zk (uda (e.ss.take k) s i) (fun h0 => by
     have : b1 = true := by simpa using hc
     rw [this, capp_none.2 h0] at hb1
     cases hb1)
    refine aw ?_
    first
     | (rw [hgo]; exact ⟨V', trivial, ⟨⟨rfl, rfl⟩, zF, zB, zN, zX⟩⟩)
     | exact ⟨V' + 1, trivial, ⟨⟨rfl, rfl⟩, zF, zB, zN, zX⟩⟩
   rintro V2 hT
   dsimp only at hT ⊢
   refine yS fun _ K21 => ?_
   obtain ⟨v3, hv3⟩ : ∃ v : L2, (az (cn (e.ss.take k ++ [fk s i])) (s.au, s.fi + i)).getD (iw (.agg #[.int .i64 0, .int .i64 0])) = .agg [.v (.int .i64 v.1), .v (.int .i64 v.2)] := n8 _ _
   obtain ⟨b3, hb3⟩ : ∃ b, (az (cn (e.ss.take k ++ [fk s i])) (s.au, s.fi + i)).isSome = b := ⟨_, rfl⟩
   refine gj [(0, none), (1, none), (2, none), (3, none), (4, none), (5, none), (6, none), (7, none), (8, none), (9, none), (10, none), (11, none)] (fun i => [10].contains i) (fun i => [9, 10].contains i) (fun i => [0, 1, 2, 6, 7, 8, 11].contains i) [nx + 1] (by kernel_rfl) (by kernel_rfl) ?_
   refine xM rfl rfl rfl rfl rfl ?_
   refine ah rfl rfl rfl rfl (iq rfl rfl) ?_
   refine ah rfl rfl rfl rfl (b9 rfl rfl rfl) ?_
   try dsimp only [St.put]
   refine aj rfl rfl rfl rfl (a7 rfl rfl) ?_
   try dsimp only [St.put]
   refine aj rfl rfl rfl rfl (aq rfl rfl rfl) ?_
   try dsimp only [St.put]
   refine aj rfl rfl rfl rfl (nt (s.au, s.fi + i) rfl rfl zG (by simp) rfl hv3 hb3) ?_
   refine xM rfl rfl rfl rfl rfl ?_
   refine ah rfl rfl rfl rfl (c7 rfl rfl rfl) ?_
   refine ah rfl rfl rfl rfl (c7 rfl rfl rfl) ?_
   refine il ?_
   try dsimp only [St.put]
   refine jl rfl rfl rfl (bp rfl ⟨zD, ?_⟩)
   try dsimp only [St.put]
   refine gn rfl rfl rfl rfl (ay rfl rfl rfl zG rfl rfl (by rfl) ?_)
   refine jk rfl rfl rfl rfl (cg rfl (by constructor)) ?_
   refine ij ?_
   dsimp only [St.put]
   refine K21 _ ?_
   refine yS fun _ K22 => ?_
   refine yR ?_
   refine yM rfl rfl ?_
   refine aa rfl (dn rfl rfl) ?_
   refine yN ?_
   dsimp only [St.put]
   refine K22 _ ?_
   refine al rfl (fun hc => ?_) (fun hc => ?_)
   ·have hn3 : cn (e.ss.take k ++ [fk s i]) (s.au, s.fi + i) = none := by
     have : b3 = false := by simpa using hc
     rw [this] at hb3
     exact capp_none.1 (by simpa using hb3)
    refine gj [(0, none), (1, none), (2, none), (3, none), (4, none), (5, none), (6, none)] (fun i => [6].contains i) (fun i => [6].contains i) (fun i => [0, 1, 2].contains i) [] (by kernel_rfl) (by kernel_rfl) ?_
    refine xM rfl rfl rfl rfl rfl ?_
    refine ah rfl rfl rfl rfl (iq rfl rfl) ?_
    refine ah rfl rfl rfl rfl (b9 rfl rfl rfl) ?_
    try dsimp only [St.put]
    refine aj rfl rfl rfl rfl (a7 rfl rfl) ?_
    try dsimp only [St.put]
    refine aj rfl rfl rfl rfl (aq rfl rfl rfl) ?_
    try dsimp only [St.put]
    refine aj rfl rfl rfl rfl (aq rfl rfl rfl) ?_
    refine il ?_
    try dsimp only [St.put]
    refine gn rfl rfl rfl rfl (w9 ((s.au, s.fi + i)) rfl rfl rfl zG rfl (zl (uc1 (e.ss.take k) s i) hn3) ?_)
    refine ij ?_
    dsimp only [St.put]
    refine K15 _ ?_
    refine yR ?_
    refine aa rfl (bw rfl rfl rfl (by omega)) ?_
    refine yM rfl rfl ?_
    refine yN ?_
    dsimp only [St.put]
    first
     | (rw [hgo]; exact ⟨(i + 1, V2, W'), by (dsimp only; omega), by (dsimp only; omega), ⟨⟨rfl, rfl⟩, zF, zB, zN, zX⟩⟩)
     | exact ⟨(i + 1, V2, W' + 1), by (dsimp only; omega), by (dsimp only; omega), ⟨⟨rfl, rfl⟩, zF, zB, zN, zX⟩⟩
   have hgo := zk (uc1 (e.ss.take k) s i) (fun h0 => by
    have : b3 = true := by simpa using hc
    rw [this, capp_none.2 h0] at hb3
    cases hb3)
   refine aw ?_
   refine K15 _ ?_
   refine yR ?_
   refine aa rfl (bw rfl rfl rfl (by omega)) ?_
   refine yM rfl rfl ?_
   refine yN ?_
   dsimp only [St.put]
   first
    | (rw [hgo]; exact ⟨(i + 1, V2, W'), by (dsimp only; omega), by (dsimp only; omega), ⟨⟨rfl, rfl⟩, zF, zB, zN, zX⟩⟩)
    | exact ⟨(i + 1, V2, W' + 1), by (dsimp only; omega), by (dsimp only; omega), ⟨⟨rfl, rfl⟩, zF, zB, zN, zX⟩⟩
  replace hc := of_decide_eq_false hc
  rw [ueh hk (show s.tt = s.fr + i by omega)]
  refine ey ?_
  refine K11 _ ?_
  refine yS fun _ K23 => ?_
  refine yR ?_
  refine yF rfl rfl rfl rfl ?_
  refine yL rfl rfl rfl ?_
  refine yM rfl rfl ?_
  refine aa rfl (z8 rfl rfl rfl (by first | exact rfl | omega) (by first | omega | (simp; omega))) ?_
  refine aa rfl (ck rfl rfl rfl) ?_
  refine yM rfl rfl ?_
  refine yN ?_
  dsimp only [St.put]
  simp only [← List.map_take, List.length_map]
  have hkl : (e.ss.take k).length = k := by rw [List.length_take]; omega
  rw [hkl]
  refine K23 _ ?_
  refine bn ?_
  refine eg 99 ?_
  simp only [dj, bq, Nat.reduceAdd, List.getD_cons_zero, List.getD_cons_succ, List.getD_nil, dw, Nat.reduceBEq, cond_true, cond_false]
  refine fg ((ak (ak G nx (bo Tryz.prog 115 V' (az ((ax (e.ss.take (k + 1))))))) (nx + 1) (bo Tryz.prog 115 W' (az ((cn (e.ss.take (k + 1)))))))) zX ?_
  dsimp only
  refine fu (X := Nat) (fun j => j ≤ k ∧ ∀ i, i < j → i < ma e.ss.length oc → ¬ jh e.ss i k) (fun j => k - j) (fun j => [(17, .any), (18, .any), (98, .v (.int .i64 (j : Int)))]) (fun j G' => G') 0 rfl ?_ ?_ (fun _ _ h => h) ?_ ?_ ?_
  ·exact ⟨Nat.zero_le _, fun i h => by omega⟩
  ·exact zF
  ·rintro j hI
   exact (by (try dsimp only); repeat' (first | exact trivial | refine ⟨?_, ?_⟩ | exact .v | exact .any | refine .elem ?_ | exact bh _ _ | exact e9 _ _ | exact dq _ _ | exact ff _ (by (try dsimp only); omega) | exact .box (by (try dsimp only); omega) | exact ed | exact bl | exact gg (f9 _ _) | refine fa ?_ ?_ | exact .arr (by (try dsimp only); omega) | exact .own (by (try dsimp only); omega) | exact .map (by (try dsimp only); omega) | exact ez _ | refine ar ?_ ?_ | exact bh _ _))
  ·exact fun _ _ _ _ h => .inl h
  rintro j hM
  dsimp only at hM ⊢
  refine yS fun _ K24 => ?_
  refine yR ?_
  refine aa rfl (cr rfl rfl rfl) ?_
  refine yN ?_
  dsimp only [St.put]
  refine K24 _ ?_
  refine yS fun _ K25 => ?_
  refine al rfl (fun hc => ?_) (fun hc => ?_)
  ·replace hc := of_decide_eq_true hc
   obtain ⟨u, hu⟩ : ∃ x, e.ss[j]? = some x := fj (by omega)
   have hu' : (e.ss.take k)[j]? = some u := by rw [List.getElem?_take, if_pos (by omega)]; exact hu
   have huo := he u (gr hu)
   refine aw ?_
   refine K25 _ ?_
   refine yS fun _ K26 => ?_
   refine bn ?_
   refine yS fun _ K27 => ?_
   refine yR ?_
   refine yM rfl rfl ?_
   refine aa rfl (b7 rfl rfl rfl rfl (cm (by assumption)) (Enc.len _)) ?_
   refine yE rfl rfl rfl ?_
   try dsimp only [St.put]
   refine ae rfl (bp rfl ?_)
   refine yA rfl rfl ?_
   try dsimp only [St.put]
   refine ae rfl (ay rfl rfl rfl zG rfl rfl (by rfl) ?_)
   refine yN ?_
   dsimp only [St.put]
   refine K27 _ ?_
   refine dg (i := 18) rfl zG (by first | exact List.cons_ne_nil _ _ | (simp; done) | (simp [putAt]; done)) ?_
   dsimp only
   refine eg 99 ?_
   simp only [dj, bq, Nat.reduceAdd, List.getD_cons_zero, List.getD_cons_succ, List.getD_nil, dw, Nat.reduceBEq, cond_true, cond_false]
   refine mi (X := Bool) (fun b => (b = true → j < ma e.ss.length oc ∧ jh e.ss j k) ∧ (b = false → j < ma e.ss.length oc → ¬ jh e.ss j k)) (fun b => [(115, .v (.bool b))]) (fun b G' => G') rfl ?_ (fun _ _ _ _ h => .inl h) ?_ ?_
   ·rintro b hI
    exact (by (try dsimp only); repeat' (first | exact trivial | refine ⟨?_, ?_⟩ | exact .v | exact .any | refine .elem ?_ | exact bh _ _ | exact e9 _ _ | exact dq _ _ | exact ff _ (by (try dsimp only); omega) | exact .box (by (try dsimp only); omega) | exact ed | exact bl | exact gg (f9 _ _) | refine fa ?_ ?_ | exact .arr (by (try dsimp only); omega) | exact .own (by (try dsimp only); omega) | exact .map (by (try dsimp only); omega) | exact ez _ | refine ar ?_ ?_ | exact bh _ _))
   ·refine yR ?_
    refine yM rfl rfl ?_
    refine yM rfl rfl ?_
    refine aa rfl (cr rfl rfl rfl) ?_
    refine yM rfl rfl ?_
    refine e7 (fun hs => ?_) (fun hs => ?_)
    ·have h3 := of_decide_eq_true hs
     refine yE rfl rfl rfl ?_
     refine yE rfl rfl rfl ?_
     refine aa rfl (nz (x := u) (y := s) rfl rfl rfl) ?_
     refine yM rfl rfl ?_
     refine e7 (fun hs => ?_) (fun hs => ?_)
     ·have h7 := of_decide_eq_true hs
      refine yK rfl ?_
      refine yK rfl ?_
      refine yK rfl ?_
      refine aa rfl (bg rfl rfl (by constructor)) ?_
      refine aa rfl (bg rfl rfl (by constructor)) ?_
      refine yN ?_
      dsimp only [St.put]
      refine ⟨_, ?_, ⟨⟨rfl, rfl⟩, zF, zB, zN, zX⟩⟩
      first
       | exact ⟨fun _ => ⟨by omega, (np (by omega) hu hk).2 (by rw [h7]; exact xf hso)⟩, fun h => by cases h⟩
       | exact ⟨fun h => ⟨by omega, (np (by omega) hu hk).2 h⟩, fun h _ hcl => by rw [(np (by omega) hu hk).1 hcl] at h; cases h⟩
       | exact ⟨fun h => (by cases h), fun _ h => absurd h (by omega)⟩
     have h7 := of_decide_eq_false hs
     refine yE rfl rfl rfl ?_
     refine yE rfl rfl rfl ?_
     try dsimp only [St.put]
     refine ae rfl (bd rfl rfl rfl (uhd u s huo hso) ?_)
     refine aa rfl (cd rfl rfl (by constructor)) ?_
     refine aa rfl (bg rfl rfl (by constructor)) ?_
     refine yN ?_
     dsimp only [St.put]
     refine ⟨_, ?_, ⟨⟨rfl, rfl⟩, zF, zB, zN, zX⟩⟩
     first
      | exact ⟨fun _ => ⟨by omega, (np (by omega) hu hk).2 (by rw [h7]; exact xf hso)⟩, fun h => by cases h⟩
      | exact ⟨fun h => ⟨by omega, (np (by omega) hu hk).2 h⟩, fun h _ hcl => by rw [(np (by omega) hu hk).1 hcl] at h; cases h⟩
      | exact ⟨fun h => (by cases h), fun _ h => absurd h (by omega)⟩
    have h3 := of_decide_eq_false hs
    refine yK rfl ?_
    refine yK rfl ?_
    refine yK rfl ?_
    refine yK rfl ?_
    refine yK rfl ?_
    refine yK rfl ?_
    refine yK rfl ?_
    refine yK rfl ?_
    refine aa rfl (cd rfl rfl (by constructor)) ?_
    refine yN ?_
    dsimp only [St.put]
    refine ⟨_, ?_, ⟨⟨rfl, rfl⟩, zF, zB, zN, zX⟩⟩
    first
     | exact ⟨fun _ => ⟨by omega, (np (by omega) hu hk).2 (by rw [h7]; exact xf hso)⟩, fun h => by cases h⟩
     | exact ⟨fun h => ⟨by omega, (np (by omega) hu hk).2 h⟩, fun h _ hcl => by rw [(np (by omega) hu hk).1 hcl] at h; cases h⟩
     | exact ⟨fun h => (by cases h), fun _ h => absurd h (by omega)⟩
   rintro b hst
   dsimp only at hst ⊢
   refine al rfl (fun hc => ?_) (fun hc => ?_)
   ·have hb1 := hc
    refine yS fun _ K29 => ?_
    refine yR ?_
    refine yM rfl rfl ?_
    refine yM rfl rfl ?_
    refine yA rfl rfl ?_
    refine yA rfl rfl ?_
    refine yA rfl rfl ?_
    refine yN ?_
    dsimp only [St.put]
    refine K29 _ ?_
    refine ey ?_
    refine K9 _ ?_
    refine yR ?_
    refine aa rfl (bw rfl rfl rfl (by omega)) ?_
    refine yM rfl rfl ?_
    refine yN ?_
    dsimp only [St.put]
    first
     | exact ⟨(k + 1, some (j, k), _, _), by (dsimp only; omega), ⟨by (dsimp only; omega), ubq hI.2 (hst.1 hb1).1 (hst.1 hb1).2 hM.2⟩, ⟨⟨rfl, rfl⟩, zF, zB, zN, zX⟩⟩
     | exact ⟨(k + 1, oc, _, _), by (dsimp only; omega), ⟨by (dsimp only; omega), ubp (by omega) hI.2 fun i h1 h2 => hM.2 i (by omega) h2⟩, ⟨⟨rfl, rfl⟩, zF, zB, zN, zX⟩⟩
   have hb0 := hc
   refine aw ?_
   refine K26 _ ?_
   refine yR ?_
   refine aa rfl (bw rfl rfl rfl (by omega)) ?_
   refine yM rfl rfl ?_
   refine yN ?_
   dsimp only [St.put]
   exact ⟨j + 1, by omega, ⟨by omega, fun i h1 h2 => by
     rcases Nat.eq_or_lt_of_le (Nat.le_of_lt_succ h1) with h | h
     ·subst h; exact hst.2 hb0 h2
     exact hM.2 i h h2⟩, ⟨⟨rfl, rfl⟩, zF, zB, zN, zX⟩⟩
  try replace hc := of_decide_eq_false hc
  refine ey ?_
  refine K9 _ ?_
  refine yR ?_
  refine aa rfl (bw rfl rfl rfl (by omega)) ?_
  refine yM rfl rfl ?_
  refine yN ?_
  dsimp only [St.put]
  first
   | exact ⟨(k + 1, some (j, k), _, _), by (dsimp only; omega), ⟨by (dsimp only; omega), ubq hI.2 (hst.1 hb1).1 (hst.1 hb1).2 hM.2⟩, ⟨⟨rfl, rfl⟩, zF, zB, zN, zX⟩⟩
   | exact ⟨(k + 1, oc, _, _), by (dsimp only; omega), ⟨by (dsimp only; omega), ubp (by omega) hI.2 fun i h1 h2 => hM.2 i (by omega) h2⟩, ⟨⟨rfl, rfl⟩, zF, zB, zN, zX⟩⟩
 have hk : e.ss.length ≤ k := by have := of_decide_eq_false hc; omega
 have hoc : ef e.ss = oc := ujf (by
  have h1 := hI.2
  rw [im hk] at h1
  rw [List.take_length]; exact h1)
 rw [im hk, ← hoc]
 refine ey ?_
 refine K5 _ ?_
 refine yS fun _ K30 => ?_
 refine yR ?_
 refine yM rfl rfl ?_
 refine yM rfl rfl ?_
 refine yM rfl rfl ?_
 refine yM rfl rfl ?_
 refine yA rfl rfl ?_
 refine yA rfl rfl ?_
 refine yA rfl rfl ?_
 refine yA rfl rfl ?_
 refine yN ?_
 dsimp only [St.put]
 refine K30 _ ?_
 refine am ?_
 refine ⟨(V, W), ?_⟩
 refine ujp rfl (by constructor) (by constructor) (by constructor) (by constructor) zN zX ?_ ?_ ?_ ?_
 ·rfl
 ·rfl
 ·rfl
 rfl
end Go.Proofs.YtjjklfgpffgnfaaGreatDoor
