/-
 Contracts of the program's functions of charts: what is valid; books.
-/
import Derived.Test.YtjjklfgpffgnfabGreatDoorCuFuncs
import Derived.Test.YtjjklfgpffgnfabGreatDoorLcCheck
namespace Go.AB
open Go Go.RowKit
open Go.AB.Enc (cells)
open Go.PB (bh af PlaceD)
/-- the cells of an open book -/
def gg (t : af) (e : aw) (n m : Nat) : List C := [.v (.int .i64 e.id), lst e.ss, lst t, .map n, .map m]
theorem fo (f : L2 → Option L2) (n : Nat) : ∀ x c, a8 f x = some c → C.low n c := by
 intro x c h
 unfold a8 at h
 cases hf : f x with
 | none => rw [hf] at h; cases h
 | some v =>
  rw [hf] at h
  cases h
  exact .agg (am .v (am .v bn))
theorem oh (f : L2 → Option L2) (p : L2) : ∃ v : L2, (a8 f p).getD (ia (.agg #[.int .i64 0, .int .i64 0])) = .agg [.v (.int .i64 v.1), .v (.int .i64 v.2)] := by
 unfold a8
 cases f p with
 | none => exact ⟨(0, 0), rfl⟩
 | some v => exact ⟨v, rfl⟩
theorem ugz {ss : List StretchD} {k i : Nat} {s : StretchD} (hs : ss[k]? = some s) (hi : s.tt = s.fr + i) : ss.take k ++ [eu s i] = ss.take (k + 1) := by
 rw [uoc hi, List.take_add_one, hs]; rfl
end Go.AB
namespace Go.Proofs.YtjjklfgpffgnfabGreatDoor
set_option maxRecDepth 10000
open Go.RowKit Go.AB
open Go.AB.Enc (cells)
open Go.PB (bh af PlaceD ar bp cj)
theorem ko (t : af) (e : aw) (hl : e.ss.length ≤ 20) : c8 cr Tryz.prog 26 [b7 t, val e] (.v (.int .i64 (ct t e))) := by
 refine fw Tryz.func26 rfl (fun m => .v) fun G nx hF => ?_
 simp only [Tryz.ntmps26, List.length_cons, List.length_nil, Nat.reduceAdd, Nat.reduceSub]
 refine bf fun hlt => ?_
 dsimp only at hlt
 have hnx := hlt 0 _ hF
 refine yS fun _ K1 => ?_
 refine yR ?_
 try dsimp only [St.put]
 refine yB rfl rfl rfl ?_
 try dsimp only [St.put]
 refine yB rfl rfl rfl ?_
 refine yA rfl rfl ?_
 refine yN ?_
 dsimp only [St.put]
 refine K1 _ ?_
 refine yS fun _ K2 => ?_
 refine yS fun _ K3 => ?_
 refine yR ?_
 try dsimp only [St.put]
 refine ba rfl (bk rfl rfl rfl) ?_
 try dsimp only [St.put]
 refine ae rfl (a7 rfl rfl rfl (ucr t) ?_)
 refine yA rfl rfl ?_
 refine yN ?_
 dsimp only [St.put]
 refine K3 _ ?_
 refine yS fun _ K4 => ?_
 refine yR ?_
 refine yM rfl rfl ?_
 refine aa rfl (cz rfl rfl rfl) ?_
 refine yN ?_
 dsimp only [St.put]
 refine K4 _ ?_
 refine ak rfl (fun hc => ?_) (fun hc => ?_)
 ·have htx : bw t = false := by
   cases h : bw t
   ·rfl
   simp [fq, h] at hc
  refine yS fun _ K5 => ?_
  refine yR ?_
  refine yM rfl rfl ?_
  refine yA rfl rfl ?_
  refine yN ?_
  dsimp only [St.put]
  refine K5 _ ?_
  refine aj ?_
  refine ay rfl (by constructor) zN zS ?_
  exact vi (by simp [ct, fq, htx])
 have htx : bw t = true := by
  cases h : bw t
  ·simp [fq, h] at hc
  rfl
 refine aq ?_
 refine K2 _ ?_
 refine yS fun _ K6 => ?_
 refine yR ?_
 refine yF rfl rfl rfl rfl ?_
 refine yL rfl rfl rfl ?_
 refine aa rfl (ng rfl rfl) ?_
 try dsimp only [St.put]
 refine ae rfl (dq rfl rfl rfl (ujm e.ss (fun s => !fu t s) _ _ hl fun s _ => upn t s htx) zG ?_)
 refine yA rfl rfl ?_
 refine yN ?_
 dsimp only [St.put]
 have hfl := List.length_filter_le (fun s => !fu t s) e.ss
 refine K6 _ ?_
 refine yS fun _ K7 => ?_
 refine di 16 ?_
 simp only [cx, bi, Nat.reduceAdd, List.getD_cons_zero, List.getD_cons_succ, List.getD_nil, dc, Nat.reduceBEq, cond_true, cond_false]
 refine mn (X := Bool) (fun b => b = !iv t e) (fun b => [(31, .v (.bool b))]) (fun b G' => G') rfl ?_ (fun _ _ _ _ h => .inl h) ?_ ?_
 ·rintro b hI
  exact zL
 ·refine yR ?_
  refine yF rfl rfl rfl rfl ?_
  refine yL rfl rfl rfl ?_
  try dsimp only [St.put]
  refine ae rfl (cq rfl rfl rfl (by decide) (by decide) zR (by decide) ?_)
  try dsimp only [St.put]
  refine ae rfl (a7 rfl rfl rfl (n1 _ _ [e.id]) ?_)
  refine aa rfl (c9 rfl rfl) ?_
  refine yM rfl rfl ?_
  refine et (fun hs => ?_) (fun hs => ?_)
  ·have h5 : inB e.id 0 9999 = false := by rw [gk] at hs; simpa using hs
   refine yK rfl ?_
   refine yK rfl ?_
   refine yK rfl ?_
   refine yK rfl ?_
   refine aa rfl (co rfl rfl (by constructor)) ?_
   refine yM rfl rfl ?_
   refine yK rfl ?_
   refine yK rfl ?_
   refine yK rfl ?_
   refine aa rfl (co rfl rfl (by constructor)) ?_
   refine yN ?_
   dsimp only [St.put]
   refine ⟨_, ?_, ⟨⟨rfl, rfl⟩, zF, zB, zN, zX⟩⟩
   rw [yp]
   (rw [h5]; rfl)
  have h5 : inB e.id 0 9999 = true := by rw [gk] at hs; simpa using hs
  refine yF rfl rfl rfl rfl ?_
  refine yL rfl rfl rfl ?_
  refine aa rfl (bx rfl rfl (List.length_map _)) ?_
  refine aa rfl (io rfl rfl rfl) ?_
  refine aa rfl (dh rfl rfl (by constructor)) ?_
  refine yM rfl rfl ?_
  refine et (fun hs => ?_) (fun hs => ?_)
  ·have h11 : decide (e.ss.length ≤ 12) = false := by have := of_decide_eq_true hs; rw [decide_eq_false_iff_not]; omega
   refine yK rfl ?_
   refine yK rfl ?_
   refine yK rfl ?_
   refine aa rfl (co rfl rfl (by constructor)) ?_
   refine yN ?_
   dsimp only [St.put]
   refine ⟨_, ?_, ⟨⟨rfl, rfl⟩, zF, zB, zN, zX⟩⟩
   rw [yp]
   (rw [h5, h11]; rfl)
  have h11 : decide (e.ss.length ≤ 12) = true := by have := of_decide_eq_false hs; rw [decide_eq_true_eq]; omega
  refine yM rfl rfl ?_
  refine aa rfl (bx rfl rfl (List.length_map _)) ?_
  refine aa rfl (io rfl rfl rfl) ?_
  refine aa rfl (dh rfl rfl (by constructor)) ?_
  refine yN ?_
  dsimp only [St.put]
  refine ⟨_, ?_, ⟨⟨rfl, rfl⟩, zF, zB, zN, zX⟩⟩
  rw [yp]
  (rw [h5, h11]; simp only [Bool.true_and]; rw [← decide_not, decide_eq_decide]; omega)
 rintro b hst
 dsimp only at hst ⊢
 refine ak rfl (fun hc => ?_) (fun hc => ?_)
 ·have he : iv t e = false := by rw [hc] at hst; simpa using hst.symm
  refine yS fun _ K9 => ?_
  refine yR ?_
  refine yA rfl rfl ?_
  refine yN ?_
  dsimp only [St.put]
  refine K9 _ ?_
  refine aj ?_
  refine ay rfl (by constructor) zN zS ?_
  exact vi (by simp [ct, htx, he])
 have he : iv t e = true := by rw [hc] at hst; simpa using hst.symm
 refine aq ?_
 refine K7 _ ?_
 refine yS fun _ K10 => ?_
 refine yR ?_
 refine yA rfl rfl ?_
 refine yN ?_
 dsimp only [St.put]
 refine K10 _ ?_
 refine aj ?_
 refine ay rfl (by constructor) zN zS ?_
 exact vi (by simp [ct, htx, he])
theorem uk0 (a b : StretchD) (ha : SOk a) (hb : SOk b) : ce Tryz.prog 75 [val a, val b] (.v (.bool (k7 a b))) := by
 refine cv Tryz.func75 rfl (fun m => .v) fun G nx => ?_
 simp only [Tryz.ntmps75, List.length_cons, List.length_nil, Nat.reduceAdd, Nat.reduceSub]
 refine bf fun hlt => ?_
 dsimp only at hlt
 rw [← uk1 ha hb]
 obtain ⟨a1, a2, a3, a4, a5, a6⟩ := ha
 obtain ⟨b1, b2, b3, b4, b5, b6⟩ := hb
 refine yS fun _ K1 => ?_
 refine yR ?_
 try dsimp only [St.put]
 refine yB rfl rfl rfl ?_
 try dsimp only [St.put]
 refine yB rfl rfl rfl ?_
 refine yA rfl rfl ?_
 refine yN ?_
 dsimp only [St.put]
 refine K1 _ ?_
 refine di 6 ?_
 simp only [cx, bi, Nat.reduceAdd, List.getD_cons_zero, List.getD_cons_succ, List.getD_nil, dc, Nat.reduceBEq, cond_true, cond_false]
 refine mn (X := Bool) (fun b1 => b1 = (decide (a.ch = b.ch) && decide (max a.fr b.fr < min a.tt b.tt))) (fun b1 => [(5, .v (.bool b1))]) (fun b1 G' => G') rfl ?_ (fun _ _ _ _ h => .inl h) ?_ ?_
 ·rintro b1 hI
  exact zL
 ·refine yR ?_
  refine yF rfl rfl rfl rfl ?_
  refine yL rfl rfl rfl ?_
  refine yF rfl rfl rfl rfl ?_
  refine yL rfl rfl rfl ?_
  refine aa rfl (gx rfl rfl rfl) ?_
  refine yM rfl rfl ?_
  refine et (fun hs => ?_) (fun hs => ?_)
  ·have h5 := of_decide_eq_true hs
   refine yF rfl rfl rfl rfl ?_
   refine yL rfl rfl rfl ?_
   refine yF rfl rfl rfl rfl ?_
   refine yL rfl rfl rfl ?_
   refine aa rfl (ue rfl rfl rfl rfl) ?_
   refine yF rfl rfl rfl rfl ?_
   refine yL rfl rfl rfl ?_
   refine yF rfl rfl rfl rfl ?_
   refine yL rfl rfl rfl ?_
   refine aa rfl (xq rfl rfl rfl rfl) ?_
   refine aa rfl (ck rfl rfl rfl) ?_
   refine aa rfl (co rfl rfl (by constructor)) ?_
   refine yA rfl rfl ?_
   refine yN ?_
   dsimp only [St.put]
   refine ⟨_, ?_, ⟨⟨rfl, rfl⟩, zF, zB, zN, zX⟩⟩
   simp [h5]
  have h5 := of_decide_eq_false hs
  refine yK rfl ?_
  refine yK rfl ?_
  refine yK rfl ?_
  refine yK rfl ?_
  refine yK rfl ?_
  refine yK rfl ?_
  refine yK rfl ?_
  refine yK rfl ?_
  refine yK rfl ?_
  refine yK rfl ?_
  refine yK rfl ?_
  refine aa rfl (dh rfl rfl (by constructor)) ?_
  refine yA rfl rfl ?_
  refine yN ?_
  dsimp only [St.put]
  refine ⟨_, ?_, ⟨⟨rfl, rfl⟩, zF, zB, zN, zX⟩⟩
  simp [h5]
 rintro b1 hst
 dsimp only at hst ⊢
 refine yS fun _ K3 => ?_
 refine yR ?_
 refine yM rfl rfl ?_
 refine yM rfl rfl ?_
 refine et (fun hs => ?_) (fun hs => ?_)
 ·have h1 := hs
  refine yK rfl ?_
  refine yK rfl ?_
  refine yK rfl ?_
  refine yK rfl ?_
  refine yK rfl ?_
  refine yK rfl ?_
  refine yK rfl ?_
  refine yK rfl ?_
  refine yK rfl ?_
  refine yK rfl ?_
  refine yK rfl ?_
  refine yK rfl ?_
  refine yK rfl ?_
  refine yK rfl ?_
  refine yK rfl ?_
  refine yK rfl ?_
  refine yK rfl ?_
  refine yK rfl ?_
  refine yK rfl ?_
  refine yK rfl ?_
  refine yK rfl ?_
  refine yK rfl ?_
  refine yK rfl ?_
  refine yK rfl ?_
  refine yK rfl ?_
  refine yK rfl ?_
  refine yK rfl ?_
  refine yK rfl ?_
  refine yK rfl ?_
  refine yK rfl ?_
  refine aa rfl (co rfl rfl (by constructor)) ?_
  refine yA rfl rfl ?_
  refine yN ?_
  dsimp only [St.put]
  refine K3 _ ?_
  refine aj ?_
  refine ay rfl (by constructor) zN zS ?_
  first
  | (refine vb ?_; rw [h1] at hst; simp [me, ← hst]; done)
  | (refine vb ?_; rw [h1] at hst; simp [me, ← hst, h7]; done)
  | (refine vb ?_; rw [h1] at hst; simp only [me, ← hst, Bool.false_or]; simp [h7])
 have h1 := hs
 refine yF rfl rfl rfl rfl ?_
 refine yL rfl rfl rfl ?_
 refine yF rfl rfl rfl rfl ?_
 refine yL rfl rfl rfl ?_
 refine aa rfl (gx rfl rfl rfl) ?_
 refine yM rfl rfl ?_
 refine et (fun hs => ?_) (fun hs => ?_)
 ·have h7 := of_decide_eq_true hs
  refine yF rfl rfl rfl rfl ?_
  refine yL rfl rfl rfl ?_
  refine yF rfl rfl rfl rfl ?_
  refine yL rfl rfl rfl ?_
  refine aa rfl (ue rfl rfl rfl rfl) ?_
  refine yF rfl rfl rfl rfl ?_
  refine yL rfl rfl rfl ?_
  refine yF rfl rfl rfl rfl ?_
  refine yL rfl rfl rfl ?_
  refine aa rfl (ca rfl rfl rfl (by omega)) ?_
  refine yF rfl rfl rfl rfl ?_
  refine yL rfl rfl rfl ?_
  refine aa rfl (g9 rfl rfl rfl (by omega)) ?_
  refine yF rfl rfl rfl rfl ?_
  refine yL rfl rfl rfl ?_
  refine yF rfl rfl rfl rfl ?_
  refine yL rfl rfl rfl ?_
  refine aa rfl (ca rfl rfl rfl (by omega)) ?_
  refine yF rfl rfl rfl rfl ?_
  refine yL rfl rfl rfl ?_
  refine aa rfl (g9 rfl rfl rfl (by omega)) ?_
  refine aa rfl (xq rfl rfl rfl rfl) ?_
  refine aa rfl (ck rfl rfl rfl) ?_
  refine aa rfl (co rfl rfl (by constructor)) ?_
  refine aa rfl (dh rfl rfl (by constructor)) ?_
  refine yA rfl rfl ?_
  refine yN ?_
  dsimp only [St.put]
  refine K3 _ ?_
  refine aj ?_
  refine ay rfl (by constructor) zN zS ?_
  first
  | (refine vb ?_; rw [h1] at hst; simp [me, ← hst]; done)
  | (refine vb ?_; rw [h1] at hst; simp [me, ← hst, h7]; done)
  | (refine vb ?_; rw [h1] at hst; simp only [me, ← hst, Bool.false_or]; simp [h7])
 have h7 := of_decide_eq_false hs
 refine yK rfl ?_
 refine yK rfl ?_
 refine yK rfl ?_
 refine yK rfl ?_
 refine yK rfl ?_
 refine yK rfl ?_
 refine yK rfl ?_
 refine yK rfl ?_
 refine yK rfl ?_
 refine yK rfl ?_
 refine yK rfl ?_
 refine yK rfl ?_
 refine yK rfl ?_
 refine yK rfl ?_
 refine yK rfl ?_
 refine yK rfl ?_
 refine yK rfl ?_
 refine yK rfl ?_
 refine yK rfl ?_
 refine yK rfl ?_
 refine yK rfl ?_
 refine yK rfl ?_
 refine yK rfl ?_
 refine aa rfl (dh rfl rfl (by constructor)) ?_
 refine aa rfl (dh rfl rfl (by constructor)) ?_
 refine yA rfl rfl ?_
 refine yN ?_
 dsimp only [St.put]
 refine K3 _ ?_
 refine aj ?_
 refine ay rfl (by constructor) zN zS ?_
 first
 | (refine vb ?_; rw [h1] at hst; simp [me, ← hst]; done)
 | (refine vb ?_; rw [h1] at hst; simp [me, ← hst, h7]; done)
 | (refine vb ?_; rw [h1] at hst; simp only [me, ← hst, Bool.false_or]; simp [h7])
set_option maxHeartbeats 1000000 in
/-- what an opened book leaves: its maps, and how it clashes -/
theorem nd (t : af) (e : aw) (hl : e.ss.length ≤ 12) (he : ∀ s ∈ e.ss, SOk s) (G : Nat → Option GObj) (nx : Nat) :
  PC Tryz.prog 40 [b7 t, val e] G nx fun r G' nx' => ∃ y : Nat × Nat, r = .tup [.elem (gg t e nx (nx + 1)), .v (.int .i64 (mc e.ss.length (ff e.ss))), .v (.int .i64 (v7 (ff e.ss))), .v (.bool (ff e.ss).isSome)] ∧ G' = (ah (ah G nx (bl Tryz.prog 95 y.1 (a8 ((av e.ss))))) (nx + 1) (bl Tryz.prog 95 y.2 (a8 ((cn e.ss))))) ∧ nx' = nx + 1 + 1 := by
 refine qg (fun (y : Nat × Nat) => (ah (ah G nx (bl Tryz.prog 95 y.1 (a8 ((av e.ss))))) (nx + 1) (bl Tryz.prog 95 y.2 (a8 ((cn e.ss)))))) (nx + 1 + 1) Tryz.func40 rfl (.tup (am (.elem (am .v (am (bd _ _) (am (bd _ _) (am (.map (show nx < nx + 1 + 1 by omega)) (am (.map (show nx + 1 < nx + 1 + 1 by omega)) bn)))))) (am .v (am .v (am .v bn))))) zN (fun hlt y => (by (repeat' (refine f9 ?_ (by (try dsimp only); omega) ?_)); all_goals (first | exact gw zS | (repeat' (first | exact trivial | refine ⟨?_, ?_⟩ | exact .v | exact .any | refine .elem ?_ | exact bd _ _ | exact ed _ _ | exact da _ _ | exact eg _ (by (try dsimp only); omega) | exact .box (by (try dsimp only); omega) | exact dp | exact bn | exact gd (fo _ _) | refine ef ?_ ?_ | exact .arr (by (try dsimp only); omega) | exact .own (by (try dsimp only); omega) | exact .map (by (try dsimp only); omega) | exact du _ | refine am ?_ ?_ | exact bd _ _))))) ?_
 simp only [Tryz.ntmps40, List.length_cons, List.length_nil, Nat.reduceAdd, Nat.reduceSub]
 refine bf fun hlt => ?_
 dsimp only at hlt
 refine yS fun _ K1 => ?_
 refine yR ?_
 try dsimp only [St.put]
 refine yB rfl rfl rfl ?_
 try dsimp only [St.put]
 refine yB rfl rfl rfl ?_
 refine yA rfl rfl ?_
 refine yA rfl rfl ?_
 refine yA rfl rfl ?_
 refine yA rfl rfl ?_
 refine yN ?_
 dsimp only [St.put]
 refine K1 _ ?_
 refine ufg ?_
 refine yS fun _ K2 => ?_
 refine yR ?_
 refine yE rfl rfl rfl ?_
 try dsimp only [St.put]
 refine ba rfl (bk rfl rfl rfl) ?_
 try dsimp only [St.put]
 refine ae rfl (yv (α := Int × Int) rfl ?_)
 try dsimp only [St.put]
 refine ae rfl (yv (α := Int × Int) rfl ?_)
 refine aa rfl (dg rfl rfl) ?_
 try dsimp only [St.put]
 refine ae rfl (vj (cs := gg t e nx (nx + 1)) rfl rfl (by simp [gg]) ?_)
 refine yA rfl rfl ?_
 refine yN ?_
 dsimp only [St.put]
 refine K2 _ ?_
 refine yS fun _ K3 => ?_
 refine yR ?_
 refine yF rfl rfl rfl rfl ?_
 refine yL rfl rfl rfl ?_
 refine aa rfl (bx rfl rfl (List.length_map _)) ?_
 refine yA rfl rfl ?_
 refine yN ?_
 dsimp only [St.put]
 refine K3 _ ?_
 refine yS fun _ K4 => ?_
 refine ufh ?_
 refine K4 _ ?_
 refine yS fun _ K5 => ?_
 refine yS fun _ K6 => ?_
 refine yR ?_
 refine yF rfl rfl rfl rfl ?_
 refine yL rfl rfl rfl ?_
 refine aa rfl (bx rfl rfl (List.length_map _)) ?_
 refine yM rfl rfl ?_
 refine yN ?_
 dsimp only [St.put]
 refine K6 _ ?_
 refine bg ?_
 refine di 32 ?_
 simp only [cx, bi, Nat.reduceAdd, List.getD_cons_zero, List.getD_cons_succ, List.getD_nil, dc, Nat.reduceBEq, cond_true, cond_false]
 refine dv ((ah (ah G nx (bl Tryz.prog 95 0 (a8 ((av (e.ss.take 0)))))) (nx + 1) (bl Tryz.prog 95 0 (a8 ((cn (e.ss.take 0))))))) zX ?_
 dsimp only
 refine el (X := Nat × Option (Nat × Nat) × Nat × Nat) (fun x => x.1 ≤ e.ss.length ∧ ma (e.ss.take x.1) x.2.1) (fun x => e.ss.length - x.1) (fun x => [(5, .v (.int .i64 (mc e.ss.length x.2.1 : Int))), (6, .v (.int .i64 (v7 x.2.1 : Int))), (7, .v (.bool x.2.1.isSome)), (8, .any), (9, .any), (10, .any), (11, .any), (12, .any), (13, .any), (14, .any), (15, .any), (16, .any), (17, .any), (18, .any), (31, .v (.int .i64 (x.1 : Int)))]) (fun x G' => (ah (ah G nx (bl Tryz.prog 95 x.2.2.1 (a8 ((av (e.ss.take x.1)))))) (nx + 1) (bl Tryz.prog 95 x.2.2.2 (a8 ((cn (e.ss.take x.1))))))) (0, none, 0, 0) rfl ?_ ?_ ?_ ?_ ?_ ?_
 ·exact ⟨Nat.zero_le _, um9 _⟩
 ·exact zF
 ·exact zX
 ·rintro ⟨k, oc, V, W⟩ hI
  exact (by (try dsimp only); repeat' (first | exact trivial | refine ⟨?_, ?_⟩ | exact .v | exact .any | refine .elem ?_ | exact bd _ _ | exact ed _ _ | exact da _ _ | exact eg _ (by (try dsimp only); omega) | exact .box (by (try dsimp only); omega) | exact dp | exact bn | exact gd (fo _ _) | refine ef ?_ ?_ | exact .arr (by (try dsimp only); omega) | exact .own (by (try dsimp only); omega) | exact .map (by (try dsimp only); omega) | exact du _ | refine am ?_ ?_ | exact bd _ _))
 ·rintro ⟨k, oc, V, W⟩ hI
  exact (by (repeat' (refine f9 ?_ (by (try dsimp only); omega) ?_)); all_goals (first | exact gw zS | (repeat' (first | exact trivial | refine ⟨?_, ?_⟩ | exact .v | exact .any | refine .elem ?_ | exact bd _ _ | exact ed _ _ | exact da _ _ | exact eg _ (by (try dsimp only); omega) | exact .box (by (try dsimp only); omega) | exact dp | exact bn | exact gd (fo _ _) | refine ef ?_ ?_ | exact .arr (by (try dsimp only); omega) | exact .own (by (try dsimp only); omega) | exact .map (by (try dsimp only); omega) | exact du _ | refine am ?_ ?_ | exact bd _ _))))
 rintro ⟨k, oc, V, W⟩ hI
 dsimp only at hI ⊢
 refine yS fun _ K7 => ?_
 refine yR ?_
 refine aa rfl (ck rfl rfl rfl) ?_
 refine yN ?_
 dsimp only [St.put]
 refine K7 _ ?_
 refine yS fun _ K8 => ?_
 refine ak rfl (fun hc => ?_) (fun hc => ?_)
 ·replace hc := of_decide_eq_true hc
  obtain ⟨s, hk⟩ : ∃ x, e.ss[k]? = some x := dw (by omega)
  have hso := he s (e8 hk)
  obtain ⟨o1, o2, o3, o4, o5, o6⟩ := id hso
  refine aq ?_
  refine K8 _ ?_
  refine yS fun _ K9 => ?_
  refine bg ?_
  refine yS fun _ K10 => ?_
  refine yR ?_
  refine yM rfl rfl ?_
  refine aa rfl (b8 rfl rfl rfl rfl (cg (by assumption)) (Enc.len _)) ?_
  refine yE rfl rfl rfl ?_
  try dsimp only [St.put]
  refine ae rfl (bj rfl ?_)
  refine yA rfl rfl ?_
  try dsimp only [St.put]
  refine ae rfl (ax rfl rfl rfl zG rfl rfl (by rfl) ?_)
  refine yN ?_
  dsimp only [St.put]
  refine K10 _ ?_
  refine cw (i := 9) rfl zG (by first | exact List.cons_ne_nil _ _ | (simp; done) | (simp [putAt]; done)) ?_
  dsimp only
  refine yS fun _ K11 => ?_
  refine yS fun _ K12 => ?_
  refine yR ?_
  refine yF rfl rfl rfl rfl ?_
  refine yL rfl rfl rfl ?_
  refine yF rfl rfl rfl rfl ?_
  refine yL rfl rfl rfl ?_
  refine aa rfl (g9 rfl rfl rfl (by omega)) ?_
  refine yM rfl rfl ?_
  refine yN ?_
  dsimp only [St.put]
  rw [← uqm (e.ss.take k) s, ← up5 (e.ss.take k) s]
  refine K12 _ ?_
  refine bg ?_
  refine di 42 ?_
  simp only [cx, bi, Nat.reduceAdd, List.getD_cons_zero, List.getD_cons_succ, List.getD_nil, dc, Nat.reduceBEq, cond_true, cond_false]
  refine dv ((ah (ah G nx (bl Tryz.prog 95 V (a8 ((av (e.ss.take k ++ [eu s 0])))))) (nx + 1) (bl Tryz.prog 95 W (a8 ((cn (e.ss.take k ++ [eu s 0]))))))) zX ?_
  dsimp only
  refine el (X := Nat × Nat × Nat) (fun x => (x.1 : Int) ≤ s.tt - s.fr) (fun x => (s.tt - s.fr).toNat - x.1) (fun x => [(10, .any), (11, .any), (12, .any), (13, .any), (14, .any), (15, .any), (16, .any), (41, .v (.int .i64 (x.1 : Int)))]) (fun x G' => (ah (ah G nx (bl Tryz.prog 95 x.2.1 (a8 ((av (e.ss.take k ++ [eu s x.1])))))) (nx + 1) (bl Tryz.prog 95 x.2.2 (a8 ((cn (e.ss.take k ++ [eu s x.1]))))))) (0, V, W) rfl ?_ ?_ ?_ ?_ ?_ ?_
  ·dsimp only; omega
  ·exact zF
  ·exact zX
  ·rintro ⟨i, V', W'⟩ hI
   exact (by (try dsimp only); repeat' (first | exact trivial | refine ⟨?_, ?_⟩ | exact .v | exact .any | refine .elem ?_ | exact bd _ _ | exact ed _ _ | exact da _ _ | exact eg _ (by (try dsimp only); omega) | exact .box (by (try dsimp only); omega) | exact dp | exact bn | exact gd (fo _ _) | refine ef ?_ ?_ | exact .arr (by (try dsimp only); omega) | exact .own (by (try dsimp only); omega) | exact .map (by (try dsimp only); omega) | exact du _ | refine am ?_ ?_ | exact bd _ _))
  ·rintro ⟨i, V', W'⟩ hI
   exact (by (repeat' (refine f9 ?_ (by (try dsimp only); omega) ?_)); all_goals (first | exact gw zS | (repeat' (first | exact trivial | refine ⟨?_, ?_⟩ | exact .v | exact .any | refine .elem ?_ | exact bd _ _ | exact ed _ _ | exact da _ _ | exact eg _ (by (try dsimp only); omega) | exact .box (by (try dsimp only); omega) | exact dp | exact bn | exact gd (fo _ _) | refine ef ?_ ?_ | exact .arr (by (try dsimp only); omega) | exact .own (by (try dsimp only); omega) | exact .map (by (try dsimp only); omega) | exact du _ | refine am ?_ ?_ | exact bd _ _))))
  rintro ⟨i, V', W'⟩ hJ
  dsimp only at hJ ⊢
  refine yS fun _ K13 => ?_
  refine yR ?_
  refine aa rfl (ck rfl rfl rfl) ?_
  refine yN ?_
  dsimp only [St.put]
  refine K13 _ ?_
  refine yS fun _ K14 => ?_
  refine ak rfl (fun hc => ?_) (fun hc => ?_)
  ·replace hc := of_decide_eq_true hc
   refine aq ?_
   refine K14 _ ?_
   refine yS fun _ K15 => ?_
   refine bg ?_
   refine yS fun _ K16 => ?_
   refine yR ?_
   refine yM rfl rfl ?_
   refine yA rfl rfl ?_
   refine yN ?_
   dsimp only [St.put]
   refine K16 _ ?_
   refine yS fun _ K17 => ?_
   refine gh [(0, none), (1, none), (2, none), (3, none), (4, none), (5, none), (6, none), (7, none), (8, none), (9, none), (10, none), (11, none), (12, none), (13, none), (14, some 15), (16, none), (17, none)] (fun i => [17].contains i) (fun i => [14, 15, 16, 17].contains i) (fun i => [0, 2, 4, 5, 6, 7, 9, 11, 12, 13].contains i) [] (by kernel_rfl) (by kernel_rfl) ?_
   refine ai rfl rfl rfl rfl (cd rfl rfl rfl) ?_
   try dsimp only [St.put]
   refine az rfl rfl rfl rfl (bq rfl rfl) ?_
   refine ai rfl rfl rfl rfl (cd rfl rfl rfl) ?_
   try dsimp only [St.put]
   refine az rfl rfl rfl rfl (bq rfl rfl) ?_
   refine xM rfl rfl rfl rfl rfl ?_
   refine ai rfl rfl rfl rfl (ca rfl rfl rfl (by omega)) ?_
   refine ai rfl rfl rfl rfl (i3 rfl rfl) ?_
   refine ai rfl rfl rfl rfl (cd rfl rfl rfl) ?_
   try dsimp only [St.put]
   refine az rfl rfl rfl rfl (bq rfl rfl) ?_
   refine ai rfl rfl rfl rfl (cd rfl rfl rfl) ?_
   try dsimp only [St.put]
   refine az rfl rfl rfl rfl (bq rfl rfl) ?_
   refine xM rfl rfl rfl rfl rfl ?_
   refine ai rfl rfl rfl rfl (ca rfl rfl rfl (by omega)) ?_
   refine ai rfl rfl rfl rfl (i3 rfl rfl) ?_
   refine il ?_
   refine ufq rfl rfl rfl rfl rfl rfl rfl rfl (by decide) (by simp) ?_
   try dsimp only [St.put]
   refine jp rfl rfl rfl (ax rfl rfl rfl zG rfl rfl (by rfl) ⟨zD, ?_⟩)
   try dsimp only [St.put]
   refine gl rfl rfl rfl rfl (ax rfl rfl rfl zG rfl rfl (by rfl) ?_)
   refine ij ?_
   dsimp only [St.put]
   refine K17 _ ?_
   refine cw (i := 11) rfl zG (by first | exact List.cons_ne_nil _ _ | (simp; done) | (simp [putAt]; done)) ?_
   refine cw (i := 12) rfl zG (by first | exact List.cons_ne_nil _ _ | (simp; done) | (simp [putAt]; done)) ?_
   dsimp only
   refine di 42 ?_
   simp only [cx, bi, Nat.reduceAdd, List.getD_cons_zero, List.getD_cons_succ, List.getD_nil, dc, Nat.reduceBEq, cond_true, cond_false]
   refine mn (X := Nat) (fun x => True) (fun x => []) (fun x G' => (ah (ah G nx (bl Tryz.prog 95 x (a8 ((av (e.ss.take k ++ [eu s (i + 1)])))))) (nx + 1) (bl Tryz.prog 95 W' (a8 ((cn (e.ss.take k ++ [eu s i]))))))) rfl ?_ ?_ ?_ ?_
   ·rintro V2 hI
    exact (by (try dsimp only); repeat' (first | exact trivial | refine ⟨?_, ?_⟩ | exact .v | exact .any | refine .elem ?_ | exact bd _ _ | exact ed _ _ | exact da _ _ | exact eg _ (by (try dsimp only); omega) | exact .box (by (try dsimp only); omega) | exact dp | exact bn | exact gd (fo _ _) | refine ef ?_ ?_ | exact .arr (by (try dsimp only); omega) | exact .own (by (try dsimp only); omega) | exact .map (by (try dsimp only); omega) | exact du _ | refine am ?_ ?_ | exact bd _ _))
   ·rintro V2 hI
    exact (by (repeat' (refine f9 ?_ (by (try dsimp only); omega) ?_)); all_goals (first | exact gw zS | (repeat' (first | exact trivial | refine ⟨?_, ?_⟩ | exact .v | exact .any | refine .elem ?_ | exact bd _ _ | exact ed _ _ | exact da _ _ | exact eg _ (by (try dsimp only); omega) | exact .box (by (try dsimp only); omega) | exact dp | exact bn | exact gd (fo _ _) | refine ef ?_ ?_ | exact .arr (by (try dsimp only); omega) | exact .own (by (try dsimp only); omega) | exact .map (by (try dsimp only); omega) | exact du _ | refine am ?_ ?_ | exact bd _ _))))
   ·refine yS fun _ K19 => ?_
    obtain ⟨v1, hv1⟩ : ∃ v : L2, (a8 (av (e.ss.take k ++ [eu s i])) (s.ch, s.fr + i)).getD (ia (.agg #[.int .i64 0, .int .i64 0])) = .agg [.v (.int .i64 v.1), .v (.int .i64 v.2)] := oh _ _
    obtain ⟨b1, hb1⟩ : ∃ b, (a8 (av (e.ss.take k ++ [eu s i])) (s.ch, s.fr + i)).isSome = b := ⟨_, rfl⟩
    refine gh [(0, none), (1, none), (2, none), (3, none), (4, none), (5, none), (6, none), (7, none), (8, none), (9, none), (10, none), (11, none)] (fun i => [10].contains i) (fun i => [9, 10].contains i) (fun i => [0, 1, 2, 6, 7, 8, 11].contains i) [nx] (by kernel_rfl) (by kernel_rfl) ?_
    refine xM rfl rfl rfl rfl rfl ?_
    refine ai rfl rfl rfl rfl (ie rfl rfl) ?_
    refine ai rfl rfl rfl rfl (cd rfl rfl rfl) ?_
    try dsimp only [St.put]
    refine az rfl rfl rfl rfl (bq rfl rfl) ?_
    try dsimp only [St.put]
    refine az rfl rfl rfl rfl (bk rfl rfl rfl) ?_
    try dsimp only [St.put]
    refine az rfl rfl rfl rfl (n3 (s.ch, s.fr + i) rfl rfl zG (by simp) rfl hv1 hb1) ?_
    refine xM rfl rfl rfl rfl rfl ?_
    refine ai rfl rfl rfl rfl (d9 rfl rfl rfl) ?_
    refine ai rfl rfl rfl rfl (d9 rfl rfl rfl) ?_
    refine il ?_
    try dsimp only [St.put]
    refine jp rfl rfl rfl (bj rfl ⟨zD, ?_⟩)
    try dsimp only [St.put]
    refine gl rfl rfl rfl rfl (ax rfl rfl rfl zG rfl rfl (by rfl) ?_)
    refine jl rfl rfl rfl rfl (eh rfl (by constructor)) ?_
    refine ij ?_
    dsimp only [St.put]
    refine K19 _ ?_
    refine yS fun _ K20 => ?_
    refine yR ?_
    refine yM rfl rfl ?_
    refine aa rfl (c9 rfl rfl) ?_
    refine yN ?_
    dsimp only [St.put]
    refine K20 _ ?_
    refine ak rfl (fun hc => ?_) (fun hc => ?_)
    ·have hn1 : av (e.ss.take k ++ [eu s i]) (s.ch, s.fr + i) = none := by
      have : b1 = false := by simpa using hc
      rw [this] at hb1
      exact capp_none.1 (by simpa using hb1)
     refine gh [(0, none), (1, none), (2, none), (3, none), (4, none), (5, none), (6, none)] (fun i => [6].contains i) (fun i => [6].contains i) (fun i => [0, 1, 2].contains i) [] (by kernel_rfl) (by kernel_rfl) ?_
     refine xM rfl rfl rfl rfl rfl ?_
     refine ai rfl rfl rfl rfl (ie rfl rfl) ?_
     refine ai rfl rfl rfl rfl (cd rfl rfl rfl) ?_
     try dsimp only [St.put]
     refine az rfl rfl rfl rfl (bq rfl rfl) ?_
     try dsimp only [St.put]
     refine az rfl rfl rfl rfl (bk rfl rfl rfl) ?_
     try dsimp only [St.put]
     refine az rfl rfl rfl rfl (bk rfl rfl rfl) ?_
     refine il ?_
     try dsimp only [St.put]
     refine gl rfl rfl rfl rfl (yu ((s.ch, s.fr + i)) rfl rfl rfl zG rfl (ubj (ufm (e.ss.take k) s i) hn1) ?_)
     refine ij ?_
     dsimp only [St.put]
     first
      | (rw [hgo]; exact ⟨V', trivial, ⟨⟨rfl, rfl⟩, zF, zB, zN, zX⟩⟩)
      | exact ⟨V' + 1, trivial, ⟨⟨rfl, rfl⟩, zF, zB, zN, zX⟩⟩
    have hgo := ubi (ufm (e.ss.take k) s i) (fun h0 => by
     have : b1 = true := by simpa using hc
     rw [this, capp_none.2 h0] at hb1
     cases hb1)
    refine aq ?_
    first
     | (rw [hgo]; exact ⟨V', trivial, ⟨⟨rfl, rfl⟩, zF, zB, zN, zX⟩⟩)
     | exact ⟨V' + 1, trivial, ⟨⟨rfl, rfl⟩, zF, zB, zN, zX⟩⟩
   rintro V2 hT
   dsimp only at hT ⊢
   refine yS fun _ K21 => ?_
   obtain ⟨v3, hv3⟩ : ∃ v : L2, (a8 (cn (e.ss.take k ++ [eu s i])) (s.au, s.fi + i)).getD (ia (.agg #[.int .i64 0, .int .i64 0])) = .agg [.v (.int .i64 v.1), .v (.int .i64 v.2)] := oh _ _
   obtain ⟨b3, hb3⟩ : ∃ b, (a8 (cn (e.ss.take k ++ [eu s i])) (s.au, s.fi + i)).isSome = b := ⟨_, rfl⟩
   refine gh [(0, none), (1, none), (2, none), (3, none), (4, none), (5, none), (6, none), (7, none), (8, none), (9, none), (10, none), (11, none)] (fun i => [10].contains i) (fun i => [9, 10].contains i) (fun i => [0, 1, 2, 6, 7, 8, 11].contains i) [nx + 1] (by kernel_rfl) (by kernel_rfl) ?_
   refine xM rfl rfl rfl rfl rfl ?_
   refine ai rfl rfl rfl rfl (ie rfl rfl) ?_
   refine ai rfl rfl rfl rfl (cd rfl rfl rfl) ?_
   try dsimp only [St.put]
   refine az rfl rfl rfl rfl (bq rfl rfl) ?_
   try dsimp only [St.put]
   refine az rfl rfl rfl rfl (bk rfl rfl rfl) ?_
   try dsimp only [St.put]
   refine az rfl rfl rfl rfl (n3 (s.au, s.fi + i) rfl rfl zG (by simp) rfl hv3 hb3) ?_
   refine xM rfl rfl rfl rfl rfl ?_
   refine ai rfl rfl rfl rfl (d9 rfl rfl rfl) ?_
   refine ai rfl rfl rfl rfl (d9 rfl rfl rfl) ?_
   refine il ?_
   try dsimp only [St.put]
   refine jp rfl rfl rfl (bj rfl ⟨zD, ?_⟩)
   try dsimp only [St.put]
   refine gl rfl rfl rfl rfl (ax rfl rfl rfl zG rfl rfl (by rfl) ?_)
   refine jl rfl rfl rfl rfl (eh rfl (by constructor)) ?_
   refine ij ?_
   dsimp only [St.put]
   refine K21 _ ?_
   refine yS fun _ K22 => ?_
   refine yR ?_
   refine yM rfl rfl ?_
   refine aa rfl (c9 rfl rfl) ?_
   refine yN ?_
   dsimp only [St.put]
   refine K22 _ ?_
   refine ak rfl (fun hc => ?_) (fun hc => ?_)
   ·have hn3 : cn (e.ss.take k ++ [eu s i]) (s.au, s.fi + i) = none := by
     have : b3 = false := by simpa using hc
     rw [this] at hb3
     exact capp_none.1 (by simpa using hb3)
    refine gh [(0, none), (1, none), (2, none), (3, none), (4, none), (5, none), (6, none)] (fun i => [6].contains i) (fun i => [6].contains i) (fun i => [0, 1, 2].contains i) [] (by kernel_rfl) (by kernel_rfl) ?_
    refine xM rfl rfl rfl rfl rfl ?_
    refine ai rfl rfl rfl rfl (ie rfl rfl) ?_
    refine ai rfl rfl rfl rfl (cd rfl rfl rfl) ?_
    try dsimp only [St.put]
    refine az rfl rfl rfl rfl (bq rfl rfl) ?_
    try dsimp only [St.put]
    refine az rfl rfl rfl rfl (bk rfl rfl rfl) ?_
    try dsimp only [St.put]
    refine az rfl rfl rfl rfl (bk rfl rfl rfl) ?_
    refine il ?_
    try dsimp only [St.put]
    refine gl rfl rfl rfl rfl (yu ((s.au, s.fi + i)) rfl rfl rfl zG rfl (ubj (uff (e.ss.take k) s i) hn3) ?_)
    refine ij ?_
    dsimp only [St.put]
    refine K15 _ ?_
    refine yR ?_
    refine aa rfl (ca rfl rfl rfl (by omega)) ?_
    refine yM rfl rfl ?_
    refine yN ?_
    dsimp only [St.put]
    first
     | (rw [hgo]; exact ⟨(i + 1, V2, W'), by (dsimp only; omega), by (dsimp only; omega), ⟨⟨rfl, rfl⟩, zF, zB, zN, zX⟩⟩)
     | exact ⟨(i + 1, V2, W' + 1), by (dsimp only; omega), by (dsimp only; omega), ⟨⟨rfl, rfl⟩, zF, zB, zN, zX⟩⟩
   have hgo := ubi (uff (e.ss.take k) s i) (fun h0 => by
    have : b3 = true := by simpa using hc
    rw [this, capp_none.2 h0] at hb3
    cases hb3)
   refine aq ?_
   refine K15 _ ?_
   refine yR ?_
   refine aa rfl (ca rfl rfl rfl (by omega)) ?_
   refine yM rfl rfl ?_
   refine yN ?_
   dsimp only [St.put]
   first
    | (rw [hgo]; exact ⟨(i + 1, V2, W'), by (dsimp only; omega), by (dsimp only; omega), ⟨⟨rfl, rfl⟩, zF, zB, zN, zX⟩⟩)
    | exact ⟨(i + 1, V2, W' + 1), by (dsimp only; omega), by (dsimp only; omega), ⟨⟨rfl, rfl⟩, zF, zB, zN, zX⟩⟩
  replace hc := of_decide_eq_false hc
  rw [ugz hk (show s.tt = s.fr + i by omega)]
  refine dl ?_
  refine K11 _ ?_
  refine yS fun _ K23 => ?_
  refine yR ?_
  refine yF rfl rfl rfl rfl ?_
  refine yL rfl rfl rfl ?_
  refine yM rfl rfl ?_
  refine aa rfl (uki rfl rfl rfl (by first | exact rfl | omega) (by first | omega | (simp; omega))) ?_
  refine aa rfl (bx rfl rfl rfl) ?_
  refine yM rfl rfl ?_
  refine yN ?_
  dsimp only [St.put]
  simp only [← List.map_take, List.length_map]
  have hkl : (e.ss.take k).length = k := by rw [List.length_take]; omega
  rw [hkl]
  refine K23 _ ?_
  refine bg ?_
  refine di 99 ?_
  simp only [cx, bi, Nat.reduceAdd, List.getD_cons_zero, List.getD_cons_succ, List.getD_nil, dc, Nat.reduceBEq, cond_true, cond_false]
  refine dv ((ah (ah G nx (bl Tryz.prog 95 V' (a8 ((av (e.ss.take (k + 1))))))) (nx + 1) (bl Tryz.prog 95 W' (a8 ((cn (e.ss.take (k + 1)))))))) zX ?_
  dsimp only
  refine el (X := Nat) (fun j => j ≤ k ∧ ∀ i, i < j → i < mc e.ss.length oc → ¬ ju e.ss i k) (fun j => k - j) (fun j => [(17, .any), (18, .any), (98, .v (.int .i64 (j : Int)))]) (fun j G' => G') 0 rfl ?_ ?_ (fun _ _ h => h) ?_ ?_ ?_
  ·exact ⟨Nat.zero_le _, fun i h => by omega⟩
  ·exact zF
  ·rintro j hI
   exact (by (try dsimp only); repeat' (first | exact trivial | refine ⟨?_, ?_⟩ | exact .v | exact .any | refine .elem ?_ | exact bd _ _ | exact ed _ _ | exact da _ _ | exact eg _ (by (try dsimp only); omega) | exact .box (by (try dsimp only); omega) | exact dp | exact bn | exact gd (fo _ _) | refine ef ?_ ?_ | exact .arr (by (try dsimp only); omega) | exact .own (by (try dsimp only); omega) | exact .map (by (try dsimp only); omega) | exact du _ | refine am ?_ ?_ | exact bd _ _))
  ·exact fun _ _ _ _ h => .inl h
  rintro j hM
  dsimp only at hM ⊢
  refine yS fun _ K24 => ?_
  refine yR ?_
  refine aa rfl (ck rfl rfl rfl) ?_
  refine yN ?_
  dsimp only [St.put]
  refine K24 _ ?_
  refine yS fun _ K25 => ?_
  refine ak rfl (fun hc => ?_) (fun hc => ?_)
  ·replace hc := of_decide_eq_true hc
   obtain ⟨u, hu⟩ : ∃ x, e.ss[j]? = some x := dw (by omega)
   have hu' : (e.ss.take k)[j]? = some u := by rw [List.getElem?_take, if_pos (by omega)]; exact hu
   have huo := he u (e8 hu)
   refine aq ?_
   refine K25 _ ?_
   refine yS fun _ K26 => ?_
   refine bg ?_
   refine yS fun _ K27 => ?_
   refine yR ?_
   refine yM rfl rfl ?_
   refine aa rfl (b8 rfl rfl rfl rfl (cg (by assumption)) (Enc.len _)) ?_
   refine yE rfl rfl rfl ?_
   try dsimp only [St.put]
   refine ae rfl (bj rfl ?_)
   refine yA rfl rfl ?_
   try dsimp only [St.put]
   refine ae rfl (ax rfl rfl rfl zG rfl rfl (by rfl) ?_)
   refine yN ?_
   dsimp only [St.put]
   refine K27 _ ?_
   refine cw (i := 18) rfl zG (by first | exact List.cons_ne_nil _ _ | (simp; done) | (simp [putAt]; done)) ?_
   dsimp only
   refine di 99 ?_
   simp only [cx, bi, Nat.reduceAdd, List.getD_cons_zero, List.getD_cons_succ, List.getD_nil, dc, Nat.reduceBEq, cond_true, cond_false]
   refine mn (X := Bool) (fun b => (b = true → j < mc e.ss.length oc ∧ ju e.ss j k) ∧ (b = false → j < mc e.ss.length oc → ¬ ju e.ss j k)) (fun b => [(115, .v (.bool b))]) (fun b G' => G') rfl ?_ (fun _ _ _ _ h => .inl h) ?_ ?_
   ·rintro b hI
    exact (by (try dsimp only); repeat' (first | exact trivial | refine ⟨?_, ?_⟩ | exact .v | exact .any | refine .elem ?_ | exact bd _ _ | exact ed _ _ | exact da _ _ | exact eg _ (by (try dsimp only); omega) | exact .box (by (try dsimp only); omega) | exact dp | exact bn | exact gd (fo _ _) | refine ef ?_ ?_ | exact .arr (by (try dsimp only); omega) | exact .own (by (try dsimp only); omega) | exact .map (by (try dsimp only); omega) | exact du _ | refine am ?_ ?_ | exact bd _ _))
   ·refine yR ?_
    refine yM rfl rfl ?_
    refine yM rfl rfl ?_
    refine aa rfl (ck rfl rfl rfl) ?_
    refine yM rfl rfl ?_
    refine et (fun hs => ?_) (fun hs => ?_)
    ·have h3 := of_decide_eq_true hs
     refine yE rfl rfl rfl ?_
     refine yE rfl rfl rfl ?_
     refine aa rfl (nj (x := u) (y := s) rfl rfl rfl) ?_
     refine yM rfl rfl ?_
     refine et (fun hs => ?_) (fun hs => ?_)
     ·have h7 := of_decide_eq_true hs
      refine yK rfl ?_
      refine yK rfl ?_
      refine yK rfl ?_
      refine aa rfl (co rfl rfl (by constructor)) ?_
      refine aa rfl (co rfl rfl (by constructor)) ?_
      refine yN ?_
      dsimp only [St.put]
      refine ⟨_, ?_, ⟨⟨rfl, rfl⟩, zF, zB, zN, zX⟩⟩
      first
       | exact ⟨fun _ => ⟨by omega, (nz (by omega) hu hk).2 (by rw [h7]; exact y6 hso)⟩, fun h => by cases h⟩
       | exact ⟨fun h => ⟨by omega, (nz (by omega) hu hk).2 h⟩, fun h _ hcl => by rw [(nz (by omega) hu hk).1 hcl] at h; cases h⟩
       | exact ⟨fun h => (by cases h), fun _ h => absurd h (by omega)⟩
     have h7 := of_decide_eq_false hs
     refine yE rfl rfl rfl ?_
     refine yE rfl rfl rfl ?_
     try dsimp only [St.put]
     refine ae rfl (a7 rfl rfl rfl (uk0 u s huo hso) ?_)
     refine aa rfl (dh rfl rfl (by constructor)) ?_
     refine aa rfl (co rfl rfl (by constructor)) ?_
     refine yN ?_
     dsimp only [St.put]
     refine ⟨_, ?_, ⟨⟨rfl, rfl⟩, zF, zB, zN, zX⟩⟩
     first
      | exact ⟨fun _ => ⟨by omega, (nz (by omega) hu hk).2 (by rw [h7]; exact y6 hso)⟩, fun h => by cases h⟩
      | exact ⟨fun h => ⟨by omega, (nz (by omega) hu hk).2 h⟩, fun h _ hcl => by rw [(nz (by omega) hu hk).1 hcl] at h; cases h⟩
      | exact ⟨fun h => (by cases h), fun _ h => absurd h (by omega)⟩
    have h3 := of_decide_eq_false hs
    refine yK rfl ?_
    refine yK rfl ?_
    refine yK rfl ?_
    refine yK rfl ?_
    refine yK rfl ?_
    refine yK rfl ?_
    refine yK rfl ?_
    refine yK rfl ?_
    refine aa rfl (dh rfl rfl (by constructor)) ?_
    refine yN ?_
    dsimp only [St.put]
    refine ⟨_, ?_, ⟨⟨rfl, rfl⟩, zF, zB, zN, zX⟩⟩
    first
     | exact ⟨fun _ => ⟨by omega, (nz (by omega) hu hk).2 (by rw [h7]; exact y6 hso)⟩, fun h => by cases h⟩
     | exact ⟨fun h => ⟨by omega, (nz (by omega) hu hk).2 h⟩, fun h _ hcl => by rw [(nz (by omega) hu hk).1 hcl] at h; cases h⟩
     | exact ⟨fun h => (by cases h), fun _ h => absurd h (by omega)⟩
   rintro b hst
   dsimp only at hst ⊢
   refine ak rfl (fun hc => ?_) (fun hc => ?_)
   ·have hb1 := hc
    refine yS fun _ K29 => ?_
    refine yR ?_
    refine yM rfl rfl ?_
    refine yM rfl rfl ?_
    refine yA rfl rfl ?_
    refine yA rfl rfl ?_
    refine yA rfl rfl ?_
    refine yN ?_
    dsimp only [St.put]
    refine K29 _ ?_
    refine dl ?_
    refine K9 _ ?_
    refine yR ?_
    refine aa rfl (ca rfl rfl rfl (by omega)) ?_
    refine yM rfl rfl ?_
    refine yN ?_
    dsimp only [St.put]
    first
     | exact ⟨(k + 1, some (j, k), _, _), by (dsimp only; omega), ⟨by (dsimp only; omega), udp hI.2 (hst.1 hb1).1 (hst.1 hb1).2 hM.2⟩, ⟨⟨rfl, rfl⟩, zF, zB, zN, zX⟩⟩
     | exact ⟨(k + 1, oc, _, _), by (dsimp only; omega), ⟨by (dsimp only; omega), udn (by omega) hI.2 fun i h1 h2 => hM.2 i (by omega) h2⟩, ⟨⟨rfl, rfl⟩, zF, zB, zN, zX⟩⟩
   have hb0 := hc
   refine aq ?_
   refine K26 _ ?_
   refine yR ?_
   refine aa rfl (ca rfl rfl rfl (by omega)) ?_
   refine yM rfl rfl ?_
   refine yN ?_
   dsimp only [St.put]
   exact ⟨j + 1, by omega, ⟨by omega, fun i h1 h2 => by
     rcases Nat.eq_or_lt_of_le (Nat.le_of_lt_succ h1) with h | h
     ·subst h; exact hst.2 hb0 h2
     exact hM.2 i h h2⟩, ⟨⟨rfl, rfl⟩, zF, zB, zN, zX⟩⟩
  try replace hc := of_decide_eq_false hc
  refine dl ?_
  refine K9 _ ?_
  refine yR ?_
  refine aa rfl (ca rfl rfl rfl (by omega)) ?_
  refine yM rfl rfl ?_
  refine yN ?_
  dsimp only [St.put]
  first
   | exact ⟨(k + 1, some (j, k), _, _), by (dsimp only; omega), ⟨by (dsimp only; omega), udp hI.2 (hst.1 hb1).1 (hst.1 hb1).2 hM.2⟩, ⟨⟨rfl, rfl⟩, zF, zB, zN, zX⟩⟩
   | exact ⟨(k + 1, oc, _, _), by (dsimp only; omega), ⟨by (dsimp only; omega), udn (by omega) hI.2 fun i h1 h2 => hM.2 i (by omega) h2⟩, ⟨⟨rfl, rfl⟩, zF, zB, zN, zX⟩⟩
 have hk : e.ss.length ≤ k := by have := of_decide_eq_false hc; omega
 have hoc : ff e.ss = oc := unb (by
  have h1 := hI.2
  rw [fj hk] at h1
  rw [List.take_length]; exact h1)
 rw [fj hk, ← hoc]
 refine dl ?_
 refine K5 _ ?_
 refine yS fun _ K30 => ?_
 refine yR ?_
 refine yM rfl rfl ?_
 refine yM rfl rfl ?_
 refine yM rfl rfl ?_
 refine yM rfl rfl ?_
 refine yA rfl rfl ?_
 refine yA rfl rfl ?_
 refine yA rfl rfl ?_
 refine yA rfl rfl ?_
 refine yN ?_
 dsimp only [St.put]
 refine K30 _ ?_
 refine aj ?_
 refine ⟨(V, W), ?_⟩
 refine unl rfl (by constructor) (by constructor) (by constructor) (by constructor) zN zX ?_ ?_ ?_ ?_
 ·rfl
 ·rfl
 ·rfl
 rfl
end Go.Proofs.YtjjklfgpffgnfabGreatDoor
