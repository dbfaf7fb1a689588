/-
  What the walks through the program rest on: values, states, steps, calls (VcCopies, OpenL, OpenM, Trod).
-/
import Derived.Test.YthboenlglkmnjaaDoorPartD
import Derived.Test.YthboenlglkmnjaaDoorPartE
import Derived.Test.YthboenlglkmnjaaDoorPartB
import Derived.Test.YthboenlglkmnjaaDoorRows
import Derived.Test.YthboenlglkmnjaaDoorPartC
import Derived.LaidMore
import Derived.RowKitVeiled
import Derived.Carry
namespace Go.AB
open Go Go.RowKit
open Go.AB.Enc (cells)
open Go.PB (Chap bd PlaceD bh CopyD bw)
theorem uz (t : bd) (rs : List bh) : (c9 t rs).map (·.id) = t.map (·.id) := by
 apply List.ext_getElem?
 intro k
 rw [List.getElem?_map, List.getElem?_map, rz]
 cases t[k]? <;> rfl
end Go.AB
namespace Go.Proofs.YthboenlglkmnjaaDoor
set_option maxRecDepth 10000
open Go Go.RowKit Go.AB
open Go.AB.Enc (cells)
open Go.PB (Chap bd PlaceD bh CopyD bw)
theorem ucj (n : Nat) (t : bd) (c : CopyD) (h0 : ec t c = 0) (G : Nat → Option GObj) (nx : Nat) (hF : G n = some gi) (hnx : n < nx) : PC Tryd.prog 8 [dn t, val c] G nx fun r' G' nx' => ∃ y : List (List Ent) × Nat, (nx ≤ y.2 ∧ RiseE y.1.flatten ∧ (∀ e ∈ y.1.flatten, nx ≤ e.1 ∧ e.1 < y.2) ∧ y.1.map (fun Q => Q.map (·.2.2.2)) = (c9 t c.rs).map (·.lines)) ∧ r' = .tup [.agg [.list (dp (t.map (·.id)) y.1) .none], .v (.int .i64 0)] ∧ G' = d9 9 G y.1.flatten ∧ nx' = y.2 := by
 refine vp (nx := nx) (G := G) (args := [dn t, val c]) (fun y : List (List Ent) × Nat => .tup [.agg [.list (dp (t.map (·.id)) y.1) .none], .v (.int .i64 0)]) (fun y => d9 9 G y.1.flatten) (fun y => y.2) (fun y => nx ≤ y.2 ∧ RiseE y.1.flatten ∧ (∀ e ∈ y.1.flatten, nx ≤ e.1 ∧ e.1 < y.2) ∧ y.1.map (fun Q => Q.map (·.2.2.2)) = (c9 t c.rs).map (·.lines)) Tryd.func8 rfl (fun y hS => .tup (cv (.agg (cv (ul (ku fun e he => (hS.2.2.1 e he).2)) de)) (cv .v de))) (fun y hS => zN) (fun hlt y hS => (by (repeat' (refine ji ?_ (by (try dsimp only); omega) ?_)); all_goals (first | exact jp zS | (repeat' (first | exact trivial | refine ⟨?_, ?_⟩ | exact .v | exact .any | refine .elem ?_ | exact ce _ _ | exact fh _ _ | exact e9 _ _ | exact fg _ (by (try dsimp only); omega) | exact .box (by (try dsimp only); omega) | exact fe | exact de | exact l3 (fun e he => (hS.2.2.1 e he).2) fun m o h => .inl h | refine fb ?_ ?_ | exact .arr (by (try dsimp only); omega) | exact .own (by (try dsimp only); omega) | exact .map (by (try dsimp only); omega) | exact ey _ | refine cv ?_ ?_ | exact ce _ _))))) ?_
 simp only [Tryd.ntmps8, List.length_cons, List.length_nil, Nat.reduceAdd, Nat.reduceSub]
 refine b9 fun hlt => ?_
 dsimp only at hlt
 obtain ⟨h1, h2⟩ := copyEr_zero.1 h0
 obtain ⟨_, h3, h4, _⟩ := copyB_true.1 h2
 refine aj fun K1 hK1 => ?_
 refine aq ?_
 try dsimp only [St.put]
 refine av rfl (cw rfl rfl (by simp) ?_)
 try dsimp only [St.put]
 refine av rfl (cw rfl rfl (by simp) ?_)
 try dsimp only [St.put]
 refine av rfl (di rfl ?_)
 refine ae rfl (ax rfl (by constructor)) ?_
 refine am ?_
 dsimp only [St.put]
 refine hK1 _ ?_
 refine aj fun K2 hK2 => ?_
 refine aq ?_
 try dsimp only [St.put]
 first | refine aa rfl (aw rfl rfl) ?_ | refine aa rfl (ah rfl rfl (Enc.len _)) ?_ | refine aa rfl (ah rfl rfl rfl) ?_ | refine aa rfl (a7 rfl rfl zG trivial (by first | rfl | assumption)) ?_ | refine aa rfl (az rfl rfl zG trivial (by rfl)) ?_ | refine aa rfl (a8 rfl rfl zG trivial (by simp)) ?_ | refine aa rfl (ai rfl rfl zG trivial (ay (by assumption) rfl)) ?_ | refine aa rfl (ai rfl rfl zG trivial (by assumption)) ?_ | refine aa rfl (a9 rfl rfl zG trivial rfl (by assumption) rfl (by decide)) ?_ | refine aa rfl (ba rfl rfl zG (by rfl)) ?_
 try dsimp only [St.put]
 first | refine aa rfl (aw rfl rfl) ?_ | refine aa rfl (ah rfl rfl (Enc.len _)) ?_ | refine aa rfl (ah rfl rfl rfl) ?_ | refine aa rfl (a7 rfl rfl zG trivial (by first | rfl | assumption)) ?_ | refine aa rfl (az rfl rfl zG trivial (by rfl)) ?_ | refine aa rfl (a8 rfl rfl zG trivial (by simp)) ?_ | refine aa rfl (ai rfl rfl zG trivial (ay (by assumption) rfl)) ?_ | refine aa rfl (ai rfl rfl zG trivial (by assumption)) ?_ | refine aa rfl (a9 rfl rfl zG trivial rfl (by assumption) rfl (by decide)) ?_ | refine aa rfl (ba rfl rfl zG (by rfl)) ?_
 try dsimp only [St.put]
 refine av rfl (gq rfl rfl rfl (qr n t c) zG (by dsimp only; omega) ?_)
 refine ae rfl (ar rfl (by constructor)) ?_
 refine ae rfl (da rfl rfl rfl) ?_
 refine ae rfl (da rfl rfl rfl) ?_
 refine ae rfl (ax rfl (by constructor)) ?_
 refine ae rfl (ax rfl (by constructor)) ?_
 refine am ?_
 dsimp only [St.put]
 refine hK2 _ ?_
 refine aj fun K3 hK3 => ?_
 refine aj fun K4 hK4 => ?_
 refine aq ?_
 refine ae rfl (ar rfl (by constructor)) ?_
 refine ae rfl (em rfl rfl rfl) ?_
 refine am ?_
 dsimp only [St.put]
 refine hK4 _ ?_
 refine bl rfl (fun hc => ?_) (fun hc => ?_)
 ·exact absurd h0 (gn hc)
 ·rw [show ju t c = .elem [lst t] by simp [ju, h0]]
  refine bn ?_
  refine hK3 _ ?_
  refine aj fun K5 hK5 => ?_
  refine aq ?_
  refine ae rfl (ar rfl (by constructor)) ?_
  try dsimp only [St.put]
  first | refine aa rfl (aw rfl rfl) ?_ | refine aa rfl (ah rfl rfl (Enc.len _)) ?_ | refine aa rfl (ah rfl rfl rfl) ?_ | refine aa rfl (a7 rfl rfl zG trivial (by first | rfl | assumption)) ?_ | refine aa rfl (az rfl rfl zG trivial (by rfl)) ?_ | refine aa rfl (a8 rfl rfl zG trivial (by simp)) ?_ | refine aa rfl (ai rfl rfl zG trivial (ay (by assumption) rfl)) ?_ | refine aa rfl (ai rfl rfl zG trivial (by assumption)) ?_ | refine aa rfl (a9 rfl rfl zG trivial rfl (by assumption) rfl (by decide)) ?_ | refine aa rfl (ba rfl rfl zG (by rfl)) ?_
  try dsimp only [St.put]
  refine av rfl (xy rfl rfl rfl (uev n t c h1 h3 h4 _ _ zG (by dsimp only [St.put]; omega)) (fun ⟨QQ, M⟩ ⟨u1, u2, u3, u4⟩ => ?_))
  try dsimp only [St.put]
  refine av rfl (c8 rfl rfl rfl ((ia (fun e he => by have := (u3 e he).1; dsimp only [St.put] at this; omega)).trans zG) rfl rfl (by rfl) ?_)
  refine ae rfl (ax rfl (by constructor)) ?_
  refine am ?_
  dsimp only [St.put]
  skip
  refine hK5 _ ?_
  refine bk ?_
  refine ⟨(QQ, M), ⟨by dsimp only [St.put] at u1; dsimp only; omega, u2, (fun e he => ⟨by have := (u3 e he).1; dsimp only [St.put] at this; omega, (u3 e he).2⟩), u4⟩, ?_⟩
  refine i1 rfl (kj rfl zG (by rfl) zC rfl) (ed (by constructor)) zN (mq (fun e he => by have h5 := u3 e he; have h6 := mr (s := 9) (G := bc G nx (.box 0 [.list [] .nil])) u2 he; dsimp only [St.put] at h5; exact zG) (fun j o h => by have q0 := hlt j o h; dsimp only; rw [dg (by omega), ia (fun e he => by have := (u3 e he).1; dsimp only [St.put] at this; omega), dg (by omega)]; exact h)) ?_ ?_
  ·exact zW
  ·exact zW
theorem qu (a : bd) : AB.Pure Tryd.prog 16 [dn a, dn a] (.v (.bool true)) := by
 have := ufq a a
 rwa [decide_eq_true rfl] at this
theorem qt (a : CopyD) : AB.Pure Tryd.prog 18 [val a, val a] (.v (.bool true)) := by
 have := uft a a
 rwa [decide_eq_true rfl] at this
theorem yh (a : List PlaceD) : AB.Pure Tryd.prog 17 [lst a, lst a] (.v (.bool true)) := by
 have := ufs a a
 rwa [decide_eq_true rfl] at this
set_option maxHeartbeats 4000000 in
theorem uef (t : bd) (c : CopyD) (q : PlaceD) (l : List CopyD) : gx 0 gi Tryd.prog 3 [dn t, val c, val q, lst l] (.v (.bool true)) := fun G nx hF hnx => by
 refine je (G) (nx) Tryd.func3 rfl (.v) zN (fun hlt => zH) ?_
 simp only [Tryd.ntmps3, List.length_cons, List.length_nil, Nat.reduceAdd, Nat.reduceSub]
 refine b9 fun hlt => ?_
 dsimp only at hlt
 have hlt1 := hlt
 refine aj fun K1 hK1 => ?_
 refine aq ?_
 try dsimp only [St.put]
 refine av rfl (cw rfl rfl (by simp) ?_)
 try dsimp only [St.put]
 refine av rfl (cw rfl rfl (by simp) ?_)
 try dsimp only [St.put]
 refine av rfl (cw rfl rfl (by simp) ?_)
 refine ae rfl (ax rfl (by constructor)) ?_
 refine am ?_
 dsimp only [St.put]
 refine hK1 _ ?_
 refine aj fun K2 hK2 => ?_
 refine aj fun K3 hK3 => ?_
 refine aq ?_
 try dsimp only [St.put]
 first | refine aa rfl (aw rfl rfl) ?_ | refine aa rfl (ah rfl rfl (Enc.len _)) ?_ | refine aa rfl (ah rfl rfl rfl) ?_ | refine aa rfl (a7 rfl rfl zG trivial (by first | rfl | assumption)) ?_ | refine aa rfl (az rfl rfl zG trivial (by rfl)) ?_ | refine aa rfl (a8 rfl rfl zG trivial (by simp)) ?_ | refine aa rfl (ai rfl rfl zG trivial (ay (by assumption) rfl)) ?_ | refine aa rfl (ai rfl rfl zG trivial (by assumption)) ?_ | refine aa rfl (a9 rfl rfl zG trivial rfl (by assumption) rfl (by decide)) ?_ | refine aa rfl (ba rfl rfl zG (by rfl)) ?_
 try dsimp only [St.put]
 refine av rfl (br rfl rfl rfl (uf1 t) ?_)
 refine ae rfl (ar rfl (by constructor)) ?_
 refine et (fun hs => ?_) (fun hs => ?_)
 ·skip
  refine bv rfl ?_
  refine bv rfl ?_
  first | refine ae rfl (bt rfl rfl (by constructor)) ?_ | refine ae rfl (bu rfl rfl (by constructor)) ?_ | refine ae rfl (b7 rfl rfl rfl rfl) ?_ | refine ae rfl (bz rfl rfl rfl rfl) ?_
  refine ae rfl (ar rfl (by constructor)) ?_
  refine bv rfl ?_
  refine bv rfl ?_
  refine bv rfl ?_
  first | refine ae rfl (bt rfl rfl (by constructor)) ?_ | refine ae rfl (bu rfl rfl (by constructor)) ?_ | refine ae rfl (b7 rfl rfl rfl rfl) ?_ | refine ae rfl (bz rfl rfl rfl rfl) ?_
  refine am ?_
  dsimp only [St.put]
  refine hK3 _ ?_
  refine bl rfl (fun _ => ?_) (fun h => by cases h)
  skip
  refine aj fun K4 hK4 => ?_
  refine aq ?_
  refine ae rfl (ax rfl (by constructor)) ?_
  refine am ?_
  dsimp only [St.put]
  refine hK4 _ ?_
  refine bk ?_
  refine bo rfl (by constructor) zN zS ?_
  rfl
 ·have hg : kf t = false := hs
  try dsimp only [St.put]
  first | refine aa rfl (aw rfl rfl) ?_ | refine aa rfl (ah rfl rfl (Enc.len _)) ?_ | refine aa rfl (ah rfl rfl rfl) ?_ | refine aa rfl (a7 rfl rfl zG trivial (by first | rfl | assumption)) ?_ | refine aa rfl (az rfl rfl zG trivial (by rfl)) ?_ | refine aa rfl (a8 rfl rfl zG trivial (by simp)) ?_ | refine aa rfl (ai rfl rfl zG trivial (ay (by assumption) rfl)) ?_ | refine aa rfl (ai rfl rfl zG trivial (by assumption)) ?_ | refine aa rfl (a9 rfl rfl zG trivial rfl (by assumption) rfl (by decide)) ?_ | refine aa rfl (ba rfl rfl zG (by rfl)) ?_
  try dsimp only [St.put]
  refine av rfl (br rfl rfl rfl (zj c) ?_)
  first | refine ae rfl (bt rfl rfl (by constructor)) ?_ | refine ae rfl (bu rfl rfl (by constructor)) ?_ | refine ae rfl (b7 rfl rfl rfl rfl) ?_ | refine ae rfl (bz rfl rfl rfl rfl) ?_
  refine ae rfl (ar rfl (by constructor)) ?_
  refine et (fun hs => ?_) (fun hs => ?_)
  ·skip
   refine bv rfl ?_
   refine bv rfl ?_
   refine bv rfl ?_
   first | refine ae rfl (bt rfl rfl (by constructor)) ?_ | refine ae rfl (bu rfl rfl (by constructor)) ?_ | refine ae rfl (b7 rfl rfl rfl rfl) ?_ | refine ae rfl (bz rfl rfl rfl rfl) ?_
   refine am ?_
   dsimp only [St.put]
   refine hK3 _ ?_
   refine bl rfl (fun _ => ?_) (fun h => by cases h)
   skip
   refine aj fun K5 hK5 => ?_
   refine aq ?_
   refine ae rfl (ax rfl (by constructor)) ?_
   refine am ?_
   dsimp only [St.put]
   refine hK5 _ ?_
   refine bk ?_
   refine bo rfl (by constructor) zN zS ?_
   rfl
  ·have hgc : ll c = false := hs
   refine ae rfl (ar rfl (by constructor)) ?_
   first | refine ae rfl (bj rfl rfl (List.length_map _)) ?_ | refine ae rfl (bj rfl rfl rfl) ?_ | refine ae rfl (b8 rfl rfl) ?_ | refine ae rfl (cd rfl rfl) ?_ | refine ae rfl (cb rfl rfl) ?_ | refine ae rfl (ca rfl rfl (by omega)) ?_
   refine ae rfl (g7 rfl rfl rfl) ?_
   first | refine ae rfl (bt rfl rfl (by constructor)) ?_ | refine ae rfl (bu rfl rfl (by constructor)) ?_ | refine ae rfl (b7 rfl rfl rfl rfl) ?_ | refine ae rfl (bz rfl rfl rfl rfl) ?_
   refine am ?_
   dsimp only [St.put]
   refine hK3 _ ?_
   refine bl rfl (fun hc => ?_) (fun hc => ?_)
   ·skip
    refine aj fun K6 hK6 => ?_
    refine aq ?_
    refine ae rfl (ax rfl (by constructor)) ?_
    refine am ?_
    dsimp only [St.put]
    refine hK6 _ ?_
    refine bk ?_
    refine bo rfl (by constructor) zN zS ?_
    rfl
   ·have h8 := of_decide_eq_false hc
    refine bn ?_
    refine hK2 _ ?_
    refine cg 9 ?_
    refine zQ ?_
    refine ky (X := Unit) (fun _ => True) (fun _ => [(9, .elem [lst t]), (10, .elem (cells c))]) (fun _ G' => G') rfl ?_ (fun _ _ _ _ h => .inl h) ?_ ?_
    ·rintro _ hI
     exact zL
    ·refine kx [(0, none), (2, none)] (fun _ => false) (fun i => [].contains i) 6 [true, false, true, false, false, false, false, false] (by kernel_rfl) (by kernel_rfl) ?_
     try dsimp only [St.put]
     first | refine af rfl rfl rfl rfl (aw rfl rfl) ?_ | refine af rfl rfl rfl rfl (ah rfl rfl (Enc.len _)) ?_ | refine af rfl rfl rfl rfl (ah rfl rfl rfl) ?_ | refine af rfl rfl rfl rfl (a7 rfl rfl zG (by simp) (by first | rfl | assumption)) ?_ | refine af rfl rfl rfl rfl (az rfl rfl zG (by simp) (by rfl)) ?_ | refine af rfl rfl rfl rfl (a8 rfl rfl zG (by simp) (by simp)) ?_ | refine af rfl rfl rfl rfl (ai rfl rfl zG (by simp) (ay (by assumption) rfl)) ?_ | refine af rfl rfl rfl rfl (ai rfl rfl zG (by simp) (by assumption)) ?_ | refine af rfl rfl rfl rfl (a9 rfl rfl zG (by simp) rfl (by assumption) rfl (by decide)) ?_ | refine af rfl rfl rfl rfl (ba rfl rfl zG (by rfl)) ?_
     try dsimp only [St.put]
     first | refine af rfl rfl rfl rfl (aw rfl rfl) ?_ | refine af rfl rfl rfl rfl (ah rfl rfl (Enc.len _)) ?_ | refine af rfl rfl rfl rfl (ah rfl rfl rfl) ?_ | refine af rfl rfl rfl rfl (a7 rfl rfl zG (by simp) (by first | rfl | assumption)) ?_ | refine af rfl rfl rfl rfl (az rfl rfl zG (by simp) (by rfl)) ?_ | refine af rfl rfl rfl rfl (a8 rfl rfl zG (by simp) (by simp)) ?_ | refine af rfl rfl rfl rfl (ai rfl rfl zG (by simp) (ay (by assumption) rfl)) ?_ | refine af rfl rfl rfl rfl (ai rfl rfl zG (by simp) (by assumption)) ?_ | refine af rfl rfl rfl rfl (a9 rfl rfl zG (by simp) rfl (by assumption) rfl (by decide)) ?_ | refine af rfl rfl rfl rfl (ba rfl rfl zG (by rfl)) ?_
     refine dc ?_
     repeat' (first
      | with_reducible exact d8
      | with_reducible refine dz ?_ ?_
      | ((with_reducible show jm _ _ _ _ _ _ 1 _); (try dsimp only [St.put]); (refine dr rfl rfl rfl (br rfl rfl rfl (ufp t hg) ?_)); (try dsimp only [List.set_cons_zero, List.set_cons_succ]))
      | ((with_reducible show jm _ _ _ _ _ _ 3 _); (try dsimp only [St.put]); (refine dr rfl rfl rfl (br rfl rfl rfl (uo c hgc) ?_)); (try dsimp only [List.set_cons_zero, List.set_cons_succ]))
      | ((with_reducible show jm _ _ _ _ _ _ 4 _); (try dsimp only [St.put]); (refine dr rfl rfl rfl (di rfl ?_)); (try dsimp only [List.set_cons_zero, List.set_cons_succ]))
      | ((with_reducible show jm _ _ _ _ _ _ 5 _); (try dsimp only [St.put]); (refine dr rfl rfl rfl (di rfl ?_)); (try dsimp only [List.set_cons_zero, List.set_cons_succ]))
      | ((with_reducible show jm _ _ _ _ _ _ 6 _); (try dsimp only [St.put]); (first | refine dr rfl rfl rfl (c8 rfl rfl rfl zG rfl rfl (by rfl) ?_) | refine dr rfl rfl rfl (dh rfl rfl rfl zG (by constructor) rfl zO ?_)); (try dsimp only [List.set_cons_zero, List.set_cons_succ]))
      | ((with_reducible show jm _ _ _ _ _ _ 7 _); (try dsimp only [St.put]); (first | refine dr rfl rfl rfl (c8 rfl rfl rfl zG rfl rfl (by rfl) ?_) | refine dr rfl rfl rfl (dh rfl rfl rfl zG (by constructor) rfl zO ?_)); (try dsimp only [List.set_cons_zero, List.set_cons_succ]))
      | with_reducible refine dj (listed := [true, false, true, false, false, false, false, false]) [1, 4, 5] (by kernel_rfl) (by simp) ?_
      | with_reducible refine dj (listed := [true, true, true, false, false, false, false, false]) [3, 4, 5] (by kernel_rfl) (by simp) ?_
      | with_reducible refine dj (listed := [true, true, true, true, false, false, false, false]) [4, 5] (by kernel_rfl) (by simp) ?_
      | with_reducible refine dj (listed := [true, true, true, true, true, false, false, false]) [5] (by kernel_rfl) (by simp) ?_
      | with_reducible refine dj (listed := [true, true, true, true, true, true, false, false]) [6] (by kernel_rfl) (by simp) ?_
      | with_reducible refine dj (listed := [true, true, true, true, true, true, true, false]) [7] (by kernel_rfl) (by simp) ?_
      | with_reducible refine dj (listed := [true, true, true, true, false, true, false, false]) [4] (by kernel_rfl) (by simp) ?_
      | with_reducible refine dj (listed := [true, true, true, false, true, false, false, false]) [3, 5] (by kernel_rfl) (by simp) ?_
      | with_reducible refine dj (listed := [true, true, true, false, true, true, false, false]) [3] (by kernel_rfl) (by simp) ?_
      | with_reducible refine dj (listed := [true, true, true, false, false, true, false, false]) [3, 4] (by kernel_rfl) (by simp) ?_
      | with_reducible refine dj (listed := [true, false, true, false, true, false, false, false]) [1, 5] (by kernel_rfl) (by simp) ?_
      | with_reducible refine dj (listed := [true, false, true, false, true, true, false, false]) [1] (by kernel_rfl) (by simp) ?_
      | with_reducible refine dj (listed := [true, false, true, false, false, true, false, false]) [1, 4] (by kernel_rfl) (by simp) ?_
      | ((with_reducible show jc _ _ _ _ _ [true, true, true, true, true, true, true, true] _)
         try dsimp only [St.put]
         refine zc (t6 (i := 9) rfl zG zC) ?_
         refine zc (t6 (i := 10) rfl zG zC) ?_
         dsimp only
         refine gw (by kernel_rfl) ?_
         exact ⟨(), trivial, ⟨⟨rfl, rfl⟩, zF, zB, zN, zX⟩⟩))
    ·rintro _ hI
     dsimp only at hI ⊢
     refine aj fun K8 hK8 => ?_
     refine aq ?_
     refine ae rfl (ax rfl (by constructor)) ?_
     refine am ?_
     dsimp only [St.put]
     refine hK8 _ ?_
     refine qx 11 27 2 rfl (by decide) ?_
     dsimp only [List.set_cons_zero, List.set_cons_succ]
     refine aj fun K9 hK9 => ?_
     refine aj fun K10 hK10 => ?_
     refine aq ?_
     refine ae rfl (ar rfl (by constructor)) ?_
     first | refine ae rfl (bj rfl rfl (List.length_map _)) ?_ | refine ae rfl (bj rfl rfl rfl) ?_ | refine ae rfl (b8 rfl rfl) ?_ | refine ae rfl (cd rfl rfl) ?_ | refine ae rfl (cb rfl rfl) ?_ | refine ae rfl (ca rfl rfl (by omega)) ?_
     refine ae rfl (ar rfl (by constructor)) ?_
     refine am ?_
     dsimp only [St.put]
     refine hK10 _ ?_
     refine bq ?_
     refine cg 51 ?_
     refine zQ ?_
     refine cn (bc G nx (.tip 0 27 2)) zX ?_
     dsimp only
     refine cz (X := Nat) (fun k => k ≤ l.length) (fun k => l.length - k) (fun k => [(11, .list ((l.take k).map cells) (.tip nx)), (13, .any), (50, .v (.int .i64 (k : Int)))]) (fun k G' => bc G nx (.tip (l.take k).length 27 2)) 0 rfl ?_ ?_ ?_ ?_ ?_ ?_
     ·exact Nat.zero_le _
     ·exact zF
     ·exact zX
     ·rintro k hI
      exact zL
     ·rintro k hI
      exact zH
     ·rintro k hI
      dsimp only at hI ⊢
      refine aj fun K11 hK11 => ?_
      refine aq ?_
      refine ae rfl (cj rfl rfl rfl) ?_
      refine am ?_
      dsimp only [St.put]
      refine hK11 _ ?_
      refine aj fun K12 hK12 => ?_
      refine bl rfl (fun hc => ?_) (fun hc => ?_)
      ·replace hc := of_decide_eq_true hc
       obtain ⟨x, hx⟩ : ∃ x, l[k]? = some x := cm (by omega)
       refine bn ?_
       refine hK12 _ ?_
       refine aj fun K13 hK13 => ?_
       refine bq ?_
       refine aj fun K14 hK14 => ?_
       refine aq ?_
       try dsimp only [St.put]
       first | refine ae rfl (bf rfl rfl rfl rfl (bm (by assumption)) (Enc.len _)) ?_ | refine ae rfl (bf rfl rfl rfl rfl (by assumption) rfl) ?_ | refine ae rfl (cr rfl rfl rfl (by first | exact ct _ | exact rfl) (by omega)) ?_ | refine ae rfl (bf rfl rfl rfl (by omega) (bm (by assumption)) (Enc.len _)) ?_
       try dsimp only [St.put]
       first | refine aa rfl (aw rfl rfl) ?_ | refine aa rfl (ah rfl rfl (Enc.len _)) ?_ | refine aa rfl (ah rfl rfl rfl) ?_ | refine aa rfl (a7 rfl rfl zG trivial (by first | rfl | assumption)) ?_ | refine aa rfl (az rfl rfl zG trivial (by rfl)) ?_ | refine aa rfl (a8 rfl rfl zG trivial (by simp)) ?_ | refine aa rfl (ai rfl rfl zG trivial (ay (by assumption) rfl)) ?_ | refine aa rfl (ai rfl rfl zG trivial (by assumption)) ?_ | refine aa rfl (a9 rfl rfl zG trivial rfl (by assumption) rfl (by decide)) ?_ | refine aa rfl (ba rfl rfl zG (by rfl)) ?_
       try dsimp only [St.put]
       refine av rfl (di rfl ?_)
       try dsimp only [St.put]
       first | refine av rfl (c8 rfl rfl rfl zG rfl rfl (by rfl) ?_) | refine av rfl (dh rfl rfl rfl zG (by constructor) rfl zO ?_)
       refine am ?_
       dsimp only [St.put]
       refine hK14 _ ?_
       refine ep (i := 13) rfl zG zC ?_
       dsimp only
       refine aj fun K15 hK15 => ?_
       refine aj fun K16 hK16 => ?_
       refine aq ?_
       try dsimp only [St.put]
       first | refine aa rfl (aw rfl rfl) ?_ | refine aa rfl (ah rfl rfl (Enc.len _)) ?_ | refine aa rfl (ah rfl rfl rfl) ?_ | refine aa rfl (a7 rfl rfl zG trivial (by first | rfl | assumption)) ?_ | refine aa rfl (az rfl rfl zG trivial (by rfl)) ?_ | refine aa rfl (a8 rfl rfl zG trivial (by simp)) ?_ | refine aa rfl (ai rfl rfl zG trivial (ay (by assumption) rfl)) ?_ | refine aa rfl (ai rfl rfl zG trivial (by assumption)) ?_ | refine aa rfl (a9 rfl rfl zG trivial rfl (by assumption) rfl (by decide)) ?_ | refine aa rfl (ba rfl rfl zG (by rfl)) ?_
       try dsimp only [St.put]
       refine av rfl (br rfl rfl rfl (zj x) ?_)
       refine am ?_
       dsimp only [St.put]
       refine hK16 _ ?_
       refine bl rfl (fun hc => ?_) (fun hc => ?_)
       ·skip
        refine aj fun K17 hK17 => ?_
        refine aq ?_
        refine ae rfl (ax rfl (by constructor)) ?_
        refine am ?_
        dsimp only [St.put]
        refine hK17 _ ?_
        refine bk ?_
        refine bo rfl (by constructor) zN zS ?_
        rfl
       ·have hgx : ll x = false := hc
        refine bn ?_
        refine hK15 _ ?_
        refine aq ?_
        refine ae rfl (ar rfl (by constructor)) ?_
        try dsimp only [St.put]
        first | refine aa rfl (aw rfl rfl) ?_ | refine aa rfl (ah rfl rfl (Enc.len _)) ?_ | refine aa rfl (ah rfl rfl rfl) ?_ | refine aa rfl (a7 rfl rfl zG trivial (by first | rfl | assumption)) ?_ | refine aa rfl (az rfl rfl zG trivial (by rfl)) ?_ | refine aa rfl (a8 rfl rfl zG trivial (by simp)) ?_ | refine aa rfl (ai rfl rfl zG trivial (ay (by assumption) rfl)) ?_ | refine aa rfl (ai rfl rfl zG trivial (by assumption)) ?_ | refine aa rfl (a9 rfl rfl zG trivial rfl (by assumption) rfl (by decide)) ?_ | refine aa rfl (ba rfl rfl zG (by rfl)) ?_
        try dsimp only [St.put]
        refine av rfl (br rfl rfl rfl (uo x hgx) ?_)
        try dsimp only [St.put]
        refine av rfl (dx rfl rfl rfl (by decide) (by decide) zR (by decide) ?_)
        try dsimp only [St.put]
        refine av rfl (gr ([x]) rfl rfl zG zE rfl rfl zA ?_ zA)
        refine ae rfl (ax rfl (by constructor)) ?_
        refine am ?_
        dsimp only [St.put]
        refine hK13 _ ?_
        refine aq ?_
        first | refine ae rfl (bx rfl rfl rfl (by omega)) ?_ | refine ae rfl (cp rfl rfl rfl) ?_
        refine ae rfl (ar rfl (by constructor)) ?_
        refine am ?_
        dsimp only [St.put]
        simp only [jn hx]
        exact ⟨k + 1, by omega, by omega, ⟨⟨rfl, rfl⟩, zF, zB, zN, zX⟩⟩
      ·replace hc := of_decide_eq_false hc
       obtain rfl : k = l.length := by omega
       rw [List.take_length]
       refine uew 11 (lst l) rfl Wk.tok ?_
       refine cn G zX ?_
       dsimp only
       refine co ?_
       refine hK9 _ ?_
       refine aj fun K18 hK18 => ?_
       by_cases h0 : ec t c = 0
       ·refine aq ?_
        try dsimp only [St.put]
        first | refine aa rfl (aw rfl rfl) ?_ | refine aa rfl (ah rfl rfl (Enc.len _)) ?_ | refine aa rfl (ah rfl rfl rfl) ?_ | refine aa rfl (a7 rfl rfl zG trivial (by first | rfl | assumption)) ?_ | refine aa rfl (az rfl rfl zG trivial (by rfl)) ?_ | refine aa rfl (a8 rfl rfl zG trivial (by simp)) ?_ | refine aa rfl (ai rfl rfl zG trivial (ay (by assumption) rfl)) ?_ | refine aa rfl (ai rfl rfl zG trivial (by assumption)) ?_ | refine aa rfl (a9 rfl rfl zG trivial rfl (by assumption) rfl (by decide)) ?_ | refine aa rfl (ba rfl rfl zG (by rfl)) ?_
        try dsimp only [St.put]
        first | refine aa rfl (aw rfl rfl) ?_ | refine aa rfl (ah rfl rfl (Enc.len _)) ?_ | refine aa rfl (ah rfl rfl rfl) ?_ | refine aa rfl (a7 rfl rfl zG trivial (by first | rfl | assumption)) ?_ | refine aa rfl (az rfl rfl zG trivial (by rfl)) ?_ | refine aa rfl (a8 rfl rfl zG trivial (by simp)) ?_ | refine aa rfl (ai rfl rfl zG trivial (ay (by assumption) rfl)) ?_ | refine aa rfl (ai rfl rfl zG trivial (by assumption)) ?_ | refine aa rfl (a9 rfl rfl zG trivial rfl (by assumption) rfl (by decide)) ?_ | refine aa rfl (ba rfl rfl zG (by rfl)) ?_
        try dsimp only [St.put]
        refine av rfl (xy rfl rfl rfl (ucj 0 t c h0 _ _ zG (by dsimp only [St.put]; omega)) (fun ⟨QQ, M⟩ ⟨u1, u2, u3, u4⟩ => ?_))
        refine ae rfl (ar rfl (by constructor)) ?_
        refine ae rfl (da rfl rfl rfl) ?_
        refine ae rfl (da rfl rfl rfl) ?_
        try dsimp only [St.put]
        refine av rfl (di rfl ?_)
        try dsimp only [St.put]
        first | refine av rfl (c8 rfl rfl rfl zG rfl rfl (by rfl) ?_) | refine av rfl (dh rfl rfl rfl zG (by constructor) rfl zO ?_)
        refine ae rfl (ax rfl (by constructor)) ?_
        refine am ?_
        dsimp only [St.put]
        dsimp only [St.put] at u1 u2 u3 u4
        have hnX : nx ≤ M := by omega
        have u3' : ∀ e ∈ QQ.flatten, nx ≤ e.1 ∧ e.1 < M := fun e he => by have := u3 e he; omega
        have gE : ∀ e ∈ QQ.flatten, d9 9 G QQ.flatten e.1 = some (i9 9 e) := fun e he => mr u2 he
        have gF : d9 9 G QQ.flatten 0 = some gi := (ia fun e he => by have := u3' e he; omega).trans hF
        refine hK18 _ ?_
        refine ep (i := 14) rfl zG zC ?_
        dsimp only
        refine aj fun K19 hK19 => ?_
        refine aq ?_
        try dsimp only [St.put]
        first | refine aa rfl (aw rfl rfl) ?_ | refine aa rfl (ah rfl rfl (Enc.len _)) ?_ | refine aa rfl (ah rfl rfl rfl) ?_ | refine aa rfl (a7 rfl rfl zG trivial (by first | rfl | assumption)) ?_ | refine aa rfl (az rfl rfl zG trivial (by rfl)) ?_ | refine aa rfl (a8 rfl rfl zG trivial (by simp)) ?_ | refine aa rfl (ai rfl rfl zG trivial (ay (by assumption) rfl)) ?_ | refine aa rfl (ai rfl rfl zG trivial (by assumption)) ?_ | refine aa rfl (a9 rfl rfl zG trivial rfl (by assumption) rfl (by decide)) ?_ | refine aa rfl (ba rfl rfl zG (by rfl)) ?_
        try dsimp only [St.put]
        first | refine aa rfl (aw rfl rfl) ?_ | refine aa rfl (ah rfl rfl (Enc.len _)) ?_ | refine aa rfl (ah rfl rfl rfl) ?_ | refine aa rfl (a7 rfl rfl zG trivial (by first | rfl | assumption)) ?_ | refine aa rfl (az rfl rfl zG trivial (by rfl)) ?_ | refine aa rfl (a8 rfl rfl zG trivial (by simp)) ?_ | refine aa rfl (ai rfl rfl zG trivial (ay (by assumption) rfl)) ?_ | refine aa rfl (ai rfl rfl zG trivial (by assumption)) ?_ | refine aa rfl (a9 rfl rfl zG trivial rfl (by assumption) rfl (by decide)) ?_ | refine aa rfl (ba rfl rfl zG (by rfl)) ?_
        try dsimp only [St.put]
        refine av rfl (br rfl rfl rfl (ut t c) ?_)
        refine ae rfl (ar rfl (by constructor)) ?_
        refine ae rfl (da rfl rfl rfl) ?_
        refine ae rfl (da rfl rfl rfl) ?_
        try dsimp only [St.put]
        refine av rfl (di rfl ?_)
        try dsimp only [St.put]
        first | refine av rfl (c8 rfl rfl rfl zG rfl rfl (by rfl) ?_) | refine av rfl (dh rfl rfl rfl zG (by constructor) rfl zO ?_)
        refine ae rfl (ax rfl (by constructor)) ?_
        refine am ?_
        dsimp only [St.put]
        refine hK19 _ ?_
        refine ep (i := 16) rfl zG zC ?_
        dsimp only
        refine aj fun K20 hK20 => ?_
        refine aq ?_
        try dsimp only [St.put]
        first | refine aa rfl (aw rfl rfl) ?_ | refine aa rfl (ah rfl rfl (Enc.len _)) ?_ | refine aa rfl (ah rfl rfl rfl) ?_ | refine aa rfl (a7 rfl rfl zG trivial (by first | rfl | assumption)) ?_ | refine aa rfl (az rfl rfl zG trivial (by rfl)) ?_ | refine aa rfl (a8 rfl rfl zG trivial (by simp)) ?_ | refine aa rfl (ai rfl rfl zG trivial (ay (by assumption) rfl)) ?_ | refine aa rfl (ai rfl rfl zG trivial (by assumption)) ?_ | refine aa rfl (a9 rfl rfl zG trivial rfl (by assumption) rfl (by decide)) ?_ | refine aa rfl (ba rfl rfl zG (by rfl)) ?_
        try dsimp only [St.put]
        first | refine aa rfl (aw rfl rfl) ?_ | refine aa rfl (ah rfl rfl (Enc.len _)) ?_ | refine aa rfl (ah rfl rfl rfl) ?_ | refine aa rfl (a7 rfl rfl zG trivial (by first | rfl | assumption)) ?_ | refine aa rfl (az rfl rfl zG trivial (by rfl)) ?_ | refine aa rfl (a8 rfl rfl zG trivial (by simp)) ?_ | refine aa rfl (ai rfl rfl zG trivial (ay (by assumption) rfl)) ?_ | refine aa rfl (ai rfl rfl zG trivial (by assumption)) ?_ | refine aa rfl (a9 rfl rfl zG trivial rfl (by assumption) rfl (by decide)) ?_ | refine aa rfl (ba rfl rfl zG (by rfl)) ?_
        try dsimp only [St.put]
        first | refine aa rfl (aw rfl rfl) ?_ | refine aa rfl (ah rfl rfl (Enc.len _)) ?_ | refine aa rfl (ah rfl rfl rfl) ?_ | refine aa rfl (a7 rfl rfl zG trivial (by first | rfl | assumption)) ?_ | refine aa rfl (az rfl rfl zG trivial (by rfl)) ?_ | refine aa rfl (a8 rfl rfl zG trivial (by simp)) ?_ | refine aa rfl (ai rfl rfl zG trivial (ay (by assumption) rfl)) ?_ | refine aa rfl (ai rfl rfl zG trivial (by assumption)) ?_ | refine aa rfl (a9 rfl rfl zG trivial rfl (by assumption) rfl (by decide)) ?_ | refine aa rfl (ba rfl rfl zG (by rfl)) ?_
        try dsimp only [St.put]
        refine av rfl ((gq rfl rfl rfl ((wt 0 t c q)) zG (by dsimp only [St.put]; omega) ?_))
        refine ae rfl (ar rfl (by constructor)) ?_
        refine ae rfl (da rfl rfl rfl) ?_
        refine ae rfl (da rfl rfl rfl) ?_
        refine ae rfl (ax rfl (by constructor)) ?_
        refine ae rfl (ax rfl (by constructor)) ?_
        refine am ?_
        dsimp only [St.put]
        refine hK20 _ ?_
        refine aj fun K21 hK21 => ?_
        refine aq ?_
        try dsimp only [St.put]
        first | refine aa rfl (aw rfl rfl) ?_ | refine aa rfl (ah rfl rfl (Enc.len _)) ?_ | refine aa rfl (ah rfl rfl rfl) ?_ | refine aa rfl (a7 rfl rfl zG trivial (by first | rfl | assumption)) ?_ | refine aa rfl (az rfl rfl zG trivial (by rfl)) ?_ | refine aa rfl (a8 rfl rfl zG trivial (by simp)) ?_ | refine aa rfl (ai rfl rfl zG trivial (ay (by assumption) rfl)) ?_ | refine aa rfl (ai rfl rfl zG trivial (by assumption)) ?_ | refine aa rfl (a9 rfl rfl zG trivial rfl (by assumption) rfl (by decide)) ?_ | refine aa rfl (ba rfl rfl zG (by rfl)) ?_
        try dsimp only [St.put]
        first | refine aa rfl (aw rfl rfl) ?_ | refine aa rfl (ah rfl rfl (Enc.len _)) ?_ | refine aa rfl (ah rfl rfl rfl) ?_ | refine aa rfl (a7 rfl rfl zG trivial (by first | rfl | assumption)) ?_ | refine aa rfl (az rfl rfl zG trivial (by rfl)) ?_ | refine aa rfl (a8 rfl rfl zG trivial (by simp)) ?_ | refine aa rfl (ai rfl rfl zG trivial (ay (by assumption) rfl)) ?_ | refine aa rfl (ai rfl rfl zG trivial (by assumption)) ?_ | refine aa rfl (a9 rfl rfl zG trivial rfl (by assumption) rfl (by decide)) ?_ | refine aa rfl (ba rfl rfl zG (by rfl)) ?_
        try dsimp only [St.put]
        first | refine aa rfl (aw rfl rfl) ?_ | refine aa rfl (ah rfl rfl (Enc.len _)) ?_ | refine aa rfl (ah rfl rfl rfl) ?_ | refine aa rfl (a7 rfl rfl zG trivial (by first | rfl | assumption)) ?_ | refine aa rfl (az rfl rfl zG trivial (by rfl)) ?_ | refine aa rfl (a8 rfl rfl zG trivial (by simp)) ?_ | refine aa rfl (ai rfl rfl zG trivial (ay (by assumption) rfl)) ?_ | refine aa rfl (ai rfl rfl zG trivial (by assumption)) ?_ | refine aa rfl (a9 rfl rfl zG trivial rfl (by assumption) rfl (by decide)) ?_ | refine aa rfl (ba rfl rfl zG (by rfl)) ?_
        try dsimp only [St.put]
        refine av rfl (br rfl rfl rfl (uq t c q) ?_)
        refine ae rfl (ar rfl (by constructor)) ?_
        refine ae rfl (da rfl rfl rfl) ?_
        refine ae rfl (da rfl rfl rfl) ?_
        refine ae rfl (ax rfl (by constructor)) ?_
        refine ae rfl (ax rfl (by constructor)) ?_
        refine am ?_
        dsimp only [St.put]
        refine hK21 _ ?_
        refine aj fun K22 hK22 => ?_
        refine aq ?_
        try dsimp only [St.put]
        first | refine aa rfl (aw rfl rfl) ?_ | refine aa rfl (ah rfl rfl (Enc.len _)) ?_ | refine aa rfl (ah rfl rfl rfl) ?_ | refine aa rfl (a7 rfl rfl zG trivial (by first | rfl | assumption)) ?_ | refine aa rfl (az rfl rfl zG trivial (by rfl)) ?_ | refine aa rfl (a8 rfl rfl zG trivial (by simp)) ?_ | refine aa rfl (ai rfl rfl zG trivial (ay (by assumption) rfl)) ?_ | refine aa rfl (ai rfl rfl zG trivial (by assumption)) ?_ | refine aa rfl (a9 rfl rfl zG trivial rfl (by assumption) rfl (by decide)) ?_ | refine aa rfl (ba rfl rfl zG (by rfl)) ?_
        refine ae rfl (ar rfl (by constructor)) ?_
        try dsimp only [St.put]
        refine av rfl ((gq rfl rfl rfl ((wu 0 t l)) zG (by dsimp only [St.put]; omega) ?_))
        refine ae rfl (ar rfl (by constructor)) ?_
        refine ae rfl (da rfl rfl rfl) ?_
        refine ae rfl (da rfl rfl rfl) ?_
        refine ae rfl (ax rfl (by constructor)) ?_
        refine ae rfl (ax rfl (by constructor)) ?_
        refine am ?_
        dsimp only [St.put]
        refine hK22 _ ?_
        refine aj fun K23 hK23 => ?_
        refine aq ?_
        try dsimp only [St.put]
        first | refine aa rfl (aw rfl rfl) ?_ | refine aa rfl (ah rfl rfl (Enc.len _)) ?_ | refine aa rfl (ah rfl rfl rfl) ?_ | refine aa rfl (a7 rfl rfl zG trivial (by first | rfl | assumption)) ?_ | refine aa rfl (az rfl rfl zG trivial (by rfl)) ?_ | refine aa rfl (a8 rfl rfl zG trivial (by simp)) ?_ | refine aa rfl (ai rfl rfl zG trivial (ay (by assumption) rfl)) ?_ | refine aa rfl (ai rfl rfl zG trivial (by assumption)) ?_ | refine aa rfl (a9 rfl rfl zG trivial rfl (by assumption) rfl (by decide)) ?_ | refine aa rfl (ba rfl rfl zG (by rfl)) ?_
        refine ae rfl (ar rfl (by constructor)) ?_
        try dsimp only [St.put]
        refine av rfl (br rfl rfl rfl (uw t l) ?_)
        refine ae rfl (ar rfl (by constructor)) ?_
        refine ae rfl (da rfl rfl rfl) ?_
        refine ae rfl (da rfl rfl rfl) ?_
        refine ae rfl (ax rfl (by constructor)) ?_
        refine ae rfl (ax rfl (by constructor)) ?_
        refine am ?_
        dsimp only [St.put]
        refine hK23 _ ?_
        refine aj fun K24 hK24 => ?_
        have hRd : ∀ H : Nat → Option GObj, (∀ e ∈ QQ.flatten, H e.1 = some (i9 9 e)) → RdS H (.agg [.list (dp (t.map (·.id)) QQ) .none]) (dn (gy t c)) := fun H hH => by
         rw [show gy t c = c9 t c.rs by simp [gy, h0]]
         exact ues hH u4 (uz t c.rs).symm
        refine kx [(0, none), (1, none), (3, none), (4, none)] (fun _ => false) (fun i => [].contains i) 34 [true, true, false, true, true, false, false, false, false, false, false, false, false, false, false, false, false, false, false, false, false, false, false, false, false, false, false, false, false, false, false, false, false, false, false, false, false, false] (by kernel_rfl) (by kernel_rfl) ?_
        try dsimp only [St.put]
        first | refine af rfl rfl rfl rfl (aw rfl rfl) ?_ | refine af rfl rfl rfl rfl (ah rfl rfl (Enc.len _)) ?_ | refine af rfl rfl rfl rfl (ah rfl rfl rfl) ?_ | refine af rfl rfl rfl rfl (a7 rfl rfl zG (by simp) (by first | rfl | assumption)) ?_ | refine af rfl rfl rfl rfl (az rfl rfl zG (by simp) (by rfl)) ?_ | refine af rfl rfl rfl rfl (a8 rfl rfl zG (by simp) (by simp)) ?_ | refine af rfl rfl rfl rfl (ai rfl rfl zG (by simp) (ay (by assumption) rfl)) ?_ | refine af rfl rfl rfl rfl (ai rfl rfl zG (by simp) (by assumption)) ?_ | refine af rfl rfl rfl rfl (a9 rfl rfl zG (by simp) rfl (by assumption) rfl (by decide)) ?_ | refine af rfl rfl rfl rfl (ba rfl rfl zG (by rfl)) ?_
        try dsimp only [St.put]
        first | refine af rfl rfl rfl rfl (aw rfl rfl) ?_ | refine af rfl rfl rfl rfl (ah rfl rfl (Enc.len _)) ?_ | refine af rfl rfl rfl rfl (ah rfl rfl rfl) ?_ | refine af rfl rfl rfl rfl (a7 rfl rfl zG (by simp) (by first | rfl | assumption)) ?_ | refine af rfl rfl rfl rfl (az rfl rfl zG (by simp) (by rfl)) ?_ | refine af rfl rfl rfl rfl (a8 rfl rfl zG (by simp) (by simp)) ?_ | refine af rfl rfl rfl rfl (ai rfl rfl zG (by simp) (ay (by assumption) rfl)) ?_ | refine af rfl rfl rfl rfl (ai rfl rfl zG (by simp) (by assumption)) ?_ | refine af rfl rfl rfl rfl (a9 rfl rfl zG (by simp) rfl (by assumption) rfl (by decide)) ?_ | refine af rfl rfl rfl rfl (ba rfl rfl zG (by rfl)) ?_
        try dsimp only [St.put]
        first | refine af rfl rfl rfl rfl (aw rfl rfl) ?_ | refine af rfl rfl rfl rfl (ah rfl rfl (Enc.len _)) ?_ | refine af rfl rfl rfl rfl (ah rfl rfl rfl) ?_ | refine af rfl rfl rfl rfl (a7 rfl rfl zG (by simp) (by first | rfl | assumption)) ?_ | refine af rfl rfl rfl rfl (az rfl rfl zG (by simp) (by rfl)) ?_ | refine af rfl rfl rfl rfl (a8 rfl rfl zG (by simp) (by simp)) ?_ | refine af rfl rfl rfl rfl (ai rfl rfl zG (by simp) (ay (by assumption) rfl)) ?_ | refine af rfl rfl rfl rfl (ai rfl rfl zG (by simp) (by assumption)) ?_ | refine af rfl rfl rfl rfl (a9 rfl rfl zG (by simp) rfl (by assumption) rfl (by decide)) ?_ | refine af rfl rfl rfl rfl (ba rfl rfl zG (by rfl)) ?_
        try dsimp only [St.put]
        first | refine af rfl rfl rfl rfl (aw rfl rfl) ?_ | refine af rfl rfl rfl rfl (ah rfl rfl (Enc.len _)) ?_ | refine af rfl rfl rfl rfl (ah rfl rfl rfl) ?_ | refine af rfl rfl rfl rfl (a7 rfl rfl zG (by simp) (by first | rfl | assumption)) ?_ | refine af rfl rfl rfl rfl (az rfl rfl zG (by simp) (by rfl)) ?_ | refine af rfl rfl rfl rfl (a8 rfl rfl zG (by simp) (by simp)) ?_ | refine af rfl rfl rfl rfl (ai rfl rfl zG (by simp) (ay (by assumption) rfl)) ?_ | refine af rfl rfl rfl rfl (ai rfl rfl zG (by simp) (by assumption)) ?_ | refine af rfl rfl rfl rfl (a9 rfl rfl zG (by simp) rfl (by assumption) rfl (by decide)) ?_ | refine af rfl rfl rfl rfl (ba rfl rfl zG (by rfl)) ?_
        refine dc ?_
        refine dj [2] (by kernel_rfl) (by simp) ?_
        refine dz ?_ ?_
        ·try dsimp only [St.put]
         refine dr rfl rfl rfl ((gq rfl rfl rfl ((ww 0 t c)) zG (by dsimp only [St.put]; omega) ?_))
         refine dj [5] (by kernel_rfl) (by simp) ?_
         refine dz ?_ ?_
         ·try dsimp only [St.put]
          refine dr rfl rfl rfl (br rfl rfl rfl (pf t c) ?_)
          refine fm [(6, none), (7, none), (8, none), (9, none)] (fun i => [6, 7].contains i) 28 [true, true, true, true, true, true, true, true, true, true, false, false, false, false, false, false, false, false, false, false, false, false, false, false, false, false, false, false, false, false, false, false, false, false, false, false, false, false] (by kernel_rfl) ?_
          (first | refine ae rfl ((du (c := true) (dy rfl rfl rfl) (decide_eq_true rfl))) ?_ | refine ak rfl rfl rfl rfl ((du (c := true) (dy rfl rfl rfl) (decide_eq_true rfl))) ?_ | refine c0 rfl rfl rfl rfl ((du (c := true) (dy rfl rfl rfl) (decide_eq_true rfl))) ?_)
          refine ak rfl rfl rfl rfl (ar rfl (by constructor)) ?_
          try dsimp only [St.put]
          first | refine af rfl rfl rfl rfl (aw rfl rfl) ?_ | refine af rfl rfl rfl rfl (ah rfl rfl (Enc.len _)) ?_ | refine af rfl rfl rfl rfl (ah rfl rfl rfl) ?_ | refine af rfl rfl rfl rfl (a7 rfl rfl zG (by simp) (by first | rfl | assumption)) ?_ | refine af rfl rfl rfl rfl (az rfl rfl zG (by simp) (by rfl)) ?_ | refine af rfl rfl rfl rfl (a8 rfl rfl zG (by simp) (by simp)) ?_ | refine af rfl rfl rfl rfl (ai rfl rfl zG (by simp) (ay (by assumption) rfl)) ?_ | refine af rfl rfl rfl rfl (ai rfl rfl zG (by simp) (by assumption)) ?_ | refine af rfl rfl rfl rfl (a9 rfl rfl zG (by simp) rfl (by assumption) rfl (by decide)) ?_ | refine af rfl rfl rfl rfl (ba rfl rfl zG (by rfl)) ?_
          try dsimp only [St.put]
          first | refine af rfl rfl rfl rfl (aw rfl rfl) ?_ | refine af rfl rfl rfl rfl (ah rfl rfl (Enc.len _)) ?_ | refine af rfl rfl rfl rfl (ah rfl rfl rfl) ?_ | refine af rfl rfl rfl rfl (a7 rfl rfl zG (by simp) (by first | rfl | assumption)) ?_ | refine af rfl rfl rfl rfl (az rfl rfl zG (by simp) (by rfl)) ?_ | refine af rfl rfl rfl rfl (a8 rfl rfl zG (by simp) (by simp)) ?_ | refine af rfl rfl rfl rfl (ai rfl rfl zG (by simp) (ay (by assumption) rfl)) ?_ | refine af rfl rfl rfl rfl (ai rfl rfl zG (by simp) (by assumption)) ?_ | refine af rfl rfl rfl rfl (a9 rfl rfl zG (by simp) rfl (by assumption) rfl (by decide)) ?_ | refine af rfl rfl rfl rfl (ba rfl rfl zG (by rfl)) ?_
          refine dc ?_
          refine dj [10] (by kernel_rfl) (by simp) ?_
          refine dz ?_ ?_
          ·try dsimp only [St.put]
           refine dr rfl rfl rfl (ud3 rfl rfl rfl (qu (gy t c)) ⟨hRd _ (fun e he => by have h1 := u3' e he; have h2 := gE e he; exact zG), (Rdg.low (.agg (cv (ce _ _) de))).rd, trivial⟩ (udn _) ?_)
           refine fm [(11, none), (12, none), (13, none), (14, none), (15, none), (16, none), (17, none), (18, none), (19, none), (20, none), (21, none), (22, none), (23, none), (24, none), (25, none), (26, none), (27, none), (28, none), (29, none)] (fun i => [11, 12, 13, 14, 15, 16, 17, 18, 19, 20, 21, 22, 23, 24, 25, 26, 27, 28, 29].contains i) 8 [true, true, true, true, true, true, true, true, true, true, true, true, true, true, true, true, true, true, true, true, true, true, true, true, true, true, true, true, true, true, false, false, false, false, false, false, false, false] (by kernel_rfl) ?_
           first | refine ak rfl rfl rfl rfl (bt rfl rfl (by constructor)) ?_ | refine ak rfl rfl rfl rfl (bu rfl rfl (by constructor)) ?_ | refine ak rfl rfl rfl rfl (b7 rfl rfl rfl rfl) ?_ | refine ak rfl rfl rfl rfl (bz rfl rfl rfl rfl) ?_
           refine ak rfl rfl rfl rfl (ar rfl (by constructor)) ?_
           refine ak rfl rfl rfl rfl (ar rfl (by constructor)) ?_
           refine ak rfl rfl rfl rfl (ar rfl (by constructor)) ?_
           (first | refine ae rfl ((du (c := true) (dy rfl rfl rfl) (decide_eq_true h0.symm))) ?_ | refine ak rfl rfl rfl rfl ((du (c := true) (dy rfl rfl rfl) (decide_eq_true h0.symm))) ?_ | refine c0 rfl rfl rfl rfl ((du (c := true) (dy rfl rfl rfl) (decide_eq_true h0.symm))) ?_)
           first | refine ak rfl rfl rfl rfl (bt rfl rfl (by constructor)) ?_ | refine ak rfl rfl rfl rfl (bu rfl rfl (by constructor)) ?_ | refine ak rfl rfl rfl rfl (b7 rfl rfl rfl rfl) ?_ | refine ak rfl rfl rfl rfl (bz rfl rfl rfl rfl) ?_
           refine ak rfl rfl rfl rfl (ar rfl (by constructor)) ?_
           refine ak rfl rfl rfl rfl (ar rfl (by constructor)) ?_
           refine ak rfl rfl rfl rfl (ar rfl (by constructor)) ?_
           (first | refine ae rfl ((du (c := true) (lg rfl rfl rfl) (decide_eq_true rfl))) ?_ | refine ak rfl rfl rfl rfl ((du (c := true) (lg rfl rfl rfl) (decide_eq_true rfl))) ?_ | refine c0 rfl rfl rfl rfl ((du (c := true) (lg rfl rfl rfl) (decide_eq_true rfl))) ?_)
           first | refine ak rfl rfl rfl rfl (bt rfl rfl (by constructor)) ?_ | refine ak rfl rfl rfl rfl (bu rfl rfl (by constructor)) ?_ | refine ak rfl rfl rfl rfl (b7 rfl rfl rfl rfl) ?_ | refine ak rfl rfl rfl rfl (bz rfl rfl rfl rfl) ?_
           refine ak rfl rfl rfl rfl (ar rfl (by constructor)) ?_
           refine ak rfl rfl rfl rfl (ar rfl (by constructor)) ?_
           refine ak rfl rfl rfl rfl (ar rfl (by constructor)) ?_
           (first | refine ae rfl ((du (c := true) (dy rfl rfl rfl) (decide_eq_true rfl))) ?_ | refine ak rfl rfl rfl rfl ((du (c := true) (dy rfl rfl rfl) (decide_eq_true rfl))) ?_ | refine c0 rfl rfl rfl rfl ((du (c := true) (dy rfl rfl rfl) (decide_eq_true rfl))) ?_)
           first | refine ak rfl rfl rfl rfl (bt rfl rfl (by constructor)) ?_ | refine ak rfl rfl rfl rfl (bu rfl rfl (by constructor)) ?_ | refine ak rfl rfl rfl rfl (b7 rfl rfl rfl rfl) ?_ | refine ak rfl rfl rfl rfl (bz rfl rfl rfl rfl) ?_
           refine ak rfl rfl rfl rfl (ar rfl (by constructor)) ?_
           refine ak rfl rfl rfl rfl (ar rfl (by constructor)) ?_
           refine ak rfl rfl rfl rfl (ar rfl (by constructor)) ?_
           refine dc ?_
           refine dj [30] (by kernel_rfl) (by simp) ?_
           refine dz ?_ ?_
           ·try dsimp only [St.put]
            refine dr rfl rfl rfl (br rfl rfl rfl (yh _) ?_)
            refine fm [(31, none), (32, none), (33, none), (34, none), (35, none), (36, none), (37, none)] (fun i => [31, 32, 33, 34, 35, 36, 37].contains i) 0 [true, true, true, true, true, true, true, true, true, true, true, true, true, true, true, true, true, true, true, true, true, true, true, true, true, true, true, true, true, true, true, true, true, true, true, true, true, true] (by kernel_rfl) ?_
            first | refine ak rfl rfl rfl rfl (bt rfl rfl (by constructor)) ?_ | refine ak rfl rfl rfl rfl (bu rfl rfl (by constructor)) ?_ | refine ak rfl rfl rfl rfl (b7 rfl rfl rfl rfl) ?_ | refine ak rfl rfl rfl rfl (bz rfl rfl rfl rfl) ?_
            refine ak rfl rfl rfl rfl (ar rfl (by constructor)) ?_
            refine ak rfl rfl rfl rfl (ar rfl (by constructor)) ?_
            refine ak rfl rfl rfl rfl (ar rfl (by constructor)) ?_
            (first | refine ae rfl ((du (c := true) (dy rfl rfl rfl) (decide_eq_true rfl))) ?_ | refine ak rfl rfl rfl rfl ((du (c := true) (dy rfl rfl rfl) (decide_eq_true rfl))) ?_ | refine c0 rfl rfl rfl rfl ((du (c := true) (dy rfl rfl rfl) (decide_eq_true rfl))) ?_)
            first | refine ak rfl rfl rfl rfl (bt rfl rfl (by constructor)) ?_ | refine ak rfl rfl rfl rfl (bu rfl rfl (by constructor)) ?_ | refine ak rfl rfl rfl rfl (b7 rfl rfl rfl rfl) ?_ | refine ak rfl rfl rfl rfl (bz rfl rfl rfl rfl) ?_
            refine ak rfl rfl rfl rfl (ax rfl (by constructor)) ?_
            refine dc ?_
            dsimp only [St.put]
            refine gw (by kernel_rfl) ?_
            refine hK24 _ ?_
            refine aj fun K25 hK25 => ?_
            refine aj fun K26 hK26 => ?_
            refine cg 27 ?_
            refine zQ ?_
            refine cn (d9 9 G QQ.flatten) (mq (fun e he => by have h1 := u3' e he; have h2 := gE e he; exact zG) (fun j o h => by
             have q0 := hlt1 j o h
             have q1 : d9 9 G QQ.flatten j = some o := (ia fun e he => by have := u3' e he; omega).trans h
             exact zG)) ?_
            dsimp only
            have hbd : ∀ F : List Ent, F.map f4 = QQ.flatten.map f4 → ∀ e ∈ F, nx ≤ e.1 ∧ e.1 < M := fun F hF2 e he => by
             obtain ⟨p, f, h1, h2, _⟩ := w5 hF2.symm he
             rw [← h2]
             exact u3' f (List.mem_of_getElem? h1)
            refine aq ?_
            first | refine ae rfl (bg rfl rfl rfl) ?_ | refine ae rfl (bi rfl rfl) ?_
            try dsimp only [St.put]
            first | refine aa rfl (aw rfl rfl) ?_ | refine aa rfl (ah rfl rfl (Enc.len _)) ?_ | refine aa rfl (ah rfl rfl rfl) ?_ | refine aa rfl (a7 rfl rfl zG trivial (by first | rfl | assumption)) ?_ | refine aa rfl (az rfl rfl zG trivial (by rfl)) ?_ | refine aa rfl (a8 rfl rfl zG trivial (by simp)) ?_ | refine aa rfl (ai rfl rfl zG trivial (ay (by assumption) rfl)) ?_ | refine aa rfl (ai rfl rfl zG trivial (by assumption)) ?_ | refine aa rfl (a9 rfl rfl zG trivial rfl (by assumption) rfl (by decide)) ?_ | refine aa rfl (ba rfl rfl zG (by rfl)) ?_
            first | refine ae rfl (bj rfl rfl (List.length_map _)) ?_ | refine ae rfl (bj rfl rfl rfl) ?_ | refine ae rfl (b8 rfl rfl) ?_ | refine ae rfl (cd rfl rfl) ?_ | refine ae rfl (cb rfl rfl) ?_ | refine ae rfl (ca rfl rfl (by omega)) ?_
            refine ae rfl (ar rfl (by constructor)) ?_
            refine am ?_
            dsimp only [St.put]
            refine hK26 _ ?_
            refine bq ?_
            refine cg 141 ?_
            refine zQ ?_
            refine cz (X := List Ent × Nat) (fun y => y.1.map f4 = QQ.flatten.map f4 ∧ y.2 ≤ (dp (t.map (·.id)) QQ).length) (fun y => (dp (t.map (·.id)) QQ).length - y.2) (fun y => [(28, .any), (30, .any), (31, .any), (140, .v (.int .i64 (y.2 : Int)))]) (fun y G' => d9 9 G y.1) (QQ.flatten, 0) rfl ?_ ?_ ?_ ?_ ?_ ?_
            ·exact ⟨rfl, Nat.zero_le _⟩
            ·exact zF
            ·exact zX
            ·rintro ⟨F, i⟩ hI
             exact zL
            ·exact fun y hI => l3 (fun e he => by have h7 := hbd y.1 hI.1 e he; dsimp only; omega) (fun m o h => .inl (by have q0 := hlt1 m o h; dsimp only; rw [ia (fun e he => by have h7 := hbd _ (rfl) e he; omega)]; exact h))
            ·rintro ⟨F, i⟩ hJ
             dsimp only at hJ ⊢
             refine aj fun K27 hK27 => ?_
             refine aq ?_
             refine ae rfl (cj rfl rfl rfl) ?_
             refine am ?_
             dsimp only [St.put]
             refine hK27 _ ?_
             refine aj fun K28 hK28 => ?_
             refine bl rfl (fun hc => ?_) (fun hc => ?_)
             ·replace hc := of_decide_eq_true hc
              refine fj 139 (fun hft => ?_)
              replace hft := n7 (fit_v.1 hft)
              have hbl : QQ.length ≤ (t.map (·.id)).length := by
               have h5 := congrArg List.length u4
               have h6 := congrArg List.length (uz t c.rs)
               simp only [List.length_map] at h5 h6 ⊢
               omega
              have hil : i < QQ.length := by rw [lw hbl] at hc; omega
              obtain ⟨Q, hQ⟩ : ∃ Q, QQ[i]? = some Q := cm hil
              obtain ⟨id, hid⟩ : ∃ id, (t.map (·.id))[i]? = some id := cm (by omega)
              have hrow := s9 hid hQ
              have hbl2 := lw hbl
              refine bn ?_
              refine hK28 _ ?_
              refine aj fun K29 hK29 => ?_
              refine bq ?_
              refine aj fun K30 hK30 => ?_
              refine aq ?_
              try dsimp only [St.put]
              refine ae rfl (bf rfl rfl rfl (by omega) hrow rfl) ?_
              try dsimp only [St.put]
              first | refine aa rfl (aw rfl rfl) ?_ | refine aa rfl (ah rfl rfl (Enc.len _)) ?_ | refine aa rfl (ah rfl rfl rfl) ?_ | refine aa rfl (a7 rfl rfl zG trivial (by first | rfl | assumption)) ?_ | refine aa rfl (az rfl rfl zG trivial (by rfl)) ?_ | refine aa rfl (a8 rfl rfl zG trivial (by simp)) ?_ | refine aa rfl (ai rfl rfl zG trivial (ay (by assumption) rfl)) ?_ | refine aa rfl (ai rfl rfl zG trivial (by assumption)) ?_ | refine aa rfl (a9 rfl rfl zG trivial rfl (by assumption) rfl (by decide)) ?_ | refine aa rfl (ba rfl rfl zG (by rfl)) ?_
              try dsimp only [St.put]
              refine av rfl (di rfl ?_)
              try dsimp only [St.put]
              first | refine av rfl (c8 rfl rfl rfl zG rfl rfl (by rfl) ?_) | refine av rfl (dh rfl rfl rfl zG (by constructor) rfl zO ?_)
              refine am ?_
              dsimp only [St.put]
              refine hK30 _ ?_
              refine ep (i := 28) rfl zG zC ?_
              dsimp only
              refine cn (d9 9 G F) (fun jj o h => by have q0 := y8 (M := M) (fun e he => (hbd F hJ.1 e he).2) (fun m o hm => by have := hlt1 m o hm; omega) h; exact zG) ?_
              dsimp only
              refine aj fun K31 hK31 => ?_
              refine aq ?_
              first | refine ae rfl (bg rfl rfl rfl) ?_ | refine ae rfl (bi rfl rfl) ?_
              try dsimp only [St.put]
              first | refine aa rfl (aw rfl rfl) ?_ | refine aa rfl (ah rfl rfl (Enc.len _)) ?_ | refine aa rfl (ah rfl rfl rfl) ?_ | refine aa rfl (a7 rfl rfl zG trivial (by first | rfl | assumption)) ?_ | refine aa rfl (az rfl rfl zG trivial (by rfl)) ?_ | refine aa rfl (a8 rfl rfl zG trivial (by simp)) ?_ | refine aa rfl (ai rfl rfl zG trivial (ay (by assumption) rfl)) ?_ | refine aa rfl (ai rfl rfl zG trivial (by assumption)) ?_ | refine aa rfl (a9 rfl rfl zG trivial rfl (by assumption) rfl (by decide)) ?_ | refine aa rfl (ba rfl rfl zG (by rfl)) ?_
              first | refine ae rfl (bj rfl rfl (List.length_map _)) ?_ | refine ae rfl (bj rfl rfl rfl) ?_ | refine ae rfl (b8 rfl rfl) ?_ | refine ae rfl (cd rfl rfl) ?_ | refine ae rfl (cb rfl rfl) ?_ | refine ae rfl (ca rfl rfl (by omega)) ?_
              refine ae rfl (ar rfl (by constructor)) ?_
              refine am ?_
              dsimp only [St.put]
              refine hK31 _ ?_
              refine bq ?_
              refine cg 148 ?_
              refine zQ ?_
              refine cz (X := List Ent × Nat) (fun y => y.1.map f4 = QQ.flatten.map f4 ∧ y.2 ≤ (d7 Q).length) (fun y => (d7 Q).length - y.2) (fun y => [(30, .any), (31, .any), (147, .v (.int .i64 (y.2 : Int)))]) (fun y G' => d9 9 G y.1) (F, 0) rfl ?_ ?_ ?_ ?_ ?_ ?_
              ·exact ⟨hJ.1, Nat.zero_le _⟩
              ·exact zF
              ·exact zX
              ·rintro ⟨F, j⟩ hI
               exact zL
              ·exact fun y hI => l3 (fun e he => by have h7 := hbd y.1 hI.1 e he; dsimp only; omega) (fun m o h => .inl (by have q0 := hlt1 m o h; dsimp only; rw [ia (fun e he => by have h7 := hbd _ (hJ.1) e he; omega)]; exact h))
              ·rintro ⟨F, j⟩ hK
               dsimp only at hK ⊢
               refine aj fun K32 hK32 => ?_
               refine aq ?_
               refine ae rfl (cj rfl rfl rfl) ?_
               refine am ?_
               dsimp only [St.put]
               refine hK32 _ ?_
               refine aj fun K33 hK33 => ?_
               refine bl rfl (fun hc => ?_) (fun hc => ?_)
               ·replace hc := of_decide_eq_true hc
                refine fj 146 (fun hft2 => ?_)
                replace hft2 := n7 (fit_v.1 hft2)
                have hel := na Q
                have hjl : j < Q.length := by omega
                obtain ⟨e, he⟩ : ∃ e, Q[j]? = some e := cm hjl
                have heQ : e ∈ QQ.flatten := List.mem_flatten.2 ⟨Q, List.mem_of_getElem? hQ, List.mem_of_getElem? he⟩
                have hrow2 := udu he
                unfold entC at hrow2
                refine bn ?_
                refine hK33 _ ?_
                refine aj fun K34 hK34 => ?_
                refine bq ?_
                refine aj fun K35 hK35 => ?_
                refine aq ?_
                try dsimp only [St.put]
                refine ae rfl (bf rfl rfl rfl (by omega) hrow2 rfl) ?_
                try dsimp only [St.put]
                first | refine aa rfl (aw rfl rfl) ?_ | refine aa rfl (ah rfl rfl (Enc.len _)) ?_ | refine aa rfl (ah rfl rfl rfl) ?_ | refine aa rfl (a7 rfl rfl zG trivial (by first | rfl | assumption)) ?_ | refine aa rfl (az rfl rfl zG trivial (by rfl)) ?_ | refine aa rfl (a8 rfl rfl zG trivial (by simp)) ?_ | refine aa rfl (ai rfl rfl zG trivial (ay (by assumption) rfl)) ?_ | refine aa rfl (ai rfl rfl zG trivial (by assumption)) ?_ | refine aa rfl (a9 rfl rfl zG trivial rfl (by assumption) rfl (by decide)) ?_ | refine aa rfl (ba rfl rfl zG (by rfl)) ?_
                refine ae rfl (ax rfl (by constructor)) ?_
                refine am ?_
                dsimp only [St.put]
                refine hK35 _ ?_
                refine aj fun K36 hK36 => ?_
                refine aq ?_
                refine ae rfl (ar rfl (by constructor)) ?_
                first | refine ae rfl (bj rfl rfl (List.length_map _)) ?_ | refine ae rfl (bj rfl rfl rfl) ?_ | refine ae rfl (b8 rfl rfl) ?_ | refine ae rfl (cd rfl rfl) ?_ | refine ae rfl (cb rfl rfl) ?_ | refine ae rfl (ca rfl rfl (by omega)) ?_
                refine ae rfl (ar rfl (by constructor)) ?_
                refine am ?_
                dsimp only [St.put]
                refine hK36 _ ?_
                refine bq ?_
                refine cg 154 ?_
                refine zQ ?_
                refine cz (X := List Ent × Nat) (fun y => y.1.map f4 = QQ.flatten.map f4 ∧ y.2 ≤ e.2.2.2.length) (fun y => e.2.2.2.length - y.2) (fun y => [(31, .any), (153, .v (.int .i64 (y.2 : Int)))]) (fun y G' => d9 9 G y.1) (F, 0) rfl ?_ ?_ ?_ ?_ ?_ ?_
                ·exact ⟨hK.1, Nat.zero_le _⟩
                ·exact zF
                ·exact zX
                ·rintro ⟨F, w⟩ hI
                 exact zL
                ·exact fun y hI => l3 (fun e he => by have h7 := hbd y.1 hI.1 e he; dsimp only; omega) (fun m o h => .inl (by have q0 := hlt1 m o h; dsimp only; rw [ia (fun e he => by have h7 := hbd _ (hK.1) e he; omega)]; exact h))
                ·rintro ⟨F, w⟩ hL
                 dsimp only at hL ⊢
                 refine aj fun K37 hK37 => ?_
                 refine aq ?_
                 refine ae rfl (cj rfl rfl rfl) ?_
                 refine am ?_
                 dsimp only [St.put]
                 refine hK37 _ ?_
                 refine aj fun K38 hK38 => ?_
                 refine bl rfl (fun hc => ?_) (fun hc => ?_)
                 ·replace hc := of_decide_eq_true hc
                  refine fj 152 (fun hft3 => ?_)
                  replace hft3 := n7 (fit_v.1 hft3)
                  have hwl : w < e.2.2.2.length := by omega
                  have hrF := RiseE.key hL.1 u2
                  obtain ⟨p, f, hf, f1, f2, f3⟩ := w5 hL.1 heQ
                  have hGf : d9 9 G F f.1 = some (i9 9 f) := mr hrF (List.mem_of_getElem? hf)
                  unfold i9 at hGf
                  obtain ⟨z, hz⟩ : ∃ z, f.2.2.2[w]? = some z := cm (by omega)
                  rw [f1, f2, f3] at hGf
                  refine bn ?_
                  refine hK38 _ ?_
                  refine aj fun K39 hK39 => ?_
                  refine bq ?_
                  refine aj fun K40 hK40 => ?_
                  refine aq ?_
                  refine ae rfl (ar rfl (by constructor)) ?_
                  refine ae rfl (ax rfl (by constructor)) ?_
                  refine am ?_
                  dsimp only [St.put]
                  refine hK40 _ ?_
                  refine aq ?_
                  refine ae rfl (ar rfl (by constructor)) ?_
                  refine ae rfl (ar rfl (by constructor)) ?_
                  try dsimp only [St.put]
                  refine ae rfl (kn rfl rfl hGf rfl rfl (by omega)) ?_
                  try dsimp only [St.put]
                  refine av rfl (udx (xs := f.2.2.2) (k := w) (j := 0) (z := z) (z' := ⟨#[122, 122]⟩) rfl rfl rfl hGf rfl rfl hz rfl (by decide) rfl ?_)
                  refine am ?_
                  dsimp only [St.put]
                  refine hK39 _ ?_
                  refine aq ?_
                  first | refine ae rfl (bx rfl rfl rfl (by omega)) ?_ | refine ae rfl (cp rfl rfl rfl) ?_
                  refine ae rfl (ar rfl (by constructor)) ?_
                  refine am ?_
                  dsimp only [St.put]
                  exact ⟨(F.set p (f.1, f.2.1, f.2.2.1 + 1, f.2.2.2.set w ⟨#[122, 122]⟩), w + 1), by (dsimp only; omega), ⟨uc6 hL.1 hf (by unfold f4; dsimp only; rw [List.length_set]), by (dsimp only; omega)⟩, ⟨⟨rfl, rfl⟩, zF, zB, zN, ufm (s := 9) (G := G) hrF hf rfl (by dsimp only; rw [f1, f5]; unfold i9; dsimp only; rw [List.length_set, f2, f3]) (fun jj hjj => by dsimp only; rw [dg (by rw [← f1]; exact hjj)]) (fun jj o h e2 he2 => by have q0 := hlt1 jj o h; have q1 := hbd F hL.1 e2 he2; omega)⟩⟩
                 ·try replace hc := of_decide_eq_false hc
                  refine co ?_
                  refine hK34 _ ?_
                  refine aq ?_
                  first | refine ae rfl (bx rfl rfl rfl (by omega)) ?_ | refine ae rfl (cp rfl rfl rfl) ?_
                  refine ae rfl (ar rfl (by constructor)) ?_
                  refine am ?_
                  dsimp only [St.put]
                  exact ⟨(F, j + 1), by (dsimp only; omega), ⟨hL.1, by (dsimp only; omega)⟩, ⟨⟨rfl, rfl⟩, zF, zB, zN, zX⟩⟩
               ·try replace hc := of_decide_eq_false hc
                refine co ?_
                refine hK29 _ ?_
                refine aq ?_
                first | refine ae rfl (bx rfl rfl rfl (by omega)) ?_ | refine ae rfl (cp rfl rfl rfl) ?_
                refine ae rfl (ar rfl (by constructor)) ?_
                refine am ?_
                dsimp only [St.put]
                exact ⟨(F, i + 1), by (dsimp only; omega), ⟨hK.1, by (dsimp only; omega)⟩, ⟨⟨rfl, rfl⟩, zF, zB, zN, zX⟩⟩
             ·refine cn G (fun j o h => by have q0 := hlt1 j o h; dsimp only; rw [ia (fun e he => by have := hbd F hJ.1 e he; omega)]; exact h) ?_
              dsimp only
              refine co ?_
              refine hK25 _ ?_
              refine aj fun K41 hK41 => ?_
              refine aj fun K42 hK42 => ?_
              refine aq ?_
              refine ae rfl (ar rfl (by constructor)) ?_
              first | refine ae rfl (bj rfl rfl (List.length_map _)) ?_ | refine ae rfl (bj rfl rfl rfl) ?_ | refine ae rfl (b8 rfl rfl) ?_ | refine ae rfl (cd rfl rfl) ?_ | refine ae rfl (cb rfl rfl) ?_ | refine ae rfl (ca rfl rfl (by omega)) ?_
              refine ae rfl (ar rfl (by constructor)) ?_
              refine am ?_
              dsimp only [St.put]
              refine hK42 _ ?_
              refine bq ?_
              refine cg 165 ?_
              refine zQ ?_
              refine cn (G) zX ?_
              dsimp only
              refine cz (X := Nat) (fun k => k ≤ l.length) (fun k => l.length - k) (fun k => [(26, .v (.bool true)), (32, .any), (164, .v (.int .i64 (k : Int)))]) (fun k G' => G') 0 rfl ?_ ?_ (fun _ _ h => h) ?_ ?_ ?_
              ·exact Nat.zero_le _
              ·exact zF
              ·rintro k hI
               exact zL
              ·exact fun _ _ _ _ h => .inl h
              ·rintro k hT
               dsimp only at hT ⊢
               refine aj fun K43 hK43 => ?_
               refine aq ?_
               refine ae rfl (cj rfl rfl rfl) ?_
               refine am ?_
               dsimp only [St.put]
               refine hK43 _ ?_
               refine aj fun K44 hK44 => ?_
               refine bl rfl (fun hc => ?_) (fun hc => ?_)
               ·replace hc := of_decide_eq_true hc
                obtain ⟨x, hx⟩ : ∃ x, l[k]? = some x := cm (by omega)
                refine bn ?_
                refine hK44 _ ?_
                refine aj fun K45 hK45 => ?_
                refine bq ?_
                refine aj fun K46 hK46 => ?_
                refine aq ?_
                refine ae rfl (ar rfl (by constructor)) ?_
                refine ae rfl (ax rfl (by constructor)) ?_
                refine am ?_
                dsimp only [St.put]
                refine hK46 _ ?_
                refine fw [(0, none), (1, none), (2, none), (3, none), (4, none), (5, none), (6, none), (7, none), (8, none), (9, none), (10, none), (11, none), (12, none)] (fun i => [10].contains i) (fun i => [10].contains i) (fun i => [0, 1, 2, 3, 4, 6, 7, 8, 11, 12].contains i) [] (by kernel_rfl) (by kernel_rfl) ?_
                refine ak rfl rfl rfl rfl (ar rfl (by constructor)) ?_
                refine ak rfl rfl rfl rfl (ar rfl (by constructor)) ?_
                refine ak rfl rfl rfl rfl (ar rfl (by constructor)) ?_
                refine ak rfl rfl rfl rfl (ar rfl (by constructor)) ?_
                try dsimp only [St.put]
                first | refine ak rfl rfl rfl rfl (bf rfl rfl rfl rfl (bm (by assumption)) (Enc.len _)) ?_ | refine ak rfl rfl rfl rfl (bf rfl rfl rfl rfl (by assumption) rfl) ?_ | refine ak rfl rfl rfl rfl (cr rfl rfl rfl (by first | exact ct _ | exact rfl) (by omega)) ?_ | refine ak rfl rfl rfl rfl (bf rfl rfl rfl (by omega) (bm (by assumption)) (Enc.len _)) ?_
                try dsimp only [St.put]
                first | refine af rfl rfl rfl rfl (aw rfl rfl) ?_ | refine af rfl rfl rfl rfl (ah rfl rfl (Enc.len _)) ?_ | refine af rfl rfl rfl rfl (ah rfl rfl rfl) ?_ | refine af rfl rfl rfl rfl (a7 rfl rfl zG (by simp) (by first | rfl | assumption)) ?_ | refine af rfl rfl rfl rfl (az rfl rfl zG (by simp) (by rfl)) ?_ | refine af rfl rfl rfl rfl (a8 rfl rfl zG (by simp) (by simp)) ?_ | refine af rfl rfl rfl rfl (ai rfl rfl zG (by simp) (ay (by assumption) rfl)) ?_ | refine af rfl rfl rfl rfl (ai rfl rfl zG (by simp) (by assumption)) ?_ | refine af rfl rfl rfl rfl (a9 rfl rfl zG (by simp) rfl (by assumption) rfl (by decide)) ?_ | refine af rfl rfl rfl rfl (ba rfl rfl zG (by rfl)) ?_
                refine ak rfl rfl rfl rfl (ar rfl (by constructor)) ?_
                refine ak rfl rfl rfl rfl (ar rfl (by constructor)) ?_
                try dsimp only [St.put]
                first | refine ak rfl rfl rfl rfl (bf rfl rfl rfl rfl (bm (by assumption)) (Enc.len _)) ?_ | refine ak rfl rfl rfl rfl (bf rfl rfl rfl rfl (by assumption) rfl) ?_ | refine ak rfl rfl rfl rfl (cr rfl rfl rfl (by first | exact ct _ | exact rfl) (by omega)) ?_ | refine ak rfl rfl rfl rfl (bf rfl rfl rfl (by omega) (bm (by assumption)) (Enc.len _)) ?_
                try dsimp only [St.put]
                first | refine af rfl rfl rfl rfl (aw rfl rfl) ?_ | refine af rfl rfl rfl rfl (ah rfl rfl (Enc.len _)) ?_ | refine af rfl rfl rfl rfl (ah rfl rfl rfl) ?_ | refine af rfl rfl rfl rfl (a7 rfl rfl zG (by simp) (by first | rfl | assumption)) ?_ | refine af rfl rfl rfl rfl (az rfl rfl zG (by simp) (by rfl)) ?_ | refine af rfl rfl rfl rfl (a8 rfl rfl zG (by simp) (by simp)) ?_ | refine af rfl rfl rfl rfl (ai rfl rfl zG (by simp) (ay (by assumption) rfl)) ?_ | refine af rfl rfl rfl rfl (ai rfl rfl zG (by simp) (by assumption)) ?_ | refine af rfl rfl rfl rfl (a9 rfl rfl zG (by simp) rfl (by assumption) rfl (by decide)) ?_ | refine af rfl rfl rfl rfl (ba rfl rfl zG (by rfl)) ?_
                refine ie ?_
                try dsimp only [St.put]
                refine ez rfl rfl rfl rfl (br rfl rfl rfl (qt x) ?_)
                first | refine c0 rfl rfl rfl rfl (bt rfl rfl (by constructor)) ?_ | refine c0 rfl rfl rfl rfl (bu rfl rfl (by constructor)) ?_ | refine c0 rfl rfl rfl rfl (b7 rfl rfl rfl rfl) ?_ | refine c0 rfl rfl rfl rfl (bz rfl rfl rfl rfl) ?_
                refine c0 rfl rfl rfl rfl (ax rfl (by constructor)) ?_
                refine ib ?_
                dsimp only [St.put]
                refine hK45 _ ?_
                refine aq ?_
                first | refine ae rfl (bx rfl rfl rfl (by omega)) ?_ | refine ae rfl (cp rfl rfl rfl) ?_
                refine ae rfl (ar rfl (by constructor)) ?_
                refine am ?_
                dsimp only [St.put]
                exact ⟨k + 1, by omega, by omega, ⟨⟨rfl, rfl⟩, zF, zB, zN, zX⟩⟩
               ·try replace hc := of_decide_eq_false hc
                refine co ?_
                refine hK41 _ ?_
                refine aj fun K47 hK47 => ?_
                refine aq ?_
                refine ae rfl (ar rfl (by constructor)) ?_
                refine ae rfl (ar rfl (by constructor)) ?_
                try dsimp only [St.put]
                first | refine aa rfl (aw rfl rfl) ?_ | refine aa rfl (ah rfl rfl (Enc.len _)) ?_ | refine aa rfl (ah rfl rfl rfl) ?_ | refine aa rfl (a7 rfl rfl zG trivial (by first | rfl | assumption)) ?_ | refine aa rfl (az rfl rfl zG trivial (by rfl)) ?_ | refine aa rfl (a8 rfl rfl zG trivial (by simp)) ?_ | refine aa rfl (ai rfl rfl zG trivial (ay (by assumption) rfl)) ?_ | refine aa rfl (ai rfl rfl zG trivial (by assumption)) ?_ | refine aa rfl (a9 rfl rfl zG trivial rfl (by assumption) rfl (by decide)) ?_ | refine aa rfl (ba rfl rfl zG (by rfl)) ?_
                try dsimp only [St.put]
                first | refine aa rfl (aw rfl rfl) ?_ | refine aa rfl (ah rfl rfl (Enc.len _)) ?_ | refine aa rfl (ah rfl rfl rfl) ?_ | refine aa rfl (a7 rfl rfl zG trivial (by first | rfl | assumption)) ?_ | refine aa rfl (az rfl rfl zG trivial (by rfl)) ?_ | refine aa rfl (a8 rfl rfl zG trivial (by simp)) ?_ | refine aa rfl (ai rfl rfl zG trivial (ay (by assumption) rfl)) ?_ | refine aa rfl (ai rfl rfl zG trivial (by assumption)) ?_ | refine aa rfl (a9 rfl rfl zG trivial rfl (by assumption) rfl (by decide)) ?_ | refine aa rfl (ba rfl rfl zG (by rfl)) ?_
                try dsimp only [St.put]
                refine av rfl (br rfl rfl rfl (qu t) ?_)
                first | refine ae rfl (bt rfl rfl (by constructor)) ?_ | refine ae rfl (bu rfl rfl (by constructor)) ?_ | refine ae rfl (b7 rfl rfl rfl rfl) ?_ | refine ae rfl (bz rfl rfl rfl rfl) ?_
                refine ae rfl (ar rfl (by constructor)) ?_
                try dsimp only [St.put]
                first | refine aa rfl (aw rfl rfl) ?_ | refine aa rfl (ah rfl rfl (Enc.len _)) ?_ | refine aa rfl (ah rfl rfl rfl) ?_ | refine aa rfl (a7 rfl rfl zG trivial (by first | rfl | assumption)) ?_ | refine aa rfl (az rfl rfl zG trivial (by rfl)) ?_ | refine aa rfl (a8 rfl rfl zG trivial (by simp)) ?_ | refine aa rfl (ai rfl rfl zG trivial (ay (by assumption) rfl)) ?_ | refine aa rfl (ai rfl rfl zG trivial (by assumption)) ?_ | refine aa rfl (a9 rfl rfl zG trivial rfl (by assumption) rfl (by decide)) ?_ | refine aa rfl (ba rfl rfl zG (by rfl)) ?_
                try dsimp only [St.put]
                first | refine aa rfl (aw rfl rfl) ?_ | refine aa rfl (ah rfl rfl (Enc.len _)) ?_ | refine aa rfl (ah rfl rfl rfl) ?_ | refine aa rfl (a7 rfl rfl zG trivial (by first | rfl | assumption)) ?_ | refine aa rfl (az rfl rfl zG trivial (by rfl)) ?_ | refine aa rfl (a8 rfl rfl zG trivial (by simp)) ?_ | refine aa rfl (ai rfl rfl zG trivial (ay (by assumption) rfl)) ?_ | refine aa rfl (ai rfl rfl zG trivial (by assumption)) ?_ | refine aa rfl (a9 rfl rfl zG trivial rfl (by assumption) rfl (by decide)) ?_ | refine aa rfl (ba rfl rfl zG (by rfl)) ?_
                try dsimp only [St.put]
                refine av rfl (br rfl rfl rfl (qt c) ?_)
                first | refine ae rfl (bt rfl rfl (by constructor)) ?_ | refine ae rfl (bu rfl rfl (by constructor)) ?_ | refine ae rfl (b7 rfl rfl rfl rfl) ?_ | refine ae rfl (bz rfl rfl rfl rfl) ?_
                refine ae rfl (ax rfl (by constructor)) ?_
                refine am ?_
                dsimp only [St.put]
                refine hK47 _ ?_
                refine bk ?_
                refine bo rfl (by constructor) zN zS ?_
                rfl
           exact d8
          exact d8
         exact d8
        exact d8
       ·have hV : gy t c = [] := by simp [gy, h0]
        refine aq ?_
        try dsimp only [St.put]
        first | refine aa rfl (aw rfl rfl) ?_ | refine aa rfl (ah rfl rfl (Enc.len _)) ?_ | refine aa rfl (ah rfl rfl rfl) ?_ | refine aa rfl (a7 rfl rfl zG trivial (by first | rfl | assumption)) ?_ | refine aa rfl (az rfl rfl zG trivial (by rfl)) ?_ | refine aa rfl (a8 rfl rfl zG trivial (by simp)) ?_ | refine aa rfl (ai rfl rfl zG trivial (ay (by assumption) rfl)) ?_ | refine aa rfl (ai rfl rfl zG trivial (by assumption)) ?_ | refine aa rfl (a9 rfl rfl zG trivial rfl (by assumption) rfl (by decide)) ?_ | refine aa rfl (ba rfl rfl zG (by rfl)) ?_
        try dsimp only [St.put]
        first | refine aa rfl (aw rfl rfl) ?_ | refine aa rfl (ah rfl rfl (Enc.len _)) ?_ | refine aa rfl (ah rfl rfl rfl) ?_ | refine aa rfl (a7 rfl rfl zG trivial (by first | rfl | assumption)) ?_ | refine aa rfl (az rfl rfl zG trivial (by rfl)) ?_ | refine aa rfl (a8 rfl rfl zG trivial (by simp)) ?_ | refine aa rfl (ai rfl rfl zG trivial (ay (by assumption) rfl)) ?_ | refine aa rfl (ai rfl rfl zG trivial (by assumption)) ?_ | refine aa rfl (a9 rfl rfl zG trivial rfl (by assumption) rfl (by decide)) ?_ | refine aa rfl (ba rfl rfl zG (by rfl)) ?_
        try dsimp only [St.put]
        refine av rfl ((gq rfl rfl rfl ((uci 0 t c)) zG (by dsimp only [St.put]; omega) ?_))
        refine ae rfl (ar rfl (by constructor)) ?_
        refine ae rfl (da rfl rfl rfl) ?_
        refine ae rfl (da rfl rfl rfl) ?_
        try dsimp only [St.put]
        refine av rfl (di rfl ?_)
        try dsimp only [St.put]
        first | refine av rfl (c8 rfl rfl rfl zG rfl rfl (by rfl) ?_) | refine av rfl (dh rfl rfl rfl zG (by constructor) rfl zO ?_)
        refine ae rfl (ax rfl (by constructor)) ?_
        refine am ?_
        dsimp only [St.put]
        refine hK18 _ ?_
        refine ep (i := 14) rfl zG zC ?_
        dsimp only
        refine aj fun K48 hK48 => ?_
        refine aq ?_
        try dsimp only [St.put]
        first | refine aa rfl (aw rfl rfl) ?_ | refine aa rfl (ah rfl rfl (Enc.len _)) ?_ | refine aa rfl (ah rfl rfl rfl) ?_ | refine aa rfl (a7 rfl rfl zG trivial (by first | rfl | assumption)) ?_ | refine aa rfl (az rfl rfl zG trivial (by rfl)) ?_ | refine aa rfl (a8 rfl rfl zG trivial (by simp)) ?_ | refine aa rfl (ai rfl rfl zG trivial (ay (by assumption) rfl)) ?_ | refine aa rfl (ai rfl rfl zG trivial (by assumption)) ?_ | refine aa rfl (a9 rfl rfl zG trivial rfl (by assumption) rfl (by decide)) ?_ | refine aa rfl (ba rfl rfl zG (by rfl)) ?_
        try dsimp only [St.put]
        first | refine aa rfl (aw rfl rfl) ?_ | refine aa rfl (ah rfl rfl (Enc.len _)) ?_ | refine aa rfl (ah rfl rfl rfl) ?_ | refine aa rfl (a7 rfl rfl zG trivial (by first | rfl | assumption)) ?_ | refine aa rfl (az rfl rfl zG trivial (by rfl)) ?_ | refine aa rfl (a8 rfl rfl zG trivial (by simp)) ?_ | refine aa rfl (ai rfl rfl zG trivial (ay (by assumption) rfl)) ?_ | refine aa rfl (ai rfl rfl zG trivial (by assumption)) ?_ | refine aa rfl (a9 rfl rfl zG trivial rfl (by assumption) rfl (by decide)) ?_ | refine aa rfl (ba rfl rfl zG (by rfl)) ?_
        try dsimp only [St.put]
        refine av rfl (br rfl rfl rfl (ut t c) ?_)
        refine ae rfl (ar rfl (by constructor)) ?_
        refine ae rfl (da rfl rfl rfl) ?_
        refine ae rfl (da rfl rfl rfl) ?_
        try dsimp only [St.put]
        refine av rfl (di rfl ?_)
        try dsimp only [St.put]
        first | refine av rfl (c8 rfl rfl rfl zG rfl rfl (by rfl) ?_) | refine av rfl (dh rfl rfl rfl zG (by constructor) rfl zO ?_)
        refine ae rfl (ax rfl (by constructor)) ?_
        refine am ?_
        dsimp only [St.put]
        refine hK48 _ ?_
        refine ep (i := 16) rfl zG zC ?_
        dsimp only
        refine aj fun K49 hK49 => ?_
        refine aq ?_
        try dsimp only [St.put]
        first | refine aa rfl (aw rfl rfl) ?_ | refine aa rfl (ah rfl rfl (Enc.len _)) ?_ | refine aa rfl (ah rfl rfl rfl) ?_ | refine aa rfl (a7 rfl rfl zG trivial (by first | rfl | assumption)) ?_ | refine aa rfl (az rfl rfl zG trivial (by rfl)) ?_ | refine aa rfl (a8 rfl rfl zG trivial (by simp)) ?_ | refine aa rfl (ai rfl rfl zG trivial (ay (by assumption) rfl)) ?_ | refine aa rfl (ai rfl rfl zG trivial (by assumption)) ?_ | refine aa rfl (a9 rfl rfl zG trivial rfl (by assumption) rfl (by decide)) ?_ | refine aa rfl (ba rfl rfl zG (by rfl)) ?_
        try dsimp only [St.put]
        first | refine aa rfl (aw rfl rfl) ?_ | refine aa rfl (ah rfl rfl (Enc.len _)) ?_ | refine aa rfl (ah rfl rfl rfl) ?_ | refine aa rfl (a7 rfl rfl zG trivial (by first | rfl | assumption)) ?_ | refine aa rfl (az rfl rfl zG trivial (by rfl)) ?_ | refine aa rfl (a8 rfl rfl zG trivial (by simp)) ?_ | refine aa rfl (ai rfl rfl zG trivial (ay (by assumption) rfl)) ?_ | refine aa rfl (ai rfl rfl zG trivial (by assumption)) ?_ | refine aa rfl (a9 rfl rfl zG trivial rfl (by assumption) rfl (by decide)) ?_ | refine aa rfl (ba rfl rfl zG (by rfl)) ?_
        try dsimp only [St.put]
        first | refine aa rfl (aw rfl rfl) ?_ | refine aa rfl (ah rfl rfl (Enc.len _)) ?_ | refine aa rfl (ah rfl rfl rfl) ?_ | refine aa rfl (a7 rfl rfl zG trivial (by first | rfl | assumption)) ?_ | refine aa rfl (az rfl rfl zG trivial (by rfl)) ?_ | refine aa rfl (a8 rfl rfl zG trivial (by simp)) ?_ | refine aa rfl (ai rfl rfl zG trivial (ay (by assumption) rfl)) ?_ | refine aa rfl (ai rfl rfl zG trivial (by assumption)) ?_ | refine aa rfl (a9 rfl rfl zG trivial rfl (by assumption) rfl (by decide)) ?_ | refine aa rfl (ba rfl rfl zG (by rfl)) ?_
        try dsimp only [St.put]
        refine av rfl ((gq rfl rfl rfl ((wt 0 t c q)) zG (by dsimp only [St.put]; omega) ?_))
        refine ae rfl (ar rfl (by constructor)) ?_
        refine ae rfl (da rfl rfl rfl) ?_
        refine ae rfl (da rfl rfl rfl) ?_
        refine ae rfl (ax rfl (by constructor)) ?_
        refine ae rfl (ax rfl (by constructor)) ?_
        refine am ?_
        dsimp only [St.put]
        refine hK49 _ ?_
        refine aj fun K50 hK50 => ?_
        refine aq ?_
        try dsimp only [St.put]
        first | refine aa rfl (aw rfl rfl) ?_ | refine aa rfl (ah rfl rfl (Enc.len _)) ?_ | refine aa rfl (ah rfl rfl rfl) ?_ | refine aa rfl (a7 rfl rfl zG trivial (by first | rfl | assumption)) ?_ | refine aa rfl (az rfl rfl zG trivial (by rfl)) ?_ | refine aa rfl (a8 rfl rfl zG trivial (by simp)) ?_ | refine aa rfl (ai rfl rfl zG trivial (ay (by assumption) rfl)) ?_ | refine aa rfl (ai rfl rfl zG trivial (by assumption)) ?_ | refine aa rfl (a9 rfl rfl zG trivial rfl (by assumption) rfl (by decide)) ?_ | refine aa rfl (ba rfl rfl zG (by rfl)) ?_
        try dsimp only [St.put]
        first | refine aa rfl (aw rfl rfl) ?_ | refine aa rfl (ah rfl rfl (Enc.len _)) ?_ | refine aa rfl (ah rfl rfl rfl) ?_ | refine aa rfl (a7 rfl rfl zG trivial (by first | rfl | assumption)) ?_ | refine aa rfl (az rfl rfl zG trivial (by rfl)) ?_ | refine aa rfl (a8 rfl rfl zG trivial (by simp)) ?_ | refine aa rfl (ai rfl rfl zG trivial (ay (by assumption) rfl)) ?_ | refine aa rfl (ai rfl rfl zG trivial (by assumption)) ?_ | refine aa rfl (a9 rfl rfl zG trivial rfl (by assumption) rfl (by decide)) ?_ | refine aa rfl (ba rfl rfl zG (by rfl)) ?_
        try dsimp only [St.put]
        first | refine aa rfl (aw rfl rfl) ?_ | refine aa rfl (ah rfl rfl (Enc.len _)) ?_ | refine aa rfl (ah rfl rfl rfl) ?_ | refine aa rfl (a7 rfl rfl zG trivial (by first | rfl | assumption)) ?_ | refine aa rfl (az rfl rfl zG trivial (by rfl)) ?_ | refine aa rfl (a8 rfl rfl zG trivial (by simp)) ?_ | refine aa rfl (ai rfl rfl zG trivial (ay (by assumption) rfl)) ?_ | refine aa rfl (ai rfl rfl zG trivial (by assumption)) ?_ | refine aa rfl (a9 rfl rfl zG trivial rfl (by assumption) rfl (by decide)) ?_ | refine aa rfl (ba rfl rfl zG (by rfl)) ?_
        try dsimp only [St.put]
        refine av rfl (br rfl rfl rfl (uq t c q) ?_)
        refine ae rfl (ar rfl (by constructor)) ?_
        refine ae rfl (da rfl rfl rfl) ?_
        refine ae rfl (da rfl rfl rfl) ?_
        refine ae rfl (ax rfl (by constructor)) ?_
        refine ae rfl (ax rfl (by constructor)) ?_
        refine am ?_
        dsimp only [St.put]
        refine hK50 _ ?_
        refine aj fun K51 hK51 => ?_
        refine aq ?_
        try dsimp only [St.put]
        first | refine aa rfl (aw rfl rfl) ?_ | refine aa rfl (ah rfl rfl (Enc.len _)) ?_ | refine aa rfl (ah rfl rfl rfl) ?_ | refine aa rfl (a7 rfl rfl zG trivial (by first | rfl | assumption)) ?_ | refine aa rfl (az rfl rfl zG trivial (by rfl)) ?_ | refine aa rfl (a8 rfl rfl zG trivial (by simp)) ?_ | refine aa rfl (ai rfl rfl zG trivial (ay (by assumption) rfl)) ?_ | refine aa rfl (ai rfl rfl zG trivial (by assumption)) ?_ | refine aa rfl (a9 rfl rfl zG trivial rfl (by assumption) rfl (by decide)) ?_ | refine aa rfl (ba rfl rfl zG (by rfl)) ?_
        refine ae rfl (ar rfl (by constructor)) ?_
        try dsimp only [St.put]
        refine av rfl ((gq rfl rfl rfl ((wu 0 t l)) zG (by dsimp only [St.put]; omega) ?_))
        refine ae rfl (ar rfl (by constructor)) ?_
        refine ae rfl (da rfl rfl rfl) ?_
        refine ae rfl (da rfl rfl rfl) ?_
        refine ae rfl (ax rfl (by constructor)) ?_
        refine ae rfl (ax rfl (by constructor)) ?_
        refine am ?_
        dsimp only [St.put]
        refine hK51 _ ?_
        refine aj fun K52 hK52 => ?_
        refine aq ?_
        try dsimp only [St.put]
        first | refine aa rfl (aw rfl rfl) ?_ | refine aa rfl (ah rfl rfl (Enc.len _)) ?_ | refine aa rfl (ah rfl rfl rfl) ?_ | refine aa rfl (a7 rfl rfl zG trivial (by first | rfl | assumption)) ?_ | refine aa rfl (az rfl rfl zG trivial (by rfl)) ?_ | refine aa rfl (a8 rfl rfl zG trivial (by simp)) ?_ | refine aa rfl (ai rfl rfl zG trivial (ay (by assumption) rfl)) ?_ | refine aa rfl (ai rfl rfl zG trivial (by assumption)) ?_ | refine aa rfl (a9 rfl rfl zG trivial rfl (by assumption) rfl (by decide)) ?_ | refine aa rfl (ba rfl rfl zG (by rfl)) ?_
        refine ae rfl (ar rfl (by constructor)) ?_
        try dsimp only [St.put]
        refine av rfl (br rfl rfl rfl (uw t l) ?_)
        refine ae rfl (ar rfl (by constructor)) ?_
        refine ae rfl (da rfl rfl rfl) ?_
        refine ae rfl (da rfl rfl rfl) ?_
        refine ae rfl (ax rfl (by constructor)) ?_
        refine ae rfl (ax rfl (by constructor)) ?_
        refine am ?_
        dsimp only [St.put]
        refine hK52 _ ?_
        refine aj fun K53 hK53 => ?_
        refine kx [(0, none), (1, none), (3, none), (4, none)] (fun _ => false) (fun i => [].contains i) 34 [true, true, false, true, true, false, false, false, false, false, false, false, false, false, false, false, false, false, false, false, false, false, false, false, false, false, false, false, false, false, false, false, false, false, false, false, false, false] (by kernel_rfl) (by kernel_rfl) ?_
        try dsimp only [St.put]
        first | refine af rfl rfl rfl rfl (aw rfl rfl) ?_ | refine af rfl rfl rfl rfl (ah rfl rfl (Enc.len _)) ?_ | refine af rfl rfl rfl rfl (ah rfl rfl rfl) ?_ | refine af rfl rfl rfl rfl (a7 rfl rfl zG (by simp) (by first | rfl | assumption)) ?_ | refine af rfl rfl rfl rfl (az rfl rfl zG (by simp) (by rfl)) ?_ | refine af rfl rfl rfl rfl (a8 rfl rfl zG (by simp) (by simp)) ?_ | refine af rfl rfl rfl rfl (ai rfl rfl zG (by simp) (ay (by assumption) rfl)) ?_ | refine af rfl rfl rfl rfl (ai rfl rfl zG (by simp) (by assumption)) ?_ | refine af rfl rfl rfl rfl (a9 rfl rfl zG (by simp) rfl (by assumption) rfl (by decide)) ?_ | refine af rfl rfl rfl rfl (ba rfl rfl zG (by rfl)) ?_
        try dsimp only [St.put]
        first | refine af rfl rfl rfl rfl (aw rfl rfl) ?_ | refine af rfl rfl rfl rfl (ah rfl rfl (Enc.len _)) ?_ | refine af rfl rfl rfl rfl (ah rfl rfl rfl) ?_ | refine af rfl rfl rfl rfl (a7 rfl rfl zG (by simp) (by first | rfl | assumption)) ?_ | refine af rfl rfl rfl rfl (az rfl rfl zG (by simp) (by rfl)) ?_ | refine af rfl rfl rfl rfl (a8 rfl rfl zG (by simp) (by simp)) ?_ | refine af rfl rfl rfl rfl (ai rfl rfl zG (by simp) (ay (by assumption) rfl)) ?_ | refine af rfl rfl rfl rfl (ai rfl rfl zG (by simp) (by assumption)) ?_ | refine af rfl rfl rfl rfl (a9 rfl rfl zG (by simp) rfl (by assumption) rfl (by decide)) ?_ | refine af rfl rfl rfl rfl (ba rfl rfl zG (by rfl)) ?_
        try dsimp only [St.put]
        first | refine af rfl rfl rfl rfl (aw rfl rfl) ?_ | refine af rfl rfl rfl rfl (ah rfl rfl (Enc.len _)) ?_ | refine af rfl rfl rfl rfl (ah rfl rfl rfl) ?_ | refine af rfl rfl rfl rfl (a7 rfl rfl zG (by simp) (by first | rfl | assumption)) ?_ | refine af rfl rfl rfl rfl (az rfl rfl zG (by simp) (by rfl)) ?_ | refine af rfl rfl rfl rfl (a8 rfl rfl zG (by simp) (by simp)) ?_ | refine af rfl rfl rfl rfl (ai rfl rfl zG (by simp) (ay (by assumption) rfl)) ?_ | refine af rfl rfl rfl rfl (ai rfl rfl zG (by simp) (by assumption)) ?_ | refine af rfl rfl rfl rfl (a9 rfl rfl zG (by simp) rfl (by assumption) rfl (by decide)) ?_ | refine af rfl rfl rfl rfl (ba rfl rfl zG (by rfl)) ?_
        try dsimp only [St.put]
        first | refine af rfl rfl rfl rfl (aw rfl rfl) ?_ | refine af rfl rfl rfl rfl (ah rfl rfl (Enc.len _)) ?_ | refine af rfl rfl rfl rfl (ah rfl rfl rfl) ?_ | refine af rfl rfl rfl rfl (a7 rfl rfl zG (by simp) (by first | rfl | assumption)) ?_ | refine af rfl rfl rfl rfl (az rfl rfl zG (by simp) (by rfl)) ?_ | refine af rfl rfl rfl rfl (a8 rfl rfl zG (by simp) (by simp)) ?_ | refine af rfl rfl rfl rfl (ai rfl rfl zG (by simp) (ay (by assumption) rfl)) ?_ | refine af rfl rfl rfl rfl (ai rfl rfl zG (by simp) (by assumption)) ?_ | refine af rfl rfl rfl rfl (a9 rfl rfl zG (by simp) rfl (by assumption) rfl (by decide)) ?_ | refine af rfl rfl rfl rfl (ba rfl rfl zG (by rfl)) ?_
        refine dc ?_
        refine dj [2] (by kernel_rfl) (by simp) ?_
        refine dz ?_ ?_
        ·try dsimp only [St.put]
         refine dr rfl rfl rfl ((gq rfl rfl rfl ((ww 0 t c)) zG (by dsimp only [St.put]; omega) ?_))
         refine dj [5] (by kernel_rfl) (by simp) ?_
         refine dz ?_ ?_
         ·try dsimp only [St.put]
          refine dr rfl rfl rfl (br rfl rfl rfl (pf t c) ?_)
          refine fm [(6, none), (7, none), (8, none), (9, none)] (fun i => [6, 7].contains i) 28 [true, true, true, true, true, true, true, true, true, true, false, false, false, false, false, false, false, false, false, false, false, false, false, false, false, false, false, false, false, false, false, false, false, false, false, false, false, false] (by kernel_rfl) ?_
          (first | refine ae rfl ((du (c := true) (dy rfl rfl rfl) (decide_eq_true rfl))) ?_ | refine ak rfl rfl rfl rfl ((du (c := true) (dy rfl rfl rfl) (decide_eq_true rfl))) ?_ | refine c0 rfl rfl rfl rfl ((du (c := true) (dy rfl rfl rfl) (decide_eq_true rfl))) ?_)
          refine ak rfl rfl rfl rfl (ar rfl (by constructor)) ?_
          try dsimp only [St.put]
          first | refine af rfl rfl rfl rfl (aw rfl rfl) ?_ | refine af rfl rfl rfl rfl (ah rfl rfl (Enc.len _)) ?_ | refine af rfl rfl rfl rfl (ah rfl rfl rfl) ?_ | refine af rfl rfl rfl rfl (a7 rfl rfl zG (by simp) (by first | rfl | assumption)) ?_ | refine af rfl rfl rfl rfl (az rfl rfl zG (by simp) (by rfl)) ?_ | refine af rfl rfl rfl rfl (a8 rfl rfl zG (by simp) (by simp)) ?_ | refine af rfl rfl rfl rfl (ai rfl rfl zG (by simp) (ay (by assumption) rfl)) ?_ | refine af rfl rfl rfl rfl (ai rfl rfl zG (by simp) (by assumption)) ?_ | refine af rfl rfl rfl rfl (a9 rfl rfl zG (by simp) rfl (by assumption) rfl (by decide)) ?_ | refine af rfl rfl rfl rfl (ba rfl rfl zG (by rfl)) ?_
          try dsimp only [St.put]
          first | refine af rfl rfl rfl rfl (aw rfl rfl) ?_ | refine af rfl rfl rfl rfl (ah rfl rfl (Enc.len _)) ?_ | refine af rfl rfl rfl rfl (ah rfl rfl rfl) ?_ | refine af rfl rfl rfl rfl (a7 rfl rfl zG (by simp) (by first | rfl | assumption)) ?_ | refine af rfl rfl rfl rfl (az rfl rfl zG (by simp) (by rfl)) ?_ | refine af rfl rfl rfl rfl (a8 rfl rfl zG (by simp) (by simp)) ?_ | refine af rfl rfl rfl rfl (ai rfl rfl zG (by simp) (ay (by assumption) rfl)) ?_ | refine af rfl rfl rfl rfl (ai rfl rfl zG (by simp) (by assumption)) ?_ | refine af rfl rfl rfl rfl (a9 rfl rfl zG (by simp) rfl (by assumption) rfl (by decide)) ?_ | refine af rfl rfl rfl rfl (ba rfl rfl zG (by rfl)) ?_
          refine dc ?_
          refine dj [10] (by kernel_rfl) (by simp) ?_
          refine dz ?_ ?_
          ·try dsimp only [St.put]
           refine dr rfl rfl rfl (br rfl rfl rfl (qu (gy t c)) ?_)
           refine fm [(11, none), (12, none), (13, none), (14, none), (15, none), (16, none), (17, none), (18, none), (19, none), (20, none), (21, none), (22, none), (23, none), (24, none), (25, none), (26, none), (27, none), (28, none), (29, none)] (fun i => [11, 12, 13, 14, 15, 16, 17, 18, 19, 20, 21, 22, 23, 24, 25, 26, 27, 28, 29].contains i) 8 [true, true, true, true, true, true, true, true, true, true, true, true, true, true, true, true, true, true, true, true, true, true, true, true, true, true, true, true, true, true, false, false, false, false, false, false, false, false] (by kernel_rfl) ?_
           first | refine ak rfl rfl rfl rfl (bt rfl rfl (by constructor)) ?_ | refine ak rfl rfl rfl rfl (bu rfl rfl (by constructor)) ?_ | refine ak rfl rfl rfl rfl (b7 rfl rfl rfl rfl) ?_ | refine ak rfl rfl rfl rfl (bz rfl rfl rfl rfl) ?_
           refine ak rfl rfl rfl rfl (ar rfl (by constructor)) ?_
           refine ak rfl rfl rfl rfl (ar rfl (by constructor)) ?_
           refine ak rfl rfl rfl rfl (ar rfl (by constructor)) ?_
           (first | refine ae rfl ((du (c := true) (dy rfl rfl rfl) (decide_eq_true rfl))) ?_ | refine ak rfl rfl rfl rfl ((du (c := true) (dy rfl rfl rfl) (decide_eq_true rfl))) ?_ | refine c0 rfl rfl rfl rfl ((du (c := true) (dy rfl rfl rfl) (decide_eq_true rfl))) ?_)
           first | refine ak rfl rfl rfl rfl (bt rfl rfl (by constructor)) ?_ | refine ak rfl rfl rfl rfl (bu rfl rfl (by constructor)) ?_ | refine ak rfl rfl rfl rfl (b7 rfl rfl rfl rfl) ?_ | refine ak rfl rfl rfl rfl (bz rfl rfl rfl rfl) ?_
           refine ak rfl rfl rfl rfl (ar rfl (by constructor)) ?_
           refine ak rfl rfl rfl rfl (ar rfl (by constructor)) ?_
           refine ak rfl rfl rfl rfl (ar rfl (by constructor)) ?_
           (first | refine ae rfl ((du (c := true) (lg rfl rfl rfl) (decide_eq_true rfl))) ?_ | refine ak rfl rfl rfl rfl ((du (c := true) (lg rfl rfl rfl) (decide_eq_true rfl))) ?_ | refine c0 rfl rfl rfl rfl ((du (c := true) (lg rfl rfl rfl) (decide_eq_true rfl))) ?_)
           first | refine ak rfl rfl rfl rfl (bt rfl rfl (by constructor)) ?_ | refine ak rfl rfl rfl rfl (bu rfl rfl (by constructor)) ?_ | refine ak rfl rfl rfl rfl (b7 rfl rfl rfl rfl) ?_ | refine ak rfl rfl rfl rfl (bz rfl rfl rfl rfl) ?_
           refine ak rfl rfl rfl rfl (ar rfl (by constructor)) ?_
           refine ak rfl rfl rfl rfl (ar rfl (by constructor)) ?_
           refine ak rfl rfl rfl rfl (ar rfl (by constructor)) ?_
           (first | refine ae rfl ((du (c := true) (dy rfl rfl rfl) (decide_eq_true rfl))) ?_ | refine ak rfl rfl rfl rfl ((du (c := true) (dy rfl rfl rfl) (decide_eq_true rfl))) ?_ | refine c0 rfl rfl rfl rfl ((du (c := true) (dy rfl rfl rfl) (decide_eq_true rfl))) ?_)
           first | refine ak rfl rfl rfl rfl (bt rfl rfl (by constructor)) ?_ | refine ak rfl rfl rfl rfl (bu rfl rfl (by constructor)) ?_ | refine ak rfl rfl rfl rfl (b7 rfl rfl rfl rfl) ?_ | refine ak rfl rfl rfl rfl (bz rfl rfl rfl rfl) ?_
           refine ak rfl rfl rfl rfl (ar rfl (by constructor)) ?_
           refine ak rfl rfl rfl rfl (ar rfl (by constructor)) ?_
           refine ak rfl rfl rfl rfl (ar rfl (by constructor)) ?_
           refine dc ?_
           refine dj [30] (by kernel_rfl) (by simp) ?_
           refine dz ?_ ?_
           ·try dsimp only [St.put]
            refine dr rfl rfl rfl (br rfl rfl rfl (yh _) ?_)
            refine fm [(31, none), (32, none), (33, none), (34, none), (35, none), (36, none), (37, none)] (fun i => [31, 32, 33, 34, 35, 36, 37].contains i) 0 [true, true, true, true, true, true, true, true, true, true, true, true, true, true, true, true, true, true, true, true, true, true, true, true, true, true, true, true, true, true, true, true, true, true, true, true, true, true] (by kernel_rfl) ?_
            first | refine ak rfl rfl rfl rfl (bt rfl rfl (by constructor)) ?_ | refine ak rfl rfl rfl rfl (bu rfl rfl (by constructor)) ?_ | refine ak rfl rfl rfl rfl (b7 rfl rfl rfl rfl) ?_ | refine ak rfl rfl rfl rfl (bz rfl rfl rfl rfl) ?_
            refine ak rfl rfl rfl rfl (ar rfl (by constructor)) ?_
            refine ak rfl rfl rfl rfl (ar rfl (by constructor)) ?_
            refine ak rfl rfl rfl rfl (ar rfl (by constructor)) ?_
            (first | refine ae rfl ((du (c := true) (dy rfl rfl rfl) (decide_eq_true rfl))) ?_ | refine ak rfl rfl rfl rfl ((du (c := true) (dy rfl rfl rfl) (decide_eq_true rfl))) ?_ | refine c0 rfl rfl rfl rfl ((du (c := true) (dy rfl rfl rfl) (decide_eq_true rfl))) ?_)
            first | refine ak rfl rfl rfl rfl (bt rfl rfl (by constructor)) ?_ | refine ak rfl rfl rfl rfl (bu rfl rfl (by constructor)) ?_ | refine ak rfl rfl rfl rfl (b7 rfl rfl rfl rfl) ?_ | refine ak rfl rfl rfl rfl (bz rfl rfl rfl rfl) ?_
            refine ak rfl rfl rfl rfl (ax rfl (by constructor)) ?_
            refine dc ?_
            dsimp only [St.put]
            refine gw (by kernel_rfl) ?_
            refine hK53 _ ?_
            refine aj fun K54 hK54 => ?_
            refine aj fun K55 hK55 => ?_
            rw [hV]
            refine cg 27 ?_
            refine zQ ?_
            refine aq ?_
            first | refine ae rfl (bg rfl rfl rfl) ?_ | refine ae rfl (bi rfl rfl) ?_
            try dsimp only [St.put]
            first | refine aa rfl (aw rfl rfl) ?_ | refine aa rfl (ah rfl rfl (Enc.len _)) ?_ | refine aa rfl (ah rfl rfl rfl) ?_ | refine aa rfl (a7 rfl rfl zG trivial (by first | rfl | assumption)) ?_ | refine aa rfl (az rfl rfl zG trivial (by rfl)) ?_ | refine aa rfl (a8 rfl rfl zG trivial (by simp)) ?_ | refine aa rfl (ai rfl rfl zG trivial (ay (by assumption) rfl)) ?_ | refine aa rfl (ai rfl rfl zG trivial (by assumption)) ?_ | refine aa rfl (a9 rfl rfl zG trivial rfl (by assumption) rfl (by decide)) ?_ | refine aa rfl (ba rfl rfl zG (by rfl)) ?_
            first | refine ae rfl (bj rfl rfl (List.length_map _)) ?_ | refine ae rfl (bj rfl rfl rfl) ?_ | refine ae rfl (b8 rfl rfl) ?_ | refine ae rfl (cd rfl rfl) ?_ | refine ae rfl (cb rfl rfl) ?_ | refine ae rfl (ca rfl rfl (by omega)) ?_
            refine ae rfl (ar rfl (by constructor)) ?_
            refine am ?_
            dsimp only [St.put]
            refine hK55 _ ?_
            refine bq ?_
            refine uez 1 ?_
            refine ue6 fun KR56_0 hKR56_0 => ?_
            refine aj fun K57 hK57 => ?_
            refine aq ?_
            refine ae rfl (du (c := false) (cj rfl rfl rfl) (by rfl)) ?_
            refine am ?_
            dsimp only [St.put]
            refine hK57 _ ?_
            refine aj fun K58 hK58 => ?_
            refine bl rfl (fun h => by cases h) (fun _ => ?_)
            refine co ?_
            refine hK54 _ ?_
            refine aj fun K59 hK59 => ?_
            refine aj fun K60 hK60 => ?_
            refine aq ?_
            refine ae rfl (ar rfl (by constructor)) ?_
            first | refine ae rfl (bj rfl rfl (List.length_map _)) ?_ | refine ae rfl (bj rfl rfl rfl) ?_ | refine ae rfl (b8 rfl rfl) ?_ | refine ae rfl (cd rfl rfl) ?_ | refine ae rfl (cb rfl rfl) ?_ | refine ae rfl (ca rfl rfl (by omega)) ?_
            refine ae rfl (ar rfl (by constructor)) ?_
            refine am ?_
            dsimp only [St.put]
            refine hK60 _ ?_
            refine bq ?_
            refine cg 165 ?_
            refine zQ ?_
            refine cn (G) zX ?_
            dsimp only
            refine cz (X := Nat) (fun k => k ≤ l.length) (fun k => l.length - k) (fun k => [(26, .v (.bool true)), (32, .any), (164, .v (.int .i64 (k : Int)))]) (fun k G' => G') 0 rfl ?_ ?_ (fun _ _ h => h) ?_ ?_ ?_
            ·exact Nat.zero_le _
            ·exact zF
            ·rintro k hI
             exact zL
            ·exact fun _ _ _ _ h => .inl h
            ·rintro k hT
             dsimp only at hT ⊢
             refine aj fun K61 hK61 => ?_
             refine aq ?_
             refine ae rfl (cj rfl rfl rfl) ?_
             refine am ?_
             dsimp only [St.put]
             refine hK61 _ ?_
             refine aj fun K62 hK62 => ?_
             refine bl rfl (fun hc => ?_) (fun hc => ?_)
             ·replace hc := of_decide_eq_true hc
              obtain ⟨x, hx⟩ : ∃ x, l[k]? = some x := cm (by omega)
              refine bn ?_
              refine hK62 _ ?_
              refine aj fun K63 hK63 => ?_
              refine bq ?_
              refine aj fun K64 hK64 => ?_
              refine aq ?_
              refine ae rfl (ar rfl (by constructor)) ?_
              refine ae rfl (ax rfl (by constructor)) ?_
              refine am ?_
              dsimp only [St.put]
              refine hK64 _ ?_
              refine fw [(0, none), (1, none), (2, none), (3, none), (4, none), (5, none), (6, none), (7, none), (8, none), (9, none), (10, none), (11, none), (12, none)] (fun i => [10].contains i) (fun i => [10].contains i) (fun i => [0, 1, 2, 3, 4, 6, 7, 8, 11, 12].contains i) [] (by kernel_rfl) (by kernel_rfl) ?_
              refine ak rfl rfl rfl rfl (ar rfl (by constructor)) ?_
              refine ak rfl rfl rfl rfl (ar rfl (by constructor)) ?_
              refine ak rfl rfl rfl rfl (ar rfl (by constructor)) ?_
              refine ak rfl rfl rfl rfl (ar rfl (by constructor)) ?_
              try dsimp only [St.put]
              first | refine ak rfl rfl rfl rfl (bf rfl rfl rfl rfl (bm (by assumption)) (Enc.len _)) ?_ | refine ak rfl rfl rfl rfl (bf rfl rfl rfl rfl (by assumption) rfl) ?_ | refine ak rfl rfl rfl rfl (cr rfl rfl rfl (by first | exact ct _ | exact rfl) (by omega)) ?_ | refine ak rfl rfl rfl rfl (bf rfl rfl rfl (by omega) (bm (by assumption)) (Enc.len _)) ?_
              try dsimp only [St.put]
              first | refine af rfl rfl rfl rfl (aw rfl rfl) ?_ | refine af rfl rfl rfl rfl (ah rfl rfl (Enc.len _)) ?_ | refine af rfl rfl rfl rfl (ah rfl rfl rfl) ?_ | refine af rfl rfl rfl rfl (a7 rfl rfl zG (by simp) (by first | rfl | assumption)) ?_ | refine af rfl rfl rfl rfl (az rfl rfl zG (by simp) (by rfl)) ?_ | refine af rfl rfl rfl rfl (a8 rfl rfl zG (by simp) (by simp)) ?_ | refine af rfl rfl rfl rfl (ai rfl rfl zG (by simp) (ay (by assumption) rfl)) ?_ | refine af rfl rfl rfl rfl (ai rfl rfl zG (by simp) (by assumption)) ?_ | refine af rfl rfl rfl rfl (a9 rfl rfl zG (by simp) rfl (by assumption) rfl (by decide)) ?_ | refine af rfl rfl rfl rfl (ba rfl rfl zG (by rfl)) ?_
              refine ak rfl rfl rfl rfl (ar rfl (by constructor)) ?_
              refine ak rfl rfl rfl rfl (ar rfl (by constructor)) ?_
              try dsimp only [St.put]
              first | refine ak rfl rfl rfl rfl (bf rfl rfl rfl rfl (bm (by assumption)) (Enc.len _)) ?_ | refine ak rfl rfl rfl rfl (bf rfl rfl rfl rfl (by assumption) rfl) ?_ | refine ak rfl rfl rfl rfl (cr rfl rfl rfl (by first | exact ct _ | exact rfl) (by omega)) ?_ | refine ak rfl rfl rfl rfl (bf rfl rfl rfl (by omega) (bm (by assumption)) (Enc.len _)) ?_
              try dsimp only [St.put]
              first | refine af rfl rfl rfl rfl (aw rfl rfl) ?_ | refine af rfl rfl rfl rfl (ah rfl rfl (Enc.len _)) ?_ | refine af rfl rfl rfl rfl (ah rfl rfl rfl) ?_ | refine af rfl rfl rfl rfl (a7 rfl rfl zG (by simp) (by first | rfl | assumption)) ?_ | refine af rfl rfl rfl rfl (az rfl rfl zG (by simp) (by rfl)) ?_ | refine af rfl rfl rfl rfl (a8 rfl rfl zG (by simp) (by simp)) ?_ | refine af rfl rfl rfl rfl (ai rfl rfl zG (by simp) (ay (by assumption) rfl)) ?_ | refine af rfl rfl rfl rfl (ai rfl rfl zG (by simp) (by assumption)) ?_ | refine af rfl rfl rfl rfl (a9 rfl rfl zG (by simp) rfl (by assumption) rfl (by decide)) ?_ | refine af rfl rfl rfl rfl (ba rfl rfl zG (by rfl)) ?_
              refine ie ?_
              try dsimp only [St.put]
              refine ez rfl rfl rfl rfl (br rfl rfl rfl (qt x) ?_)
              first | refine c0 rfl rfl rfl rfl (bt rfl rfl (by constructor)) ?_ | refine c0 rfl rfl rfl rfl (bu rfl rfl (by constructor)) ?_ | refine c0 rfl rfl rfl rfl (b7 rfl rfl rfl rfl) ?_ | refine c0 rfl rfl rfl rfl (bz rfl rfl rfl rfl) ?_
              refine c0 rfl rfl rfl rfl (ax rfl (by constructor)) ?_
              refine ib ?_
              dsimp only [St.put]
              refine hK63 _ ?_
              refine aq ?_
              first | refine ae rfl (bx rfl rfl rfl (by omega)) ?_ | refine ae rfl (cp rfl rfl rfl) ?_
              refine ae rfl (ar rfl (by constructor)) ?_
              refine am ?_
              dsimp only [St.put]
              exact ⟨k + 1, by omega, by omega, ⟨⟨rfl, rfl⟩, zF, zB, zN, zX⟩⟩
             ·try replace hc := of_decide_eq_false hc
              refine co ?_
              refine hK59 _ ?_
              refine aj fun K65 hK65 => ?_
              refine aq ?_
              refine ae rfl (ar rfl (by constructor)) ?_
              refine ae rfl (ar rfl (by constructor)) ?_
              try dsimp only [St.put]
              first | refine aa rfl (aw rfl rfl) ?_ | refine aa rfl (ah rfl rfl (Enc.len _)) ?_ | refine aa rfl (ah rfl rfl rfl) ?_ | refine aa rfl (a7 rfl rfl zG trivial (by first | rfl | assumption)) ?_ | refine aa rfl (az rfl rfl zG trivial (by rfl)) ?_ | refine aa rfl (a8 rfl rfl zG trivial (by simp)) ?_ | refine aa rfl (ai rfl rfl zG trivial (ay (by assumption) rfl)) ?_ | refine aa rfl (ai rfl rfl zG trivial (by assumption)) ?_ | refine aa rfl (a9 rfl rfl zG trivial rfl (by assumption) rfl (by decide)) ?_ | refine aa rfl (ba rfl rfl zG (by rfl)) ?_
              try dsimp only [St.put]
              first | refine aa rfl (aw rfl rfl) ?_ | refine aa rfl (ah rfl rfl (Enc.len _)) ?_ | refine aa rfl (ah rfl rfl rfl) ?_ | refine aa rfl (a7 rfl rfl zG trivial (by first | rfl | assumption)) ?_ | refine aa rfl (az rfl rfl zG trivial (by rfl)) ?_ | refine aa rfl (a8 rfl rfl zG trivial (by simp)) ?_ | refine aa rfl (ai rfl rfl zG trivial (ay (by assumption) rfl)) ?_ | refine aa rfl (ai rfl rfl zG trivial (by assumption)) ?_ | refine aa rfl (a9 rfl rfl zG trivial rfl (by assumption) rfl (by decide)) ?_ | refine aa rfl (ba rfl rfl zG (by rfl)) ?_
              try dsimp only [St.put]
              refine av rfl (br rfl rfl rfl (qu t) ?_)
              first | refine ae rfl (bt rfl rfl (by constructor)) ?_ | refine ae rfl (bu rfl rfl (by constructor)) ?_ | refine ae rfl (b7 rfl rfl rfl rfl) ?_ | refine ae rfl (bz rfl rfl rfl rfl) ?_
              refine ae rfl (ar rfl (by constructor)) ?_
              try dsimp only [St.put]
              first | refine aa rfl (aw rfl rfl) ?_ | refine aa rfl (ah rfl rfl (Enc.len _)) ?_ | refine aa rfl (ah rfl rfl rfl) ?_ | refine aa rfl (a7 rfl rfl zG trivial (by first | rfl | assumption)) ?_ | refine aa rfl (az rfl rfl zG trivial (by rfl)) ?_ | refine aa rfl (a8 rfl rfl zG trivial (by simp)) ?_ | refine aa rfl (ai rfl rfl zG trivial (ay (by assumption) rfl)) ?_ | refine aa rfl (ai rfl rfl zG trivial (by assumption)) ?_ | refine aa rfl (a9 rfl rfl zG trivial rfl (by assumption) rfl (by decide)) ?_ | refine aa rfl (ba rfl rfl zG (by rfl)) ?_
              try dsimp only [St.put]
              first | refine aa rfl (aw rfl rfl) ?_ | refine aa rfl (ah rfl rfl (Enc.len _)) ?_ | refine aa rfl (ah rfl rfl rfl) ?_ | refine aa rfl (a7 rfl rfl zG trivial (by first | rfl | assumption)) ?_ | refine aa rfl (az rfl rfl zG trivial (by rfl)) ?_ | refine aa rfl (a8 rfl rfl zG trivial (by simp)) ?_ | refine aa rfl (ai rfl rfl zG trivial (ay (by assumption) rfl)) ?_ | refine aa rfl (ai rfl rfl zG trivial (by assumption)) ?_ | refine aa rfl (a9 rfl rfl zG trivial rfl (by assumption) rfl (by decide)) ?_ | refine aa rfl (ba rfl rfl zG (by rfl)) ?_
              try dsimp only [St.put]
              refine av rfl (br rfl rfl rfl (qt c) ?_)
              first | refine ae rfl (bt rfl rfl (by constructor)) ?_ | refine ae rfl (bu rfl rfl (by constructor)) ?_ | refine ae rfl (b7 rfl rfl rfl rfl) ?_ | refine ae rfl (bz rfl rfl rfl rfl) ?_
              refine ae rfl (ax rfl (by constructor)) ?_
              refine am ?_
              dsimp only [St.put]
              refine hK65 _ ?_
              refine bk ?_
              refine bo rfl (by constructor) zN zS ?_
              rfl
           exact d8
          exact d8
         exact d8
        exact d8
end Go.Proofs.YthboenlglkmnjaaDoor
namespace Go.AB
open Go Go.RowKit Go.ChangeShapes Go.WideShapes
end Go.AB
namespace Go.Proofs.YthboenlglkmnjaaDoor
set_option maxRecDepth 10000
open Go.ChangeShapes Go.WideShapes Go.ChangeAt Go.RowKit Go.AB
open Go.AB.Enc (cells)
open Go.PB (Chap bd PlaceD bh CopyD bw)
instance : OpensE Tryd.prog 3 Int := .int (by kernel_rfl)
instance : OpensE Tryd.prog 9 ByteArray := .str (by kernel_rfl)
instance : OpensE Tryd.prog 56 (List ByteArray) := .slice (e := 9) (by kernel_rfl) (by decide)
instance : OpensE Tryd.prog 53 (List (List ByteArray)) := .slice (e := 56) (by kernel_rfl) (by decide)
instance : OpensE Tryd.prog 55 Chap := .chap (tI := 3) (tL := 53) (by kernel_rfl)
instance : OpensE Tryd.prog 22 (List Chap) := .slice (e := 55) (by kernel_rfl) (by decide)
theorem t7 : ij Tryd.prog 24 [(0, 22, 1)] 1 = true := by kernel_rfl
instance : OpensE Tryd.prog 24 (List Chap) := .one (e := 22) t7
theorem vo : ij Tryd.prog 29 [(0, 3, 1), (1, 3, 1), (2, 3, 1)] 3 = true := by kernel_rfl
instance : OpensE Tryd.prog 29 PlaceD := .place (tI := 3) vo
theorem uer : Tryd.prog.underlying 4 = some .bool := by kernel_rfl
theorem ownZ : ownKnob Tryd.prog.godebug = none := by kernel_rfl
end Go.Proofs.YthboenlglkmnjaaDoor
namespace Go.AB
open Go Go.RowKit Go.ChangeShapes Go.WideShapes
open Go.AB.Enc (cells)
open Go.PB (Chap bd PlaceD bh CopyD bw)
def xg (P : Program) (t : TypeId) : Bool := match P.underlying t with | some (.func _ _ _) => true | _ => false
theorem xf {P : Program} {t : TypeId} (h : xg P t = true) : ∃ ps rs va, P.underlying t = some (.func ps rs va) := by
 unfold xg at h
 split at h
 ·rename_i ps rs va he; exact ⟨ps, rs, va, he⟩
 ·cases h
/-- Functions that lie in a variable's cells. -/
theorem udw {W : World} {b : Nat} {cs : List C} (hne : cs ≠ []) (hone : ∀ c ∈ cs, c.one = true) (us : Nat → Value) (hc : ∀ j, j < cs.length → W.cell? ⟨b, j, none⟩ = some (us j)) (hr : ∀ j c, cs[j]? = some c → R (fk W) W c (us j)) : R (fk W) W (.elem cs) (.pointer (some ⟨b, 0, none⟩)) := by
 have hl : 0 < cs.length := List.length_pos_iff.2 hne
 refine .elem hne hone (.inr ⟨b, 0, rfl, ?_, fun j hj => by rw [Nat.zero_add]; exact hc j hj⟩) hr
 have := qs (hc (cs.length - 1) (by omega))
 show 0 + cs.length ≤ ki W b
 omega
/-- .. one. -/
theorem ucv {P : Program} {f : FuncId} {cs : List C} {v gv : Value} {gc : C} (hp : gx 0 (.fact gv gc) P f cs (.v v)) {w : World} {args : List Value} (hK : R (fk w) w gc gv) (hr : Rs (fk w) w cs args) :
  Calls P f args.toArray w fun e w' => e = .returned v ∧ Below w.heap.size w w' :=
 ucw (fun G nx hG => by
  intro E w' as' hrs hsg
  exact hp G nx hG (by obtain ⟨t, _⟩ := hsg.obj 0 _ hG; have := hsg.lt 0 _ t; rw [hsg.nx] at this; exact this) E w' as' hrs hsg) hK hr
/-- a cell of a function's type, as it reads -/
theorem m9 {P : Program} {W : World} {t : TypeId} {ps rs : Array TypeId} {va : Bool} {v : Value} {b : UInt8} {r : List UInt8} {f0 : FuncId} (hu : P.underlying t = some (.func ps rs va)) (hv : IsFunc v) (hd : veil (funcToken P) t v = .held (b :: r))
  (hone : ((List.range P.funcs.size).filter fun f => (P.funcs[f]?).any (·.name.toUTF8.data.toList == b :: r)) = [f0]) : v = .func (.func f0) #[] #[] :=
 Go.func_of_trod (w := W) (base := 0) (sp := fun _ => true) (fuel := 1) (q := []) hu hone (by
  have := trod_func (enc := funcToken P) hu (W := W) (base := 0) (sp := fun _ => true) hv 0
  rw [hd] at this
  exact this)
theorem vz {H : Type} {enc : TypeId × Value → H} {t : TypeId} {v : Value} (hv : IsFunc v) (hd : veil enc t v = .nil) : v = .nilFunc := by
 cases v <;> simp only [IsFunc] at hv
 ·simp [veil] at hd
 ·rfl
theorem OpensE.reading {P : Program} {t tP tU tS : TypeId} [oP : OpensE P tP PlaceD] [oU : OpensE P tU U8] [oS : OpensE P tS ByteArray] (h : ij P t [(0, tP, 3), (3, tU, 1), (4, tS, 1)] 5 = true) : OpensE P t bh :=
 .struct (α := bh) h fun w cs hl hp => by
  obtain ⟨a, ha⟩ := hp (0, tP, 3) (by simp) PlaceD inferInstance oP
  obtain ⟨b, hb⟩ := hp (3, tU, 1) (by simp) U8 inferInstance oU
  obtain ⟨c, hc⟩ := hp (4, tS, 1) (by simp) ByteArray inferInstance oS
  match cs, hl with
  | [u, v, x, y, z], _ =>
   refine ⟨⟨a, b.v, c⟩, Rs.cons (ha.2 0 _ u rfl rfl) (Rs.cons (ha.2 1 _ v rfl rfl) (Rs.cons (ha.2 2 _ x rfl rfl) (Rs.cons (Rs.single_inv hb) hc)))⟩
theorem OpensE.copy {P : Program} {t tI tL : TypeId} [oI : OpensE P tI Int] [oL : OpensE P tL (List bh)] (h : ij P t [(0, tI, 1), (1, tL, 1)] 2 = true) : OpensE P t CopyD :=
 .struct (α := CopyD) h fun w cs hl hp => by
  obtain ⟨a, ha⟩ := hp (0, tI, 1) (by simp) Int inferInstance oI
  obtain ⟨b, hb⟩ := hp (1, tL, 1) (by simp) (List bh) inferInstance oL
  match cs, hl with
  | [u, v], _ => exact ⟨⟨a, b⟩, Rs.cons (Rs.single_inv ha) hb⟩
theorem OpensE.argList {P : Program} {t e : TypeId} {α : Type} [Enc α] [o : OpensE P t (List α)] (h : nt P t e = true) {H : Type} {enc : TypeId × Value → H} {w : World} {base : Nat} {spare : Nat → Bool} {held : Bool} {r : Reach} {b0 : Nat} {v : Value} {d : DataW H} {ps : List MemPlace}
  (hv : Value.okWide P w r b0 t v) (hd : DataW.Trod enc P w base spare held t v d ps) : ∃ a : List α, R (fk w) w (lst a) v := by
 obtain ⟨a, n, c, rfl⟩ := okWide_slice (rk h).1 hv
 obtain ⟨fuel, hf⟩ := hd
 obtain ⟨xs, hx⟩ := o.op hf
 exact ⟨xs, Rs.single_inv hx⟩
end Go.AB
namespace Go.Proofs.YthboenlglkmnjaaDoor
set_option maxRecDepth 10000
open Go.ChangeShapes Go.WideShapes Go.ChangeAt Go.RowKit Go.AB
open Go.AB.Enc (cells)
open Go.PB (Chap bd PlaceD bh CopyD bw)
instance : OpensE Tryd.prog 5 U8 := .u8 (by kernel_rfl)
instance : OpensE Tryd.prog 60 bh := .reading (tP := 29) (tU := 5) (tS := 9) (by kernel_rfl)
instance : OpensE Tryd.prog 25 (List bh) := .slice (e := 60) (by kernel_rfl) (by decide)
theorem yb : ij Tryd.prog 27 [(0, 3, 1), (1, 25, 1)] 2 = true := by kernel_rfl
instance : OpensE Tryd.prog 27 CopyD := .copy (tI := 3) (tL := 25) yb
theorem gKinds : Tryd.prog.globalNamed "postil/leaf.kinds" = some 0 := by kernel_rfl
theorem tKinds : (Tryd.prog.globals[0]?).map (·.type) = some 87 := by kernel_rfl
theorem zu : Tryd.prog.underlying 87 = some (.array 4 86) := by kernel_rfl
theorem ueq : Tryd.prog.cellsOf 87 = 12 := by kernel_rfl
theorem yi : Tryd.prog.cellsOf 86 = 3 := by kernel_rfl
theorem ug : ij Tryd.prog 86 [(0, 3, 1), (1, 83, 1), (2, 84, 1)] 3 = true := by kernel_rfl
theorem xo : ∃ ps rs va, Tryd.prog.underlying 83 = some (.func ps rs va) := xf (by kernel_rfl)
theorem xp : ∃ ps rs va, Tryd.prog.underlying 84 = some (.func ps rs va) := xf (by kernel_rfl)
theorem uIntO : Tryd.prog.underlying 3 = some (.int .i64) := by kernel_rfl
theorem p8 {W : World} {m : Nat} {cs : List Value} {y : DataW (List UInt8) × List MemPlace} {b : Int} {d1 d2 : DataW (List UInt8)} (hy : y.1 = .agg [.lit (.int .i64 b), d1, d2])
  (h : DataW.trod (funcToken Tryd.prog) Tryd.prog W 0 (fun _ => true) true m 86 cs = some y) : ∃ v1 v2, cs = [.int .i64 b, v1, v2] ∧ IsFunc v1 ∧ veil (funcToken Tryd.prog) 83 v1 = d1 ∧ IsFunc v2 ∧ veil (funcToken Tryd.prog) 84 v2 = d2 := by
 obtain ⟨_, fs, he⟩ := pa ug
 obtain ⟨xs, m', _, e1, hl, hlen, hf⟩ := DataW.trod_struct he h
 rw [yi] at hl
 have hfs : fs.toList.map (fun f => (f.offset, f.type, Tryd.prog.cellsOf f.type)) = [(0, 3, 1), (1, 83, 1), (2, 84, 1)] := by
  have := ug
  unfold ij at this
  rw [he] at this
  simp only [Bool.and_eq_true, beq_iff_eq] at this
  exact this.1
 obtain ⟨l⟩ := fs
 match l, hfs with
 | [f0, f1, f2], hfs =>
  simp only [List.map_cons, List.map_nil, List.cons.injEq, Prod.mk.injEq, and_true] at hfs
  obtain ⟨⟨a1, a2, a3⟩, ⟨b1, b2, b3⟩, ⟨c1, c2, c3⟩⟩ := hfs
  have h0 := hf 0 f0 rfl
  have h1 := hf 1 f1 rfl
  have h2 := hf 2 f2 rfl
  match cs, hl with
  | [u0, u1, u2], _ =>
   match xs, hlen with
   | [x0, x1, x2], _ =>
    subst e1
    simp only [List.map_cons, List.map_nil, DataW.agg.injEq, List.cons.injEq, and_true] at hy
    rw [a3, a1, a2] at h0
    rw [b3, b1, b2] at h1
    rw [c3, c1, c2] at h2
    obtain ⟨n, q1, q2, _⟩ := DataW.trod_int uIntO h0
    obtain ⟨ps, rs, va, hu⟩ := xo
    obtain ⟨ps', rs', va', hu'⟩ := xp
    obtain ⟨v1, q3, q4, q5⟩ := Go.RowKit.func_of_trod hu h1
    obtain ⟨v2, q6, q7, q8⟩ := Go.RowKit.func_of_trod hu' h2
    have e0 : u0 = .int .i64 n := by simpa using q1
    have e1 : u1 = v1 := by simpa using q3
    have e2 : u2 = v2 := by simpa using q6
    subst e0; subst e1; subst e2
    have hx0 : x0 = (.lit (.int .i64 n), []) := by simpa using q2
    have hx1 : x1 = (veil (funcToken Tryd.prog) 83 u1, []) := by simpa using q5
    have hx2 : x2 = (veil (funcToken Tryd.prog) 84 u2, []) := by simpa using q8
    subst hx0; subst hx1; subst hx2
    obtain ⟨k0, k1, k2⟩ := hy
    have : n = b := by simpa using k0
    subst this
    exact ⟨u1, u2, rfl, q4, k1, q7, k2⟩
 | [], hfs => exact absurd hfs (by simp)
 | [_], hfs => exact absurd hfs (by simp)
 | [_, _], hfs => exact absurd hfs (by simp)
 | _ :: _ :: _ :: _ :: _, hfs => exact absurd hfs (by simp)
theorem ucy {W : World} (h : funcsAt Tryd.prog W "postil/leaf.kinds" (.agg [.agg [.lit (.int .i64 0), .nil, .nil], .agg [.lit (.int .i64 0), .iface "func" (.lit (.string [112, 111, 115, 116, 105, 108, 47, 108, 101, 97, 102, 46, 107, 105, 110, 100, 115, 36, 49])), .iface "func" (.lit (.string [112, 111, 115, 116, 105, 108, 47, 108, 101, 97, 102, 46, 107, 105, 110, 100, 115, 36, 50]))], .agg [.lit (.int .i64 1), .iface "func" (.lit (.string [112, 111, 115, 116, 105, 108, 47, 108, 101, 97, 102, 46, 107, 105, 110, 100, 115, 36, 51])), .iface "func" (.lit (.string [112, 111, 115, 116, 105, 108, 47, 108, 101, 97, 102, 46, 107, 105, 110, 100, 115, 36, 52]))], .agg [.lit (.int .i64 0), .iface "func" (.lit (.string [112, 111, 115, 116, 105, 108, 47, 108, 101, 97, 102, 46, 107, 105, 110, 100, 115, 36, 53])), .iface "func" (.lit (.string [112, 111, 115, 116, 105, 108, 47, 108, 101, 97, 102, 46, 107, 105, 110, 100, 115, 36, 54]))]])) : R (fk W) W (.elem kndL) (.pointer (some ⟨0, 0, none⟩)) := by
 obtain ⟨g, t, cs, fuel, p, hg, ht, hv, hd⟩ := h
 obtain rfl := Option.some.inj (gKinds.symm.trans hg)
 obtain rfl := Option.some.inj (tKinds.symm.trans ht)
 obtain ⟨xs, m, _, e1, hl, hn, hel⟩ := DataW.trod_array zu hd
 rw [ueq] at hl
 rw [yi] at hel
 have hcell := fun i => World.var?_cell hg hv i
 obtain ⟨l⟩ := cs
 dsimp only at hl hel hcell
 match l, hl with
 | [u0, u1, u2, u3, u4, u5, u6, u7, u8, u9, u10, u11], _ =>
  match xs, hn with
  | [x0, x1, x2, x3], _ =>
   simp only [Prod.mk.injEq] at e1
   have e2 : (.agg [.agg [.lit (.int .i64 0), .nil, .nil], .agg [.lit (.int .i64 0), .held [112, 111, 115, 116, 105, 108, 47, 108, 101, 97, 102, 46, 107, 105, 110, 100, 115, 36, 49], .held [112, 111, 115, 116, 105, 108, 47, 108, 101, 97, 102, 46, 107, 105, 110, 100, 115, 36, 50]], .agg [.lit (.int .i64 1), .held [112, 111, 115, 116, 105, 108, 47, 108, 101, 97, 102, 46, 107, 105, 110, 100, 115, 36, 51], .held [112, 111, 115, 116, 105, 108, 47, 108, 101, 97, 102, 46, 107, 105, 110, 100, 115, 36, 52]], .agg [.lit (.int .i64 0), .held [112, 111, 115, 116, 105, 108, 47, 108, 101, 97, 102, 46, 107, 105, 110, 100, 115, 36, 53], .held [112, 111, 115, 116, 105, 108, 47, 108, 101, 97, 102, 46, 107, 105, 110, 100, 115, 36, 54]]] : DataW (List UInt8)) = .agg [x0.1, x1.1, x2.1, x3.1] := e1.1
   simp only [DataW.agg.injEq, List.cons.injEq, and_true] at e2
   obtain ⟨a1, a2, q0, a3, a4, a5, a6⟩ := p8 e2.1.symm (hel 0 (by omega))
   obtain ⟨b1, b2, q1, b3, b4, b5, b6⟩ := p8 e2.2.1.symm (hel 1 (by omega))
   obtain ⟨c1, c2, q2, c3, c4, c5, c6⟩ := p8 e2.2.2.1.symm (hel 2 (by omega))
   obtain ⟨d1, d2, q3, d3, d4, d5, d6⟩ := p8 e2.2.2.2.symm (hel 3 (by omega))
   simp only [Nat.zero_mul, Nat.one_mul, List.drop_zero, List.drop_succ_cons, List.take_succ_cons, List.take_zero, List.cons.injEq, and_true, Nat.reduceMul] at q0 q1 q2 q3
   obtain ⟨rfl, rfl, rfl⟩ := q0
   obtain ⟨rfl, rfl, rfl⟩ := q1
   obtain ⟨rfl, rfl, rfl⟩ := q2
   obtain ⟨rfl, rfl, rfl⟩ := q3
   obtain ⟨ps, rs, va, hu⟩ := xo
   obtain ⟨ps', rs', va', hu'⟩ := xp
   obtain rfl := vz a3 a4
   obtain rfl := vz a5 a6
   obtain rfl := m9 (W := W) (f0 := 84) hu b3 b4 (by kernel_rfl)
   obtain rfl := m9 (W := W) (f0 := 85) hu' b5 b6 (by kernel_rfl)
   obtain rfl := m9 (W := W) (f0 := 86) hu c3 c4 (by kernel_rfl)
   obtain rfl := m9 (W := W) (f0 := 87) hu' c5 c6 (by kernel_rfl)
   obtain rfl := m9 (W := W) (f0 := 88) hu d3 d4 (by kernel_rfl)
   obtain rfl := m9 (W := W) (f0 := 89) hu' d5 d6 (by kernel_rfl)
   let L : List Value := [.int .i64 0, .nilFunc, .nilFunc, .int .i64 0, .func (.func 84) #[] #[], .func (.func 85) #[] #[], .int .i64 1, .func (.func 86) #[] #[], .func (.func 87) #[] #[], .int .i64 0, .func (.func 88) #[] #[], .func (.func 89) #[] #[]]
   refine udw (by simp) (by intro c hc; simp only [List.mem_cons, List.not_mem_nil, or_false] at hc; rcases hc with rfl | rfl | rfl | rfl | rfl | rfl | rfl | rfl | rfl | rfl | rfl | rfl <;> rfl) (fun j => L.getD j undef) (fun j hj => ?_) (fun j c hc => ?_)
   ·have := hcell j
    have hj' : j < 12 := hj
    rw [this]
    show (L.toArray)[j]? = _
    rw [List.getElem?_toArray, List.getD_eq_getElem?_getD, List.getElem?_eq_getElem (show j < L.length from hj')]
    rfl
   ·match j, hc with
    | 0, hc => cases hc; exact .v (by decide)
    | 1, hc => cases hc; exact .v rfl
    | 2, hc => cases hc; exact .v rfl
    | 3, hc => cases hc; exact .v (by decide)
    | 4, hc => cases hc; exact Rs.fn (vs := []) Rs.nil
    | 5, hc => cases hc; exact Rs.fn (vs := []) Rs.nil
    | 6, hc => cases hc; exact .v (by decide)
    | 7, hc => cases hc; exact Rs.fn (vs := []) Rs.nil
    | 8, hc => cases hc; exact Rs.fn (vs := []) Rs.nil
    | 9, hc => cases hc; exact .v (by decide)
    | 10, hc => cases hc; exact Rs.fn (vs := []) Rs.nil
    | 11, hc => cases hc; exact Rs.fn (vs := []) Rs.nil
instance : OpensE Tryd.prog 30 (List CopyD) := .slice (e := 27) (by kernel_rfl) (by decide)
theorem ueg : nt Tryd.prog 30 27 = true := by kernel_rfl
abbrev oc : List (String × DataW Unit) := [("postil/leaf.kinds", Rows.laid_postil_leaf_kinds)]
set_option maxRecDepth 100000 in
/-- The door's own heap meets the condition. -/
theorem ueb (os : Os) (args : Array Value) : laidMetH Tryd.prog oc ((World.doorLaid Tryd.prog 600 os).forCall (fun _ _ => 0) ⟨#[], args, []⟩).memory :=
 laidMetH_of_parts3 (fuel := 8) (laidMet_of_run' 8 (by kernel_rfl) (by kernel_rfl)) (by kernel_rfl) (by kernel_rfl)
theorem ucx {W : World} (h : laidMetH Tryd.prog oc W) : R (fk W) W (.elem kndL) (.pointer (some ⟨0, 0, none⟩)) := ucy (h.funcs (List.mem_cons_self ..))
end Go.Proofs.YthboenlglkmnjaaDoor
namespace Go.AB
open Go Go.RowKit Go.ChangeShapes Go.WideShapes
section
variable {H : Type} {enc : TypeId × Value → H} {P : Program} {w : World} {base : Nat} {spare : Nat → Bool} {held : Bool}
end
end Go.AB
