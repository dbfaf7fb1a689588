/-
  What the walks through the program rest on: values, states, steps, calls (VbRead, ItAll, EdLead, FaNear, FbWords, AbFull, Lay, EhOrd, FcNear, FdNear, KzWords, GsNumber, KwWords, AbRangeN, KbIndex, KcWords, OpenE, AbRem, HgRight, KaPlain, KdStand, LaRef).
-/
import Derived.Test.YthboenlglkmnjaaDoorPartC
import Derived.Test.YthboenlglkmnjaaDoorPartB
import Derived.Test.YthboenlglkmnjaaDoorPartA
import Derived.Laws.Cover3
import Derived.Test.YthboenlglkmnjaaDoorProg
import Derived.ChangeKeysEq
import Derived.Deep.Slices
import Derived.Lib.SmallJoins
import Derived.Carry
import Derived.ProofKit
import Derived.OpenShut
namespace Go.Proofs.YthboenlglkmnjaaDoor
set_option maxRecDepth 10000
open Go Go.RowKit Go.AB
open Go.AB.Enc (cells)
open Go.PB (Chap bd PlaceD bh CopyD bw)
set_option maxHeartbeats 4000000 in
theorem uev (n : Nat) (t : bd) (c : CopyD) (ht : ck t = true) (hl20 : c.rs.length ≤ 20) (hv : rsB t c.rs = true) (G : Nat → Option GObj) (nx : Nat) (hF : G n = some gi) (hnx : n < nx) : PC Tryd.prog 20 [.elem [lst t], val c] G nx fun r' G' nx' => ∃ y : List (List Ent) × Nat, (nx ≤ y.2 ∧ RiseE y.1.flatten ∧ (∀ e ∈ y.1.flatten, nx ≤ e.1 ∧ e.1 < y.2) ∧ y.1.map (fun Q => Q.map (·.2.2.2)) = (c9 t c.rs).map (·.lines)) ∧ r' = .agg [.list (dp (t.map (·.id)) y.1) .none] ∧ G' = d9 9 G y.1.flatten ∧ nx' = y.2 := by
 refine vp (nx := nx) (G := G) (args := [.elem [lst t], val c]) (fun y : List (List Ent) × Nat => .agg [.list (dp (t.map (·.id)) y.1) .none]) (fun y => d9 9 G y.1.flatten) (fun y => y.2) (fun y => nx ≤ y.2 ∧ RiseE y.1.flatten ∧ (∀ e ∈ y.1.flatten, nx ≤ e.1 ∧ e.1 < y.2) ∧ y.1.map (fun Q => Q.map (·.2.2.2)) = (c9 t c.rs).map (·.lines)) Tryd.func20 rfl (fun y hS => .agg (cv (ul (ku fun e he => (hS.2.2.1 e he).2)) de)) (fun y hS => zN) (fun hlt y hS => (by (repeat' (refine ji ?_ (by (try dsimp only); omega) ?_)); all_goals (first | exact jp zS | (repeat' (first | exact trivial | refine ⟨?_, ?_⟩ | exact .v | exact .any | refine .elem ?_ | exact ce _ _ | exact fh _ _ | exact e9 _ _ | exact fg _ (by (try dsimp only); omega) | exact .box (by (try dsimp only); omega) | exact fe | exact de | exact l3 (fun e he => (hS.2.2.1 e he).2) fun m o h => .inl h | refine fb ?_ ?_ | exact .arr (by (try dsimp only); omega) | exact .own (by (try dsimp only); omega) | exact .map (by (try dsimp only); omega) | exact ey _ | refine cv ?_ ?_ | exact ce _ _))))) ?_
 simp only [Tryd.ntmps20, List.length_cons, List.length_nil, Nat.reduceAdd, Nat.reduceSub]
 refine b9 fun hlt => ?_
 dsimp only at hlt
 have hltg := hlt
 have hlt0 : ∀ n o, (bc G nx (.box 0 [.list [] .nil])) n = some o → n < nx + 1 + 1 := fun j o h => by
  simp only [bc] at h
  split at h
  ·omega
  ·have := hlt j o h; omega
 obtain ⟨htx1, htx2, htx3⟩ := i3 ht
 obtain ⟨hv1, hv2⟩ := rsB_true.1 hv
 have hM : nx + 1 < nx + 1 + 1 := Nat.lt_succ_self _
 refine aj fun K1 hK1 => ?_
 refine aq ?_
 try dsimp only [St.put]
 refine av rfl (cw rfl rfl (by simp) ?_)
 try dsimp only [St.put]
 refine av rfl (di rfl ?_)
 refine am ?_
 dsimp only [St.put]
 refine hK1 _ ?_
 refine aj fun K2 hK2 => ?_
 refine aq ?_
 try dsimp only [St.put]
 refine av rfl (xv (α := PlaceD) rfl ?_)
 refine ae rfl (ax rfl (by constructor)) ?_
 refine am ?_
 dsimp only [St.put]
 refine hK2 _ ?_
 refine aj fun K3 hK3 => ?_
 refine aj fun K4 hK4 => ?_
 refine aq ?_
 first | refine ae rfl (bg rfl rfl rfl) ?_ | refine ae rfl (bi rfl rfl) ?_
 try dsimp only [St.put]
 first | refine aa rfl (aw rfl rfl) ?_ | refine aa rfl (ah rfl rfl (Enc.len _)) ?_ | refine aa rfl (ah rfl rfl rfl) ?_ | refine aa rfl (a7 rfl rfl zG trivial (by first | rfl | assumption)) ?_ | refine aa rfl (az rfl rfl zG trivial (by rfl)) ?_ | refine aa rfl (a8 rfl rfl zG trivial (by simp)) ?_ | refine aa rfl (ai rfl rfl zG trivial (ay (by assumption) rfl)) ?_ | refine aa rfl (ai rfl rfl zG trivial (by assumption)) ?_ | refine aa rfl (a9 rfl rfl zG trivial rfl (by assumption) rfl (by decide)) ?_ | refine aa rfl (ba rfl rfl zG (by rfl)) ?_
 first | refine ae rfl (bj rfl rfl (List.length_map _)) ?_ | refine ae rfl (bj rfl rfl rfl) ?_ | refine ae rfl (b8 rfl rfl) ?_ | refine ae rfl (cd rfl rfl) ?_ | refine ae rfl (cb rfl rfl) ?_ | refine ae rfl (ca rfl rfl (by omega)) ?_
 refine ae rfl (ar rfl (by constructor)) ?_
 refine am ?_
 dsimp only [St.put]
 refine hK4 _ ?_
 refine bq ?_
 refine cg 25 ?_
 refine zQ ?_
 refine cn (bc (bc G nx (.box 0 [.list [] .nil])) (nx + 1) (js Tryd.prog 29 0 0 (α := PlaceD) fun _ => none)) zX ?_
 dsimp only
 refine qw (X := Nat) (fun k => k ≤ c.rs.length) (fun k => c.rs.length - k) (fun k => [(7, .any), (24, .v (.int .i64 (k : Int)))]) (fun k G' => (rdG Tryd.prog 29 60 (bc G nx (.box 0 [.list [] .nil])) (nx + 1) (nx + 1 + 1) c.rs k)) (fun k => eh (nx + 1 + 1) c.rs k) 0 rfl ?_ ?_ (rfl) ?_ ?_ ?_ ?_ ?_
 ·exact Nat.zero_le _
 ·exact zF
 ·exact fun j o h => ve hM h
 ·rintro k hI
  exact km _ _ _
 ·rintro k hI
  exact zL
 ·rintro k hI
  exact fun j o h => vg (fun j o h hne => (dg hne).trans h) h hM
 ·rintro k hI
  dsimp only at hI ⊢
  refine aj fun K5 hK5 => ?_
  refine aq ?_
  refine ae rfl (cj rfl rfl rfl) ?_
  refine am ?_
  dsimp only [St.put]
  refine hK5 _ ?_
  refine aj fun K6 hK6 => ?_
  refine bl rfl (fun hc => ?_) (fun hc => ?_)
  ·replace hc := of_decide_eq_true hc
   obtain ⟨r, hx⟩ : ∃ x, c.rs[k]? = some x := cm (by omega)
   have hk' : k ≤ c.rs.length := hI
   have hnle := km (nx + 1 + 1) c.rs k
   refine bn ?_
   refine hK6 _ ?_
   refine aj fun K7 hK7 => ?_
   refine bq ?_
   refine aj fun K8 hK8 => ?_
   refine aq ?_
   try dsimp only [St.put]
   first | refine ae rfl (bf rfl rfl rfl rfl (bm (by assumption)) (Enc.len _)) ?_ | refine ae rfl (bf rfl rfl rfl rfl (by assumption) rfl) ?_ | refine ae rfl (cr rfl rfl rfl (by first | exact ct _ | exact rfl) (by omega)) ?_ | refine ae rfl (bf rfl rfl rfl (by omega) (bm (by assumption)) (Enc.len _)) ?_
   try dsimp only [St.put]
   first | refine aa rfl (aw rfl rfl) ?_ | refine aa rfl (ah rfl rfl (Enc.len _)) ?_ | refine aa rfl (ah rfl rfl rfl) ?_ | refine aa rfl (a7 rfl rfl zG trivial (by first | rfl | assumption)) ?_ | refine aa rfl (az rfl rfl zG trivial (by rfl)) ?_ | refine aa rfl (a8 rfl rfl zG trivial (by simp)) ?_ | refine aa rfl (ai rfl rfl zG trivial (ay (by assumption) rfl)) ?_ | refine aa rfl (ai rfl rfl zG trivial (by assumption)) ?_ | refine aa rfl (a9 rfl rfl zG trivial rfl (by assumption) rfl (by decide)) ?_ | refine aa rfl (ba rfl rfl zG (by rfl)) ?_
   try dsimp only [St.put]
   refine av rfl (di rfl ?_)
   try dsimp only [St.put]
   first | refine av rfl (c8 rfl rfl rfl zG rfl rfl (by rfl) ?_) | refine av rfl (dh rfl rfl rfl zG (by constructor) rfl zO ?_)
   refine am ?_
   dsimp only [St.put]
   refine hK8 _ ?_
   refine ep (i := 7) rfl zG zC ?_
   dsimp only
   refine cn (rdG Tryd.prog 29 60 (bc G nx (.box 0 [.list [] .nil])) (nx + 1) (nx + 1 + 1) c.rs k) (fun j o h => vh hlt0 h) ?_
   dsimp only
   by_cases hin : r.pl ∈ c7 c.rs k
   ·refine aq ?_
    refine ae rfl (ar rfl (by constructor)) ?_
    first | refine ae rfl (bg rfl rfl rfl) ?_ | refine ae rfl (bi rfl rfl) ?_
    try dsimp only [St.put]
    refine aa rfl (c := val r.pl) (io (cs := cells r) rfl rfl (show 3 ≤ 5 by decide)) ?_
    try dsimp only [St.put]
    first | refine aa rfl (aw rfl rfl) ?_ | refine aa rfl (ah rfl rfl (Enc.len _)) ?_ | refine aa rfl (ah rfl rfl rfl) ?_ | refine aa rfl (a7 rfl rfl zG trivial (by first | rfl | assumption)) ?_ | refine aa rfl (az rfl rfl zG trivial (by rfl)) ?_ | refine aa rfl (a8 rfl rfl zG trivial (by simp)) ?_ | refine aa rfl (ai rfl rfl zG trivial (ay (by assumption) rfl)) ?_ | refine aa rfl (ai rfl rfl zG trivial (by assumption)) ?_ | refine aa rfl (a9 rfl rfl zG trivial rfl (by assumption) rfl (by decide)) ?_ | refine aa rfl (ba rfl rfl zG (by rfl)) ?_
    try dsimp only [St.put]
    refine av rfl (dx rfl rfl rfl (by decide) (by decide) zR (by decide) ?_)
    try dsimp only [St.put]
    refine av rfl (ql (α := PlaceD) r.pl rfl rfl (ld hM) rfl (by omega) (yw hin) (yu hin rfl) (fun s => ?_))
    refine ae rfl (da rfl rfl rfl) ?_
    try dsimp only [St.put]
    refine av rfl (gr [r] rfl rfl ((dg (by have := nq (nx + 1 + 1) c.rs k r.pl; omega)).trans (vd hin)) rfl rfl rfl (by have h1 := k9 (c.rs.take k) r.pl; have h2 := List.length_take_le k c.rs; simp only [List.length_cons, List.length_nil]; omega) ?_ (by have h1 := k9 (c.rs.take k) r.pl; have h2 := List.length_take_le k c.rs; simp only [List.length_cons, List.length_nil]; omega))
    refine ae rfl (da rfl rfl rfl) ?_
    try dsimp only [St.put]
    refine av rfl (qm (α := PlaceD) (s := s) r.pl rfl rfl rfl ((dg (by have := nq (nx + 1 + 1) c.rs k r.pl; omega)).trans (f5 _ _ _)) rfl (yq hx hin rfl) ?_)
    refine am ?_
    dsimp only [St.put]
    refine hK7 _ ?_
    refine aq ?_
    first | refine ae rfl (bx rfl rfl rfl (by omega)) ?_ | refine ae rfl (cp rfl rfl rfl) ?_
    refine ae rfl (ar rfl (by constructor)) ?_
    refine am ?_
    dsimp only [St.put]
    first
     | exact ⟨k + 1, by omega, by omega, ⟨⟨rfl, rfl⟩, zF, zB, pp hx hin, fun j o h => pj hM hx hin rfl h⟩⟩
     | exact ⟨k + 1, by omega, by omega, ⟨⟨rfl, rfl⟩, zF, zB, pq hx hin, fun j o h => pk hlt0 hM hx hin rfl h⟩⟩
   ·refine aq ?_
    refine ae rfl (ar rfl (by constructor)) ?_
    first | refine ae rfl (bg rfl rfl rfl) ?_ | refine ae rfl (bi rfl rfl) ?_
    try dsimp only [St.put]
    refine aa rfl (c := val r.pl) (io (cs := cells r) rfl rfl (show 3 ≤ 5 by decide)) ?_
    try dsimp only [St.put]
    first | refine aa rfl (aw rfl rfl) ?_ | refine aa rfl (ah rfl rfl (Enc.len _)) ?_ | refine aa rfl (ah rfl rfl rfl) ?_ | refine aa rfl (a7 rfl rfl zG trivial (by first | rfl | assumption)) ?_ | refine aa rfl (az rfl rfl zG trivial (by rfl)) ?_ | refine aa rfl (a8 rfl rfl zG trivial (by simp)) ?_ | refine aa rfl (ai rfl rfl zG trivial (ay (by assumption) rfl)) ?_ | refine aa rfl (ai rfl rfl zG trivial (by assumption)) ?_ | refine aa rfl (a9 rfl rfl zG trivial rfl (by assumption) rfl (by decide)) ?_ | refine aa rfl (ba rfl rfl zG (by rfl)) ?_
    try dsimp only [St.put]
    refine av rfl (dx rfl rfl rfl (by decide) (by decide) zR (by decide) ?_)
    try dsimp only [St.put]
    refine av rfl (ql (α := PlaceD) r.pl rfl rfl (ld hM) rfl (by omega) (yv hin) rfl (fun s => ?_))
    refine ae rfl (da rfl rfl rfl) ?_
    try dsimp only [St.put]
    refine av rfl (x6 31 60 5 rfl (by decide) (gr (xs := ([] : List bh)) [r] rfl rfl (f5 _ _ _) rfl rfl rfl (by simp) ?_ (by simp)))
    refine ae rfl (da rfl rfl rfl) ?_
    try dsimp only [St.put]
    refine av rfl (qm (α := PlaceD) (s := s) r.pl rfl rfl rfl ((dg (by omega)).trans ((dg (by omega)).trans (f5 _ _ _))) rfl (yr hx hin rfl) ?_)
    refine am ?_
    dsimp only [St.put]
    refine hK7 _ ?_
    refine aq ?_
    first | refine ae rfl (bx rfl rfl rfl (by omega)) ?_ | refine ae rfl (cp rfl rfl rfl) ?_
    refine ae rfl (ar rfl (by constructor)) ?_
    refine am ?_
    dsimp only [St.put]
    first
     | exact ⟨k + 1, by omega, by omega, ⟨⟨rfl, rfl⟩, zF, zB, pp hx hin, fun j o h => pj hM hx hin rfl h⟩⟩
     | exact ⟨k + 1, by omega, by omega, ⟨⟨rfl, rfl⟩, zF, zB, pq hx hin, fun j o h => pk hlt0 hM hx hin rfl h⟩⟩
  ·replace hc := of_decide_eq_false hc
   obtain rfl : k = c.rs.length := by omega
   refine co ?_
   refine hK3 _ ?_
   refine aj fun K9 hK9 => ?_
   refine yn (m' := atF c.rs) (ld hM) (fun x c h => yx x c h) (fun x c h => y0 x c h) ?_
   refine cn (bc (bc G nx (.box 0 [.list [] .nil])) (nx + 1) (ei Tryd.prog 29 (2 * c.rs.length) (atF c.rs))) (fun j o h => vf hlt0 h) ?_
   dsimp only
   obtain ⟨NN, hNN⟩ : ∃ NN, eh (nx + 1 + 1) c.rs c.rs.length = NN := ⟨_, rfl⟩
   have hNN1 : nx + 1 + 1 ≤ NN := by rw [← hNN]; exact km _ _ _
   rw [hNN]
   refine b9 fun hltB => ?_
   dsimp only at hltB
   refine aq ?_
   try dsimp only [St.put]
   refine av rfl (di rfl ?_)
   refine am ?_
   dsimp only [St.put]
   refine hK9 _ ?_
   refine kz (NN) 0 _ _ 55 2 zG rfl (by decide) ?_
   dsimp only [List.set_cons_zero, List.set_cons_succ]
   refine aj fun K10 hK10 => ?_
   refine aj fun K11 hK11 => ?_
   refine aq ?_
   refine ae rfl (ar rfl (by constructor)) ?_
   first | refine ae rfl (m1 rfl rfl) ?_ | refine ae rfl (m0 rfl rfl) ?_ | refine ae rfl (mz rfl rfl) ?_
   first | refine ae rfl (bg rfl rfl rfl) ?_ | refine ae rfl (bi rfl rfl) ?_
   first | refine ae rfl (bg rfl rfl rfl) ?_ | refine ae rfl (bi rfl rfl) ?_
   try dsimp only [St.put]
   first | refine aa rfl (aw rfl rfl) ?_ | refine aa rfl (ah rfl rfl (Enc.len _)) ?_ | refine aa rfl (ah rfl rfl rfl) ?_ | refine aa rfl (a7 rfl rfl zG trivial (by first | rfl | assumption)) ?_ | refine aa rfl (az rfl rfl zG trivial (by rfl)) ?_ | refine aa rfl (a8 rfl rfl zG trivial (by simp)) ?_ | refine aa rfl (ai rfl rfl zG trivial (ay (by assumption) rfl)) ?_ | refine aa rfl (ai rfl rfl zG trivial (by assumption)) ?_ | refine aa rfl (a9 rfl rfl zG trivial rfl (by assumption) rfl (by decide)) ?_ | refine aa rfl (ba rfl rfl zG (by rfl)) ?_
   first | refine ae rfl (bj rfl rfl (List.length_map _)) ?_ | refine ae rfl (bj rfl rfl rfl) ?_ | refine ae rfl (b8 rfl rfl) ?_ | refine ae rfl (cd rfl rfl) ?_ | refine ae rfl (cb rfl rfl) ?_ | refine ae rfl (ca rfl rfl (by omega)) ?_
   refine ae rfl (ar rfl (by constructor)) ?_
   refine am ?_
   dsimp only [St.put]
   refine hK11 _ ?_
   refine bq ?_
   refine cg 45 ?_
   refine zQ ?_
   refine cn ((bc (bc (bc (bc G nx (.box 0 [.list [] .nil])) (nx + 1) (ei Tryd.prog 29 (2 * c.rs.length) (atF c.rs))) NN (.box (0) [.list ((([] : List (List C)))) (.tip (NN + 1))])) (NN + 1) (.tip ((([] : List (List C)))).length 55 2))) zX ?_
   dsimp only
   refine qw (X := List (List Ent) × Nat) (fun y => (y.1.length ≤ t.length ∧ NN + 1 + 1 ≤ y.2) ∧ RiseE y.1.flatten ∧ (∀ e ∈ y.1.flatten, NN + 1 + 1 ≤ e.1 ∧ e.1 < y.2) ∧ y.1.map (fun Q => Q.map (·.2.2.2)) = ((c9 t c.rs).take y.1.length).map (·.lines)) (fun y => t.length - y.1.length) (fun y => [(9, .any), (10, .any), (11, .any), (12, .any), (13, .any), (14, .any), (15, .any), (16, .any), (18, .any), (19, .any), (44, .v (.int .i64 (y.1.length : Int)))]) (fun y G' => d9 9 (bc (bc (bc (bc G nx (.box 0 [.list [] .nil])) (nx + 1) (ei Tryd.prog 29 (2 * c.rs.length) (atF c.rs))) NN (.box (y.1.length) [.list ((dp (t.map (·.id)) y.1)) (.tip (NN + 1))])) (NN + 1) (.tip ((dp (t.map (·.id)) y.1)).length 55 2)) y.1.flatten) (fun y => y.2) ([], NN + 1 + 1) rfl ?_ ?_ (rfl) ?_ ?_ ?_ ?_ ?_
   ·exact ⟨⟨Nat.zero_le _, Nat.le_refl _⟩, List.Pairwise.nil, (fun e he => by cases he), rfl⟩
   ·exact zF
   ·dsimp only
    rw [ueu]
    exact zX
   ·rintro ⟨QQ, M⟩ hI
    exact hI.1.2
   ·rintro ⟨QQ, M⟩ hI
    exact (by (try dsimp only); repeat' (first | exact trivial | refine ⟨?_, ?_⟩ | exact .v | exact .any | refine .elem ?_ | exact ce _ _ | exact fh _ _ | exact e9 _ _ | exact fg _ (by (try dsimp only); omega) | exact .box (by (try dsimp only); omega) | exact fe | exact de | exact k8 (ku fun e he => (hI.2.2.1 e he).2) (by omega) | refine fb ?_ ?_ | exact .arr (by (try dsimp only); omega) | exact .own (by (try dsimp only); omega) | exact .map (by (try dsimp only); omega) | exact ey _ | refine cv ?_ ?_ | exact ce _ _))
   ·rintro ⟨QQ, M⟩ hI
    dsimp only at hI ⊢
    refine l3 (fun e he => (hI.2.2.1 e he).2) ?_
    exact (by (repeat' (refine ji ?_ (by (try dsimp only); omega) ?_)); all_goals (first | exact jp zS | (repeat' (first | exact trivial | refine ⟨?_, ?_⟩ | exact .v | exact .any | refine .elem ?_ | exact ce _ _ | exact fh _ _ | exact e9 _ _ | exact fg _ (by (try dsimp only); omega) | exact .box (by (try dsimp only); omega) | exact fe | exact de | exact k6 | exact k8 (ku fun e he => (hI.2.2.1 e he).2) (by omega) | refine fb ?_ ?_ | exact .arr (by (try dsimp only); omega) | exact .own (by (try dsimp only); omega) | exact .map (by (try dsimp only); omega) | exact ey _ | refine cv ?_ ?_ | exact ce _ _))))
   ·rintro ⟨QQ, M⟩ hI2
    dsimp only at hI2 ⊢
    obtain ⟨⟨u1, u2⟩, u3, u4, u5⟩ := hI2
    obtain ⟨k, hk⟩ : ∃ k, QQ.length = k := ⟨_, rfl⟩
    rw [hk] at u1 u5
    have f0 : d9 9 (bc (bc (bc (bc G nx (.box 0 [.list [] .nil])) (nx + 1) (ei Tryd.prog 29 (2 * c.rs.length) (atF c.rs))) NN (.box (k) [.list ((dp (t.map (·.id)) QQ)) (.tip (NN + 1))])) (NN + 1) (.tip ((dp (t.map (·.id)) QQ)).length 55 2)) QQ.flatten NN = some (.box k [.list (dp (t.map (·.id)) QQ) (.tip (NN + 1))]) := by rw [ia fun e he => by have := u4 e he; omega]; exact zG
    have f1 : d9 9 (bc (bc (bc (bc G nx (.box 0 [.list [] .nil])) (nx + 1) (ei Tryd.prog 29 (2 * c.rs.length) (atF c.rs))) NN (.box (k) [.list ((dp (t.map (·.id)) QQ)) (.tip (NN + 1))])) (NN + 1) (.tip ((dp (t.map (·.id)) QQ)).length 55 2)) QQ.flatten (NN + 1) = some (.tip (dp (t.map (·.id)) QQ).length 55 2) := by rw [ia fun e he => by have := u4 e he; omega]; exact zG
    have fB : ∀ j, j < NN → d9 9 (bc (bc (bc (bc G nx (.box 0 [.list [] .nil])) (nx + 1) (ei Tryd.prog 29 (2 * c.rs.length) (atF c.rs))) NN (.box (k) [.list ((dp (t.map (·.id)) QQ)) (.tip (NN + 1))])) (NN + 1) (.tip ((dp (t.map (·.id)) QQ)).length 55 2)) QQ.flatten j = (bc (bc G nx (.box 0 [.list [] .nil])) (nx + 1) (ei Tryd.prog 29 (2 * c.rs.length) (atF c.rs))) j := fun j hj => by rw [ia fun e he => by have := u4 e he; omega, dg (by omega), dg (by omega)]
    have fE : ∀ e ∈ QQ.flatten, d9 9 (bc (bc (bc (bc G nx (.box 0 [.list [] .nil])) (nx + 1) (ei Tryd.prog 29 (2 * c.rs.length) (atF c.rs))) NN (.box (k) [.list ((dp (t.map (·.id)) QQ)) (.tip (NN + 1))])) (NN + 1) (.tip ((dp (t.map (·.id)) QQ)).length 55 2)) QQ.flatten e.1 = some (i9 9 e) := fun e he => mr u3 he
    rw [hk]
    obtain ⟨Gk, hGk⟩ : ∃ Gk, d9 9 (bc (bc (bc (bc G nx (.box 0 [.list [] .nil])) (nx + 1) (ei Tryd.prog 29 (2 * c.rs.length) (atF c.rs))) NN (.box (k) [.list ((dp (t.map (·.id)) QQ)) (.tip (NN + 1))])) (NN + 1) (.tip ((dp (t.map (·.id)) QQ)).length 55 2)) QQ.flatten = Gk := ⟨_, rfl⟩
    rw [hGk] at f0 f1 fB fE ⊢
    have fM : Gk (nx + 1) = some (ei Tryd.prog 29 (2 * c.rs.length) (atF c.rs)) := (fB _ (by omega)).trans zG
    have fR : Gk nx = some (.box 0 [.list [] .nil]) := (fB _ (by omega)).trans zG
    have fF : Gk n = some gi := (fB _ (by omega)).trans (by rw [dg (by omega), dg (by omega)]; exact hF)
    refine b9 fun hlt => ?_
    dsimp only at hlt
    have hltk := hlt
    refine aj fun K12 hK12 => ?_
    refine aq ?_
    refine ae rfl (cj rfl rfl rfl) ?_
    refine am ?_
    dsimp only [St.put]
    refine hK12 _ ?_
    refine aj fun K13 hK13 => ?_
    refine bl rfl (fun hc => ?_) (fun hc => ?_)
    ·replace hc := of_decide_eq_true hc
     obtain ⟨ch, hch⟩ : ∃ x, t[k]? = some x := cm (by omega)
     have hcl := htx3 ch (dv hch)
     have hrl := pi c.rs k ch
     refine bn ?_
     refine hK13 _ ?_
     refine aj fun K14 hK14 => ?_
     refine bq ?_
     refine aj fun K15 hK15 => ?_
     refine aq ?_
     refine ae rfl (ar rfl (by constructor)) ?_
     try dsimp only [St.put]
     first | refine ae rfl (bf rfl rfl rfl rfl (bm (by assumption)) (Enc.len _)) ?_ | refine ae rfl (bf rfl rfl rfl rfl (by assumption) rfl) ?_ | refine ae rfl (cr rfl rfl rfl (by first | exact ct _ | exact rfl) (by omega)) ?_ | refine ae rfl (bf rfl rfl rfl (by omega) (bm (by assumption)) (Enc.len _)) ?_
     try dsimp only [St.put]
     first | refine aa rfl (aw rfl rfl) ?_ | refine aa rfl (ah rfl rfl (Enc.len _)) ?_ | refine aa rfl (ah rfl rfl rfl) ?_ | refine aa rfl (a7 rfl rfl zG trivial (by first | rfl | assumption)) ?_ | refine aa rfl (az rfl rfl zG trivial (by rfl)) ?_ | refine aa rfl (a8 rfl rfl zG trivial (by simp)) ?_ | refine aa rfl (ai rfl rfl zG trivial (ay (by assumption) rfl)) ?_ | refine aa rfl (ai rfl rfl zG trivial (by assumption)) ?_ | refine aa rfl (a9 rfl rfl zG trivial rfl (by assumption) rfl (by decide)) ?_ | refine aa rfl (ba rfl rfl zG (by rfl)) ?_
     try dsimp only [St.put]
     refine av rfl (di rfl ?_)
     refine ae rfl (ax rfl (by constructor)) ?_
     try dsimp only [St.put]
     first | refine av rfl (c8 rfl rfl rfl zG rfl rfl (by rfl) ?_) | refine av rfl (dh rfl rfl rfl zG (by constructor) rfl zO ?_)
     refine am ?_
     dsimp only [St.put]
     refine hK15 _ ?_
     refine ep (i := 10) rfl zG zC ?_
     dsimp only
     refine aj fun K16 hK16 => ?_
     refine aq ?_
     first | refine ae rfl (bg rfl rfl rfl) ?_ | refine ae rfl (bi rfl rfl) ?_
     try dsimp only [St.put]
     first | refine aa rfl (aw rfl rfl) ?_ | refine aa rfl (ah rfl rfl (Enc.len _)) ?_ | refine aa rfl (ah rfl rfl rfl) ?_ | refine aa rfl (a7 rfl rfl zG trivial (by first | rfl | assumption)) ?_ | refine aa rfl (az rfl rfl zG trivial (by rfl)) ?_ | refine aa rfl (a8 rfl rfl zG trivial (by simp)) ?_ | refine aa rfl (ai rfl rfl zG trivial (ay (by assumption) rfl)) ?_ | refine aa rfl (ai rfl rfl zG trivial (by assumption)) ?_ | refine aa rfl (a9 rfl rfl zG trivial rfl (by assumption) rfl (by decide)) ?_ | refine aa rfl (ba rfl rfl zG (by rfl)) ?_
     refine ae rfl (jo rfl rfl) ?_
     try dsimp only [St.put]
     refine av rfl (di rfl ?_)
     try dsimp only [St.put]
     first | refine av rfl (c8 rfl rfl rfl zG rfl rfl (by rfl) ?_) | refine av rfl (dh rfl rfl rfl zG (by constructor) rfl zO ?_)
     refine am ?_
     dsimp only [St.put]
     refine hK16 _ ?_
     refine kz (M + 1) 1 _ _ 56 1 zG rfl (by decide) ?_
     dsimp only [List.set_cons_zero, List.set_cons_succ]
     refine aj fun K17 hK17 => ?_
     refine aj fun K18 hK18 => ?_
     refine aq ?_
     first | refine ae rfl (bg rfl rfl rfl) ?_ | refine ae rfl (bi rfl rfl) ?_
     try dsimp only [St.put]
     first | refine aa rfl (aw rfl rfl) ?_ | refine aa rfl (ah rfl rfl (Enc.len _)) ?_ | refine aa rfl (ah rfl rfl rfl) ?_ | refine aa rfl (a7 rfl rfl zG trivial (by first | rfl | assumption)) ?_ | refine aa rfl (az rfl rfl zG trivial (by rfl)) ?_ | refine aa rfl (a8 rfl rfl zG trivial (by simp)) ?_ | refine aa rfl (ai rfl rfl zG trivial (ay (by assumption) rfl)) ?_ | refine aa rfl (ai rfl rfl zG trivial (by assumption)) ?_ | refine aa rfl (a9 rfl rfl zG trivial rfl (by assumption) rfl (by decide)) ?_ | refine aa rfl (ba rfl rfl zG (by rfl)) ?_
     first | refine ae rfl (bj rfl rfl (List.length_map _)) ?_ | refine ae rfl (bj rfl rfl rfl) ?_ | refine ae rfl (b8 rfl rfl) ?_ | refine ae rfl (cd rfl rfl) ?_ | refine ae rfl (cb rfl rfl) ?_ | refine ae rfl (ca rfl rfl (by omega)) ?_
     refine ae rfl (ar rfl (by constructor)) ?_
     refine am ?_
     dsimp only [St.put]
     refine hK18 _ ?_
     refine bq ?_
     refine cg 56 ?_
     refine zQ ?_
     refine cn ((bc (bc Gk (M + 1) (.box (((([] : List Ent))).length + 1) [.v (.int .i64 ch.id), .list (d7 ((([] : List Ent)))) (.tip (M + 1 + 1))])) (M + 1 + 1) (.tip (d7 ((([] : List Ent)))).length 56 1))) zX ?_
     dsimp only
     refine qw (X := List Ent × Nat) (fun z => (z.1.length ≤ ch.lines.length ∧ M + 1 + 1 + 1 ≤ z.2) ∧ RiseE z.1 ∧ (∀ e ∈ z.1, M + 1 + 1 + 1 ≤ e.1 ∧ e.1 < z.2) ∧ z.1.map (·.2.2.2) = (ef c.rs k ch).lines.take z.1.length) (fun z => ch.lines.length - z.1.length) (fun z => [(12, .any), (13, .any), (14, .any), (15, .any), (16, .any), (18, .any), (19, .any), (55, .v (.int .i64 (z.1.length : Int)))]) (fun z G' => d9 9 (bc (bc Gk (M + 1) (.box ((z.1).length + 1) [.v (.int .i64 ch.id), .list (d7 (z.1)) (.tip (M + 1 + 1))])) (M + 1 + 1) (.tip (d7 (z.1)).length 56 1)) z.1) (fun z => z.2) ([], M + 1 + 1 + 1) rfl ?_ ?_ (rfl) ?_ ?_ ?_ ?_ ?_
     ·exact ⟨⟨Nat.zero_le _, Nat.le_refl _⟩, List.Pairwise.nil, (fun e he => by cases he), rfl⟩
     ·exact zF
     ·exact zX
     ·rintro ⟨Q, P⟩ hI
      exact hI.1.2
     ·rintro ⟨Q, P⟩ hI
      exact (by (try dsimp only); repeat' (first | exact trivial | refine ⟨?_, ?_⟩ | exact .v | exact .any | refine .elem ?_ | exact ce _ _ | exact fh _ _ | exact e9 _ _ | exact fg _ (by (try dsimp only); omega) | exact .box (by (try dsimp only); omega) | exact fe | exact de | exact k8 (ku fun e he => (hI.2.2.1 e he).2) (by omega) | refine fb ?_ ?_ | exact .arr (by (try dsimp only); omega) | exact .own (by (try dsimp only); omega) | exact .map (by (try dsimp only); omega) | exact ey _ | refine cv ?_ ?_ | exact ce _ _))
     ·rintro ⟨Q, P⟩ hI
      dsimp only at hI ⊢
      refine l3 (fun e he => (hI.2.2.1 e he).2) ?_
      exact (by (repeat' (refine ji ?_ (by (try dsimp only); omega) ?_)); all_goals (first | exact jp zS | (repeat' (first | exact trivial | refine ⟨?_, ?_⟩ | exact .v | exact .any | refine .elem ?_ | exact ce _ _ | exact fh _ _ | exact e9 _ _ | exact fg _ (by (try dsimp only); omega) | exact .box (by (try dsimp only); omega) | exact fe | exact de | exact k8 (xq fun e he => (hI.2.2.1 e he).2) (by omega) | refine fb ?_ ?_ | exact .arr (by (try dsimp only); omega) | exact .own (by (try dsimp only); omega) | exact .map (by (try dsimp only); omega) | exact ey _ | refine cv ?_ ?_ | exact ce _ _))))
     ·rintro ⟨Q, P⟩ hI3
      dsimp only at hI3 ⊢
      obtain ⟨⟨q1, q2⟩, q3, q4, q5⟩ := hI3
      obtain ⟨m, hm⟩ : ∃ m, Q.length = m := ⟨_, rfl⟩
      have g0 : d9 9 (bc (bc Gk (M + 1) (.box ((Q).length + 1) [.v (.int .i64 ch.id), .list (d7 (Q)) (.tip (M + 1 + 1))])) (M + 1 + 1) (.tip (d7 (Q)).length 56 1)) Q (M + 1) = some (.box (Q.length + 1) [.v (.int .i64 ch.id), .list (d7 Q) (.tip (M + 1 + 1))]) := by rw [ia fun e he => by have := q4 e he; omega]; exact zG
      have g1 : d9 9 (bc (bc Gk (M + 1) (.box ((Q).length + 1) [.v (.int .i64 ch.id), .list (d7 (Q)) (.tip (M + 1 + 1))])) (M + 1 + 1) (.tip (d7 (Q)).length 56 1)) Q (M + 1 + 1) = some (.tip (d7 Q).length 56 1) := by rw [ia fun e he => by have := q4 e he; omega]; exact zG
      have gK : ∀ j, j < M + 1 → d9 9 (bc (bc Gk (M + 1) (.box ((Q).length + 1) [.v (.int .i64 ch.id), .list (d7 (Q)) (.tip (M + 1 + 1))])) (M + 1 + 1) (.tip (d7 (Q)).length 56 1)) Q j = Gk j := fun j hj => by rw [ia fun e he => by have := q4 e he; omega, dg (by omega), dg (by omega)]
      have gE : ∀ e ∈ Q, d9 9 (bc (bc Gk (M + 1) (.box ((Q).length + 1) [.v (.int .i64 ch.id), .list (d7 (Q)) (.tip (M + 1 + 1))])) (M + 1 + 1) (.tip (d7 (Q)).length 56 1)) Q e.1 = some (i9 9 e) := fun e he => mr q3 he
      obtain ⟨Gm, hGm⟩ : ∃ Gm, d9 9 (bc (bc Gk (M + 1) (.box ((Q).length + 1) [.v (.int .i64 ch.id), .list (d7 (Q)) (.tip (M + 1 + 1))])) (M + 1 + 1) (.tip (d7 (Q)).length 56 1)) Q = Gm := ⟨_, rfl⟩
      rw [hGm] at g0 g1 gK gE ⊢
      rw [hm] at q1 q5 g0 ⊢
      have gN0 := (gK NN (by omega)).trans f0
      have gN1 := (gK (NN + 1) (by omega)).trans f1
      have gM := (gK (nx + 1) (by omega)).trans fM
      have gF := (gK n (by omega)).trans fF
      refine b9 fun hlt => ?_
      dsimp only at hlt
      refine aj fun K19 hK19 => ?_
      refine aq ?_
      refine ae rfl (cj rfl rfl rfl) ?_
      refine am ?_
      dsimp only [St.put]
      refine hK19 _ ?_
      refine aj fun K20 hK20 => ?_
      refine bl rfl (fun hc => ?_) (fun hc => ?_)
      ·replace hc := of_decide_eq_true hc
       obtain ⟨l, hl⟩ : ∃ x, ch.lines[m]? = some x := cm (by omega)
       have hll := hcl.2.2 l (dv hl)
       refine bn ?_
       refine hK20 _ ?_
       refine aj fun K21 hK21 => ?_
       refine bq ?_
       refine aj fun K22 hK22 => ?_
       refine aq ?_
       refine ae rfl (ar rfl (by constructor)) ?_
       try dsimp only [St.put]
       first | refine ae rfl (bf rfl rfl rfl rfl (bm (by assumption)) (Enc.len _)) ?_ | refine ae rfl (bf rfl rfl rfl rfl (by assumption) rfl) ?_ | refine ae rfl (cr rfl rfl rfl (by first | exact ct _ | exact rfl) (by omega)) ?_ | refine ae rfl (bf rfl rfl rfl (by omega) (bm (by assumption)) (Enc.len _)) ?_
       try dsimp only [St.put]
       first | refine aa rfl (aw rfl rfl) ?_ | refine aa rfl (ah rfl rfl (Enc.len _)) ?_ | refine aa rfl (ah rfl rfl rfl) ?_ | refine aa rfl (a7 rfl rfl zG trivial (by first | rfl | assumption)) ?_ | refine aa rfl (az rfl rfl zG trivial (by rfl)) ?_ | refine aa rfl (a8 rfl rfl zG trivial (by simp)) ?_ | refine aa rfl (ai rfl rfl zG trivial (ay (by assumption) rfl)) ?_ | refine aa rfl (ai rfl rfl zG trivial (by assumption)) ?_ | refine aa rfl (a9 rfl rfl zG trivial rfl (by assumption) rfl (by decide)) ?_ | refine aa rfl (ba rfl rfl zG (by rfl)) ?_
       refine ae rfl (ax rfl (by constructor)) ?_
       refine ae rfl (ax rfl (by constructor)) ?_
       refine am ?_
       dsimp only [St.put]
       refine hK22 _ ?_
       refine aj fun K23 hK23 => ?_
       refine aq ?_
       refine ae rfl (ax rfl (by constructor)) ?_
       refine am ?_
       dsimp only [St.put]
       refine hK23 _ ?_
       refine yp 14 9 1 rfl (by decide) ?_
       refine aj fun K24 hK24 => ?_
       refine aj fun K25 hK25 => ?_
       refine aq ?_
       refine ae rfl (ar rfl (by constructor)) ?_
       first | refine ae rfl (bj rfl rfl (List.length_map _)) ?_ | refine ae rfl (bj rfl rfl rfl) ?_ | refine ae rfl (b8 rfl rfl) ?_ | refine ae rfl (cd rfl rfl) ?_ | refine ae rfl (cb rfl rfl) ?_ | refine ae rfl (ca rfl rfl (by omega)) ?_
       first | refine ae rfl (bx rfl rfl rfl (by omega)) ?_ | refine ae rfl (cp rfl rfl rfl) ?_
       refine ae rfl (ar rfl (by constructor)) ?_
       refine am ?_
       dsimp only [St.put]
       refine hK25 _ ?_
       refine bq ?_
       refine cg 64 ?_
       refine zQ ?_
       refine cn ((bc Gm P (.arr 0 0 9 1 ((eb c.rs (k : Int) (m : Int) l 0)).length (cy ((eb c.rs (k : Int) (m : Int) l 0)))))) zX ?_
       dsimp only
       refine cz (X := Nat × Nat) (fun x => x.1 ≤ l.length + 1) (fun x => l.length + 1 - x.1) (fun x => [(14, .own (P) x.2 (eb c.rs (k : Int) (m : Int) l x.1).length), (15, .any), (16, .any), (18, .any), (19, .any), (63, .v (.int .i64 (x.1 : Int)))]) (fun x G' => (bc Gm P (.arr x.2 0 9 1 ((eb c.rs (k : Int) (m : Int) l x.1)).length (cy ((eb c.rs (k : Int) (m : Int) l x.1)))))) (0, 0) rfl ?_ ?_ ?_ ?_ ?_ ?_
       ·exact Nat.zero_le _
       ·exact zF
       ·exact zX
       ·rintro ⟨w, v⟩ hI
        exact (by (try dsimp only); repeat' (first | exact trivial | refine ⟨?_, ?_⟩ | exact .v | exact .any | refine .elem ?_ | exact ce _ _ | exact fh _ _ | exact e9 _ _ | exact fg _ (by (try dsimp only); omega) | exact .box (by (try dsimp only); omega) | exact fe | exact de | exact k8 (ku fun e he => (hI.2.2.1 e he).2) (by omega) | refine fb ?_ ?_ | exact .arr (by (try dsimp only); omega) | exact .own (by (try dsimp only); omega) | exact .map (by (try dsimp only); omega) | exact ey _ | refine cv ?_ ?_ | exact ce _ _))
       ·rintro ⟨w, v⟩ hI
        exact (by (repeat' (refine ji ?_ (by (try dsimp only); omega) ?_)); all_goals (first | exact jp zS | (repeat' (first | exact trivial | refine ⟨?_, ?_⟩ | exact .v | exact .any | refine .elem ?_ | exact ce _ _ | exact fh _ _ | exact e9 _ _ | exact fg _ (by (try dsimp only); omega) | exact .box (by (try dsimp only); omega) | exact fe | exact de | exact k8 (ku fun e he => (hI.2.2.1 e he).2) (by omega) | refine fb ?_ ?_ | exact .arr (by (try dsimp only); omega) | exact .own (by (try dsimp only); omega) | exact .map (by (try dsimp only); omega) | exact ey _ | refine cv ?_ ?_ | exact ce _ _))))
       ·rintro ⟨w, v⟩ hI4
        dsimp only at hI4 ⊢
        refine aj fun K26 hK26 => ?_
        refine aq ?_
        refine ae rfl (cj rfl rfl rfl) ?_
        refine am ?_
        dsimp only [St.put]
        refine hK26 _ ?_
        refine aj fun K27 hK27 => ?_
        refine bl rfl (fun hc => ?_) (fun hc => ?_)
        ·replace hc := of_decide_eq_true hc
         obtain ⟨tok, hat⟩ := yz c.rs ⟨(k : Int), (m : Int), (w : Int)⟩
         obtain ⟨RA, hRA⟩ : ∃ RA, dl c.rs ⟨(k : Int), (m : Int), (w : Int)⟩ = RA := ⟨_, rfl⟩
         rw [hRA] at hat
         have hRAl : RA.length ≤ 20 := by rw [← hRA]; exact Nat.le_trans (k9 _ _) hl20
         have hrawl : (eb c.rs (k : Int) (m : Int) l w).length ≤ 11 * 21 := Nat.le_trans (my _ _ _ _ _) (Nat.mul_le_mul (by omega) (by omega))
         refine bn ?_
         refine hK27 _ ?_
         refine aj fun K28 hK28 => ?_
         refine bq ?_
         refine aj fun K29 hK29 => ?_
         refine aq ?_
         refine ae rfl (ar rfl (by constructor)) ?_
         refine ae rfl (ax rfl (by constructor)) ?_
         refine am ?_
         dsimp only [St.put]
         refine hK29 _ ?_
         refine aj fun K30 hK30 => ?_
         refine aq ?_
         refine ae rfl (ar rfl (by constructor)) ?_
         refine ae rfl (ar rfl (by constructor)) ?_
         try dsimp only [St.put]
         refine av rfl (br rfl rfl rfl (si l w (by omega)) ?_)
         try dsimp only [St.put]
         refine av rfl (xz [ci l w] rfl rfl rfl rfl (by decide) (by decide) (by decide) ?_)
         refine ae rfl (ax rfl (by constructor)) ?_
         refine am ?_
         dsimp only [St.put]
         refine hK30 _ ?_
         refine aj fun K31 hK31 => ?_
         refine aj fun K32 hK32 => ?_
         refine aq ?_
         refine ae rfl (ar rfl (by constructor)) ?_
         refine ae rfl (ar rfl (by constructor)) ?_
         refine ae rfl (ar rfl (by constructor)) ?_
         refine ae rfl (ar rfl (by constructor)) ?_
         refine ae rfl (jo rfl rfl) ?_
         try dsimp only [St.put]
         refine aa rfl (ue (α := PlaceD) ⟨(k : Int), (m : Int), (w : Int)⟩ rfl rfl zG trivial rfl hat) ?_
         first | refine ae rfl (bj rfl rfl (List.length_map _)) ?_ | refine ae rfl (bj rfl rfl rfl) ?_ | refine ae rfl (b8 rfl rfl) ?_ | refine ae rfl (cd rfl rfl) ?_ | refine ae rfl (cb rfl rfl) ?_ | refine ae rfl (ca rfl rfl (by omega)) ?_
         refine ae rfl (ar rfl (by constructor)) ?_
         refine am ?_
         dsimp only [St.put]
         refine hK32 _ ?_
         refine bq ?_
         refine cg 78 ?_
         refine zQ ?_
         refine cn (bc (bc Gm P (.arr v 0 9 1 ((eb c.rs (k : Int) (m : Int) l w)).length (cy ((eb c.rs (k : Int) (m : Int) l w))))) (P + 1) (.arr 0 0 9 1 (dw (ci l w) (RA.take 0)).length (cy (dw (ci l w) (RA.take 0))))) zX ?_
         dsimp only
         refine cz (X := Nat × Nat) (fun y => y.1 ≤ RA.length) (fun y => RA.length - y.1) (fun y => [(16, .own (P + 1) y.2 (dw (ci l w) (RA.take y.1)).length), (18, .any), (19, .any), (77, .v (.int .i64 (y.1 : Int)))]) (fun y G' => bc (bc Gm P (.arr v 0 9 1 ((eb c.rs (k : Int) (m : Int) l w)).length (cy ((eb c.rs (k : Int) (m : Int) l w))))) (P + 1) (.arr y.2 0 9 1 (dw (ci l w) (RA.take y.1)).length (cy (dw (ci l w) (RA.take y.1))))) (0, 0) rfl ?_ ?_ ?_ ?_ ?_ ?_
         ·exact Nat.zero_le _
         ·exact zF
         ·exact zX
         ·rintro ⟨j, v2⟩ hI
          exact (by (try dsimp only); repeat' (first | exact trivial | refine ⟨?_, ?_⟩ | exact .v | exact .any | refine .elem ?_ | exact ce _ _ | exact fh _ _ | exact e9 _ _ | exact fg _ (by (try dsimp only); omega) | exact .box (by (try dsimp only); omega) | exact fe | exact de | exact k8 (ku fun e he => (hI.2.2.1 e he).2) (by omega) | refine fb ?_ ?_ | exact .arr (by (try dsimp only); omega) | exact .own (by (try dsimp only); omega) | exact .map (by (try dsimp only); omega) | exact ey _ | refine cv ?_ ?_ | exact ce _ _))
         ·rintro ⟨j, v2⟩ hI
          exact (by (repeat' (refine ji ?_ (by (try dsimp only); omega) ?_)); all_goals (first | exact jp zS | (repeat' (first | exact trivial | refine ⟨?_, ?_⟩ | exact .v | exact .any | refine .elem ?_ | exact ce _ _ | exact fh _ _ | exact e9 _ _ | exact fg _ (by (try dsimp only); omega) | exact .box (by (try dsimp only); omega) | exact fe | exact de | exact k8 (ku fun e he => (hI.2.2.1 e he).2) (by omega) | refine fb ?_ ?_ | exact .arr (by (try dsimp only); omega) | exact .own (by (try dsimp only); omega) | exact .map (by (try dsimp only); omega) | exact ey _ | refine cv ?_ ?_ | exact ce _ _))))
         ·rintro ⟨j, v2⟩ hI5
          dsimp only at hI5 ⊢
          refine aj fun K33 hK33 => ?_
          refine aq ?_
          refine ae rfl (cj rfl rfl rfl) ?_
          refine am ?_
          dsimp only [St.put]
          refine hK33 _ ?_
          refine aj fun K34 hK34 => ?_
          refine bl rfl (fun hc => ?_) (fun hc => ?_)
          ·replace hc := of_decide_eq_true hc
           obtain ⟨r, hr⟩ : ∃ x, RA[j]? = some x := cm (by omega)
           have hputs : ∀ x ∈ RA.take j, x.kind = 2 := by rw [← hRA]; exact ru hv2 _ (by rw [hRA]; exact hr)
           have hrc : r ∈ c.rs := by have := dv hr; rw [← hRA] at this; exact (List.mem_filter.1 this).1
           obtain ⟨kk, hkk, hkk1, hkk3⟩ : ∃ kk : Nat, r.kind = (kk : Int) ∧ 1 ≤ kk ∧ kk ≤ 3 := by
            obtain ⟨_, _, hk⟩ := pg (hv1 r hrc)
            rcases hk with h | h | h
            ·exact ⟨1, h.1, by decide, by decide⟩
            ·exact ⟨2, h.1, by decide, by decide⟩
            ·exact ⟨3, h.1, by decide, by decide⟩
           obtain ⟨_, gm, rest, hknd, _, hFun, _, hpm⟩ := sk hkk1 hkk3
           have hstep : (RA.take j).map (·.word) ++ g8 kk (ci l w) r.word = dw (ci l w) (RA.take (j + 1)) := by rw [← jn hr, vm hputs, wi hkk]
           rw [pn hputs]
           obtain ⟨PW, hPW⟩ : ∃ PW, (RA.take j).map (·.word) = PW := ⟨_, rfl⟩
           rw [hPW] at hstep ⊢
           have hPl : PW.length ≤ 20 := by rw [← hPW, List.length_map]; have := List.length_take_le j RA; omega
           have hPl2 : (PW ++ [ci l w]).length = PW.length + 1 := by simp
           have hlast : (PW ++ [ci l w])[PW.length]? = some (ci l w) := by simp
           have hfl : (cy (PW ++ [ci l w]))[PW.length * 1]? = some (.v (.string (ci l w))) := ay (j := 0) hlast rfl
           have hml : (g8 kk (ci l w) r.word).length ≤ 2 := by
            unfold g8
            repeat' (first | (rw [Bool.cond_decide]; split))
            all_goals simp
           have hsub : (((PW ++ [ci l w]).length : Nat) : Int) - 1 = (PW.length : Int) := by rw [hPl2]; omega
           refine bn ?_
           refine hK34 _ ?_
           refine aj fun K35 hK35 => ?_
           refine bq ?_
           refine aj fun K36 hK36 => ?_
           refine aq ?_
           try dsimp only [St.put]
           first | refine ae rfl (bf rfl rfl rfl rfl (bm (by assumption)) (Enc.len _)) ?_ | refine ae rfl (bf rfl rfl rfl rfl (by assumption) rfl) ?_ | refine ae rfl (cr rfl rfl rfl (by first | exact ct _ | exact rfl) (by omega)) ?_ | refine ae rfl (bf rfl rfl rfl (by omega) (bm (by assumption)) (Enc.len _)) ?_
           try dsimp only [St.put]
           first | refine aa rfl (aw rfl rfl) ?_ | refine aa rfl (ah rfl rfl (Enc.len _)) ?_ | refine aa rfl (ah rfl rfl rfl) ?_ | refine aa rfl (a7 rfl rfl zG trivial (by first | rfl | assumption)) ?_ | refine aa rfl (az rfl rfl zG trivial (by rfl)) ?_ | refine aa rfl (a8 rfl rfl zG trivial (by simp)) ?_ | refine aa rfl (ai rfl rfl zG trivial (ay (by assumption) rfl)) ?_ | refine aa rfl (ai rfl rfl zG trivial (by assumption)) ?_ | refine aa rfl (a9 rfl rfl zG trivial rfl (by assumption) rfl (by decide)) ?_ | refine aa rfl (ba rfl rfl zG (by rfl)) ?_
           try dsimp only [St.put]
           refine av rfl (di rfl ?_)
           try dsimp only [St.put]
           first | refine av rfl (c8 rfl rfl rfl zG rfl rfl (by rfl) ?_) | refine av rfl (dh rfl rfl rfl zG (by constructor) rfl zO ?_)
           refine am ?_
           dsimp only [St.put]
           refine hK36 _ ?_
           refine ep (i := 18) rfl zG zC ?_
           dsimp only
           refine aj fun K37 hK37 => ?_
           refine aq ?_
           refine ae rfl (ar rfl (by constructor)) ?_
           first | refine ae rfl (bj rfl rfl (List.length_map _)) ?_ | refine ae rfl (bj rfl rfl rfl) ?_ | refine ae rfl (b8 rfl rfl) ?_ | refine ae rfl (cd rfl rfl) ?_ | refine ae rfl (cb rfl rfl) ?_ | refine ae rfl (ca rfl rfl (by omega)) ?_
           first | refine ae rfl (ip rfl rfl rfl (by omega)) ?_ | refine ae rfl (jh rfl rfl rfl) ?_
           refine ae rfl (ax rfl (by constructor)) ?_
           refine am ?_
           dsimp only [St.put]
           refine hK37 _ ?_
           refine fw [(0, none), (1, none), (2, none), (3, none), (4, none), (5, none), (6, none), (7, none), (8, none), (9, none), (10, none), (11, none), (12, none), (13, none), (14, none), (15, none), (16, none)] (fun i => [14, 15].contains i) (fun i => [14, 15].contains i) (fun i => [0, 1, 2, 3, 5, 6, 8, 9, 10, 12, 16].contains i) [P + 1] (by kernel_rfl) (by kernel_rfl) ?_
           refine ak rfl rfl rfl rfl (ar rfl (by constructor)) ?_
           refine ak rfl rfl rfl rfl (ar rfl (by constructor)) ?_
           (first | refine ae rfl ((lh (k := PW.length) rfl rfl rfl hsub (by omega))) ?_ | refine ak rfl rfl rfl rfl ((lh (k := PW.length) rfl rfl rfl hsub (by omega))) ?_ | refine c0 rfl rfl rfl rfl ((lh (k := PW.length) rfl rfl rfl hsub (by omega))) ?_ | refine nf rfl rfl rfl ((lh (k := PW.length) rfl rfl rfl hsub (by omega))) ?_)
           first | refine ak rfl rfl rfl rfl (bg rfl rfl rfl) ?_ | refine ak rfl rfl rfl rfl (bi rfl rfl) ?_
           try dsimp only [St.put]
           first | refine af rfl rfl rfl rfl (aw rfl rfl) ?_ | refine af rfl rfl rfl rfl (ah rfl rfl (Enc.len _)) ?_ | refine af rfl rfl rfl rfl (ah rfl rfl rfl) ?_ | refine af rfl rfl rfl rfl (a7 rfl rfl zG (by simp) (by first | rfl | assumption)) ?_ | refine af rfl rfl rfl rfl (az rfl rfl zG (by simp) (by rfl)) ?_ | refine af rfl rfl rfl rfl (a8 rfl rfl zG (by simp) (by simp)) ?_ | refine af rfl rfl rfl rfl (ai rfl rfl zG (by simp) (ay (by assumption) rfl)) ?_ | refine af rfl rfl rfl rfl (ai rfl rfl zG (by simp) (by assumption)) ?_ | refine af rfl rfl rfl rfl (a9 rfl rfl zG (by simp) rfl (by assumption) rfl (by decide)) ?_ | refine af rfl rfl rfl rfl (ba rfl rfl zG (by rfl)) ?_
           try dsimp only [St.put]
           (first | refine ae rfl ((ko (j := n) (k := kk) rfl rfl zG rfl hkk (by omega) hknd)) ?_ | refine ak rfl rfl rfl rfl ((ko (j := n) (k := kk) rfl rfl zG rfl hkk (by omega) hknd)) ?_ | refine c0 rfl rfl rfl rfl ((ko (j := n) (k := kk) rfl rfl zG rfl hkk (by omega) hknd)) ?_ | refine nf rfl rfl rfl ((ko (j := n) (k := kk) rfl rfl zG rfl hkk (by omega) hknd)) ?_)
           first | refine ak rfl rfl rfl rfl (bg rfl rfl rfl) ?_ | refine ak rfl rfl rfl rfl (bi rfl rfl) ?_
           try dsimp only [St.put]
           first | refine af rfl rfl rfl rfl (aw rfl rfl) ?_ | refine af rfl rfl rfl rfl (ah rfl rfl (Enc.len _)) ?_ | refine af rfl rfl rfl rfl (ah rfl rfl rfl) ?_ | refine af rfl rfl rfl rfl (a7 rfl rfl zG (by simp) (by first | rfl | assumption)) ?_ | refine af rfl rfl rfl rfl (az rfl rfl zG (by simp) (by rfl)) ?_ | refine af rfl rfl rfl rfl (a8 rfl rfl zG (by simp) (by simp)) ?_ | refine af rfl rfl rfl rfl (ai rfl rfl zG (by simp) (ay (by assumption) rfl)) ?_ | refine af rfl rfl rfl rfl (ai rfl rfl zG (by simp) (by assumption)) ?_ | refine af rfl rfl rfl rfl (a9 rfl rfl zG (by simp) rfl (by assumption) rfl (by decide)) ?_ | refine af rfl rfl rfl rfl (ba rfl rfl zG (by rfl)) ?_
           refine ak rfl rfl rfl rfl (ar rfl (by constructor)) ?_
           refine ak rfl rfl rfl rfl (ar rfl (by constructor)) ?_
           try dsimp only [St.put]
           (first | refine ae rfl ((kn (k := PW.length) rfl rfl zG rfl hsub (by omega))) ?_ | refine ak rfl rfl rfl rfl ((kn (k := PW.length) rfl rfl zG rfl hsub (by omega))) ?_ | refine c0 rfl rfl rfl rfl ((kn (k := PW.length) rfl rfl zG rfl hsub (by omega))) ?_ | refine nf rfl rfl rfl ((kn (k := PW.length) rfl rfl zG rfl hsub (by omega))) ?_)
           try dsimp only [St.put]
           refine af rfl rfl rfl rfl (ai rfl rfl zG (by simp) hfl) ?_
           first | refine ak rfl rfl rfl rfl (bg rfl rfl rfl) ?_ | refine ak rfl rfl rfl rfl (bi rfl rfl) ?_
           try dsimp only [St.put]
           first | refine af rfl rfl rfl rfl (aw rfl rfl) ?_ | refine af rfl rfl rfl rfl (ah rfl rfl (Enc.len _)) ?_ | refine af rfl rfl rfl rfl (ah rfl rfl rfl) ?_ | refine af rfl rfl rfl rfl (a7 rfl rfl zG (by simp) (by first | rfl | assumption)) ?_ | refine af rfl rfl rfl rfl (az rfl rfl zG (by simp) (by rfl)) ?_ | refine af rfl rfl rfl rfl (a8 rfl rfl zG (by simp) (by simp)) ?_ | refine af rfl rfl rfl rfl (ai rfl rfl zG (by simp) (ay (by assumption) rfl)) ?_ | refine af rfl rfl rfl rfl (ai rfl rfl zG (by simp) (by assumption)) ?_ | refine af rfl rfl rfl rfl (a9 rfl rfl zG (by simp) rfl (by assumption) rfl (by decide)) ?_ | refine af rfl rfl rfl rfl (ba rfl rfl zG (by rfl)) ?_
           refine ie ?_
           try dsimp only [St.put]
           refine ez rfl rfl rfl rfl (br rfl rfl rfl (hpm (ci l w) r.word) ?_)
           try dsimp only [St.put]
           (first | refine av rfl ((lp 86 PW (g8 kk (ci l w) r.word) rfl rfl rfl zG (by rw [kg]; exact List.take_left' (by rw [j2])) rfl rfl rfl (by omega) (by omega) (fun v4 => ?_))) | refine ez rfl rfl rfl rfl ((lp 86 PW (g8 kk (ci l w) r.word) rfl rfl rfl zG (by rw [kg]; exact List.take_left' (by rw [j2])) rfl rfl rfl (by omega) (by omega) (fun v4 => ?_))) | refine ge rfl rfl rfl ((lp 86 PW (g8 kk (ci l w) r.word) rfl rfl rfl zG (by rw [kg]; exact List.take_left' (by rw [j2])) rfl rfl rfl (by omega) (by omega) (fun v4 => ?_))) | refine dr rfl rfl rfl ((lp 86 PW (g8 kk (ci l w) r.word) rfl rfl rfl zG (by rw [kg]; exact List.take_left' (by rw [j2])) rfl rfl rfl (by omega) (by omega) (fun v4 => ?_))))
           refine c0 rfl rfl rfl rfl (ax rfl (by constructor)) ?_
           refine ib ?_
           dsimp only [St.put]
           refine hK35 _ ?_
           refine aq ?_
           first | refine ae rfl (bx rfl rfl rfl (by omega)) ?_ | refine ae rfl (cp rfl rfl rfl) ?_
           refine ae rfl (ar rfl (by constructor)) ?_
           refine am ?_
           dsimp only [St.put]
           rw [hstep]
           exact ⟨(j + 1, v4), by (dsimp only; omega), by (dsimp only; omega), ⟨⟨rfl, rfl⟩, zF, zB, zN, zX⟩⟩
          ·replace hc := of_decide_eq_false hc
           rw [dd (show RA.length ≤ j by omega), ← hRA]
           have hpl := po (ci l w) (dl c.rs ⟨(k : Int), (m : Int), (w : Int)⟩)
           have hRAl2 : (dl c.rs ⟨(k : Int), (m : Int), (w : Int)⟩).length ≤ 20 := by rw [hRA]; exact hRAl
           refine co ?_
           refine hK31 _ ?_
           refine aq ?_
           refine ae rfl (ar rfl (by constructor)) ?_
           refine ae rfl (ar rfl (by constructor)) ?_
           try dsimp only [St.put]
           refine av rfl (su 102 (dw (ci l w) (dl c.rs ⟨(k : Int), (m : Int), (w : Int)⟩)) rfl zG rfl rfl rfl (sx (xs := eb c.rs (k : Int) (m : Int) l w) (dw (ci l w) (dl c.rs ⟨(k : Int), (m : Int), (w : Int)⟩)) rfl rfl ((jt (by omega)).trans zG) rfl rfl rfl rfl (by omega) (by omega) (fun v3 => ?_)))
           refine ae rfl (ax rfl (by constructor)) ?_
           refine am ?_
           dsimp only [St.put]
           refine hK28 _ ?_
           refine aq ?_
           first | refine ae rfl (bx rfl rfl rfl (by omega)) ?_ | refine ae rfl (cp rfl rfl rfl) ?_
           refine ae rfl (ar rfl (by constructor)) ?_
           refine am ?_
           dsimp only [St.put]
           rw [← n1]
           exact ⟨(w + 1, v3), by (dsimp only; omega), by (dsimp only; omega), ⟨⟨rfl, rfl⟩, zF, zB, zN, zX⟩⟩
        ·replace hc := of_decide_eq_false hc
         obtain rfl : w = l.length + 1 := by omega
         have hrawl : (eb c.rs (k : Int) (m : Int) l (l.length + 1)).length ≤ 11 * 21 := Nat.le_trans (my _ _ _ _ _) (Nat.mul_le_mul (by omega) (by omega))
         have hrne := vj hv hch hl
         have hrf := pm hv (k : Int) (m : Int) l (l.length + 1)
         refine co ?_
         refine hK24 _ ?_
         refine fw [(0, none), (1, none), (2, none), (3, none), (4, none), (5, none), (6, none), (7, none)] (fun i => [5, 7].contains i) (fun i => [3, 4, 5, 7].contains i) (fun i => [0, 2, 6].contains i) [M + 1] (by kernel_rfl) (by kernel_rfl) ?_
         first | refine ak rfl rfl rfl rfl (bg rfl rfl rfl) ?_ | refine ak rfl rfl rfl rfl (bi rfl rfl) ?_
         try dsimp only [St.put]
         first | refine af rfl rfl rfl rfl (aw rfl rfl) ?_ | refine af rfl rfl rfl rfl (ah rfl rfl (Enc.len _)) ?_ | refine af rfl rfl rfl rfl (ah rfl rfl rfl) ?_ | refine af rfl rfl rfl rfl (a7 rfl rfl zG (by simp) (by first | rfl | assumption)) ?_ | refine af rfl rfl rfl rfl (az rfl rfl zG (by simp) (by rfl)) ?_ | refine af rfl rfl rfl rfl (a8 rfl rfl zG (by simp) (by simp)) ?_ | refine af rfl rfl rfl rfl (ai rfl rfl zG (by simp) (ay (by assumption) rfl)) ?_ | refine af rfl rfl rfl rfl (ai rfl rfl zG (by simp) (by assumption)) ?_ | refine af rfl rfl rfl rfl (a9 rfl rfl zG (by simp) rfl (by assumption) rfl (by decide)) ?_ | refine af rfl rfl rfl rfl (ba rfl rfl zG (by rfl)) ?_
         refine ak rfl rfl rfl rfl (ar rfl (by constructor)) ?_
         refine ie ?_
         try dsimp only [St.put]
         refine ge rfl rfl rfl (xx x9 (xs := eb c.rs (k : Int) (m : Int) l (l.length + 1)) Value.string (fun _ => rfl) (fun _ => rfl) (fun s => decide (s = ByteArray.empty)) ByteArray.empty (fun w => Zero.run (P := Tryd.prog) (t := 9) (w := w)) rfl rfl rfl rfl zG rfl rfl hrne (by omega) rfl vc hrf ⟨zD, ?_⟩)
         try dsimp only [St.put]
         refine ge rfl rfl rfl (dx rfl rfl rfl (by decide) (by decide) zR (by decide) ⟨zD, ?_⟩)
         try dsimp only [St.put]
         first | refine ez rfl rfl rfl rfl (qo (ys := [[.own P (v + 1) (gz c.rs (k : Int) (m : Int) l).length]]) rfl rfl zG rfl (sr Q) (rq rfl) (by rw [na]; simp only [List.length_cons, List.length_nil]; omega) (by rw [na]; simp only [List.length_cons, List.length_nil]; omega) ?_) | refine ge rfl rfl rfl (qo (ys := [[.own P (v + 1) (gz c.rs (k : Int) (m : Int) l).length]]) rfl rfl zG rfl (sr Q) (rq rfl) (by rw [na]; simp only [List.length_cons, List.length_nil]; omega) (by rw [na]; simp only [List.length_cons, List.length_nil]; omega) ⟨zD, ?_⟩)
         first | refine c0 rfl rfl rfl rfl (bg rfl rfl rfl) ?_ | refine c0 rfl rfl rfl rfl (bi rfl rfl) ?_
         try dsimp only [St.put]
         first | refine ez rfl rfl rfl rfl (c8 rfl rfl rfl zG rfl rfl (by rfl) ?_) | refine ez rfl rfl rfl rfl (dh rfl rfl rfl zG (by constructor) rfl zO ?_)
         refine ib ?_
         dsimp only [St.put]
         refine hK21 _ ?_
         refine aq ?_
         first | refine ae rfl (bx rfl rfl rfl (by omega)) ?_ | refine ae rfl (cp rfl rfl rfl) ?_
         refine ae rfl (ar rfl (by constructor)) ?_
         refine am ?_
         dsimp only [St.put]
         obtain ⟨e1, he1⟩ : ∃ e1 : Ent, ((P, v + 1, 0, gz c.rs (k : Int) (m : Int) l) : Ent) = e1 := ⟨_, rfl⟩
         obtain ⟨Q', hQ'⟩ : ∃ Q', Q ++ [e1] = Q' := ⟨_, rfl⟩
         have hl' : Q'.length = m + 1 := by rw [← hQ', List.length_append, hm]; rfl
         have hRT : d7 Q ++ [[.own P (v + 1) (gz c.rs (k : Int) (m : Int) l).length]] = d7 Q' := by rw [← hQ', ← udt, ← he1]; rfl
         rw [hRT, show (d7 Q).length + [[C.own P (v + 1) (gz c.rs (k : Int) (m : Int) l).length]].length = (d7 Q').length by rw [← hRT, List.length_append]]
         exact ⟨(Q', P + 1), (by dsimp only; omega), ⟨⟨(by dsimp only; omega), (by dsimp only; omega)⟩, (by dsimp only; rw [← hQ']; exact RiseE.snoc (m := P) q3 (fun e he => (q4 e he).2) (by rw [← he1])), (by
          dsimp only
          rw [← hQ']
          intro e he
          rcases List.mem_append.1 he with h | h
          ·have := q4 e h
           omega
          ·rw [List.mem_singleton] at h
           subst h
           rw [← he1]
           dsimp only
           omega), (by
          dsimp only
          rw [hl', ← hQ', List.map_append, q5, ← jn (nz (rs := c.rs) (k := k) hl), ← he1]
          rfl)⟩, ⟨⟨rfl, rfl⟩, zF, zB, zN, (by
          dsimp only
          rw [hl', ← hQ']
          refine mq (fun e he => ?_) (mw zG (mw zG fun j o h => ?_))
          ·rcases List.mem_append.1 he with h | h
           ·have h1 := q4 e h
            have h2 := gE e h
            exact zG
           ·rw [List.mem_singleton] at h
            subst h
            rw [← he1]
            exact zG
          ·have q0 := hltk j o h
           have q1 := (gK j (by omega)).trans h
           exact zG)⟩⟩
      ·replace hc := of_decide_eq_false hc
       refine qv (M + 1) _ [.v (.int .i64 ch.id), .list (d7 Q) .none] zG zW ?_
       refine co ?_
       refine hK17 _ ?_
       refine aq ?_
       first | refine ae rfl (bg rfl rfl rfl) ?_ | refine ae rfl (bi rfl rfl) ?_
       try dsimp only [St.put]
       first | refine aa rfl (aw rfl rfl) ?_ | refine aa rfl (ah rfl rfl (Enc.len _)) ?_ | refine aa rfl (ah rfl rfl rfl) ?_ | refine aa rfl (a7 rfl rfl zG trivial (by first | rfl | assumption)) ?_ | refine aa rfl (az rfl rfl zG trivial (by rfl)) ?_ | refine aa rfl (a8 rfl rfl zG trivial (by simp)) ?_ | refine aa rfl (ai rfl rfl zG trivial (ay (by assumption) rfl)) ?_ | refine aa rfl (ai rfl rfl zG trivial (by assumption)) ?_ | refine aa rfl (a9 rfl rfl zG trivial rfl (by assumption) rfl (by decide)) ?_ | refine aa rfl (ba rfl rfl zG (by rfl)) ?_
       try dsimp only [St.put]
       first | refine aa rfl (aw rfl rfl) ?_ | refine aa rfl (ah rfl rfl (Enc.len _)) ?_ | refine aa rfl (ah rfl rfl rfl) ?_ | refine aa rfl (a7 rfl rfl zG trivial (by first | rfl | assumption)) ?_ | refine aa rfl (az rfl rfl zG trivial (by rfl)) ?_ | refine aa rfl (a8 rfl rfl zG trivial (by simp)) ?_ | refine aa rfl (ai rfl rfl zG trivial (ay (by assumption) rfl)) ?_ | refine aa rfl (ai rfl rfl zG trivial (by assumption)) ?_ | refine aa rfl (a9 rfl rfl zG trivial rfl (by assumption) rfl (by decide)) ?_ | refine aa rfl (ba rfl rfl zG (by rfl)) ?_
       try dsimp only [St.put]
       refine av rfl (dx rfl rfl rfl (by decide) (by decide) zR (by decide) ?_)
       try dsimp only [St.put]
       refine av rfl (qo (ys := [mn ch.id Q]) rfl rfl zG rfl (yj _ _) (rq rfl) (by rw [lw (by rw [List.length_map]; omega)]; simp only [List.length_cons, List.length_nil]; omega) (by rw [lw (by rw [List.length_map]; omega)]; simp only [List.length_cons, List.length_nil]; omega) ?_)
       first | refine ae rfl (bg rfl rfl rfl) ?_ | refine ae rfl (bi rfl rfl) ?_
       try dsimp only [St.put]
       first | refine av rfl (c8 rfl rfl rfl zG rfl rfl (by rfl) ?_) | refine av rfl (dh rfl rfl rfl zG (by constructor) rfl zO ?_)
       refine am ?_
       dsimp only [St.put]
       refine hK14 _ ?_
       refine aq ?_
       first | refine ae rfl (bx rfl rfl rfl (by omega)) ?_ | refine ae rfl (cp rfl rfl rfl) ?_
       refine ae rfl (ar rfl (by constructor)) ?_
       refine am ?_
       dsimp only [St.put]
       have hid : (t.map (·.id))[QQ.length]? = some ch.id := by rw [hk, List.getElem?_map, hch]; rfl
       obtain ⟨QQ', hQQ⟩ : ∃ QQ', QQ ++ [Q] = QQ' := ⟨_, rfl⟩
       have hl' : QQ'.length = k + 1 := by rw [← hQQ, List.length_append, hk]; rfl
       have hfl : QQ'.flatten = QQ.flatten ++ Q := by rw [← hQQ]; simp
       have hRT : dp (t.map (·.id)) QQ ++ [mn ch.id Q] = dp (t.map (·.id)) QQ' := by rw [← hQQ]; exact uet hid
       rw [hRT, show (dp (t.map (·.id)) QQ).length + [mn ch.id Q].length = (dp (t.map (·.id)) QQ').length by rw [← hRT, List.length_append]]
       exact ⟨(QQ', P), (by dsimp only; omega), ⟨⟨(by dsimp only; omega), (by dsimp only; omega)⟩, (by dsimp only; rw [hfl]; exact RiseE.app (m := M) u3 q3 (fun e he => (u4 e he).2) fun e he => by have := (q4 e he).1; omega), (by
        dsimp only
        rw [hfl]
        intro e he
        rcases List.mem_append.1 he with h | h
        ·have := u4 e h
         omega
        ·have := q4 e h
         omega), (by
        dsimp only
        rw [hl', ← hQQ, List.map_append, u5, ← jn (ph (rs := c.rs) hch), List.map_append]
        congr 1
        show [Q.map (·.2.2.2)] = [(ef c.rs k ch).lines]
        rw [q5, dd (show (ef c.rs k ch).lines.length ≤ m by omega)])⟩, ⟨⟨rfl, rfl⟩, zF, zB, zN, (by
        dsimp only
        rw [hl', hfl]
        refine mq (fun e he => ?_) (mw zG (mw zG fun j o h => ?_))
        ·rcases List.mem_append.1 he with h | h
         ·have h1 := u4 e h
          have h2 := (gK e.1 (by omega)).trans (fE e h)
          exact zG
         ·have h1 := q4 e h
          have h2 := gE e h
          exact zG
        ·have q0 := hltB j o h
         have q1 := (gK j (by omega)).trans ((fB j q0).trans h)
         exact zG)⟩⟩
    ·replace hc := of_decide_eq_false hc
     have hkt : k = t.length := by omega
     refine co ?_
     refine hK10 _ ?_
     refine aj fun K38 hK38 => ?_
     refine aq ?_
     try dsimp only [St.put]
     first | refine aa rfl (aw rfl rfl) ?_ | refine aa rfl (ah rfl rfl (Enc.len _)) ?_ | refine aa rfl (ah rfl rfl rfl) ?_ | refine aa rfl (a7 rfl rfl zG trivial (by first | rfl | assumption)) ?_ | refine aa rfl (az rfl rfl zG trivial (by rfl)) ?_ | refine aa rfl (a8 rfl rfl zG trivial (by simp)) ?_ | refine aa rfl (ai rfl rfl zG trivial (ay (by assumption) rfl)) ?_ | refine aa rfl (ai rfl rfl zG trivial (by assumption)) ?_ | refine aa rfl (a9 rfl rfl zG trivial rfl (by assumption) rfl (by decide)) ?_ | refine aa rfl (ba rfl rfl zG (by rfl)) ?_
     try dsimp only [St.put]
     first | refine av rfl (c8 rfl rfl rfl zG rfl rfl (by rfl) ?_) | refine av rfl (dh rfl rfl rfl zG (by constructor) rfl zO ?_)
     refine am ?_
     dsimp only [St.put]
     refine hK38 _ ?_
     refine bk ?_
     refine ⟨(QQ, M), ⟨(by dsimp only; omega), u3, (fun e he => ⟨by have := u4 e he; omega, (u4 e he).2⟩), (by dsimp only; rw [u5, dd (by rw [ny]; omega)])⟩, ?_⟩
     refine j3 rfl (kj rfl zG (by rfl) zC rfl) zN (mq (fun e he => by have h1 := u4 e he; have h2 := fE e he; exact zG) (fun j o h => by have q0 := hltg j o h; have q1 := ((fB j (by omega)).trans (by rw [dg (by omega), dg (by omega)])).trans h; exact zG)) ?_
     exact zW
end Go.Proofs.YthboenlglkmnjaaDoor
namespace Go.Proofs.YthboenlglkmnjaaDoor
set_option maxRecDepth 10000
open Go.RowKit Go.AB
open Go.PB (Chap bd PlaceD bh CopyD bw)

theorem ue9 (t : bd) : th Tryd.prog 49 [.elem [.elem [lst t]]] (dq t) encP := by
 refine uda Tryd.func49 rfl rfl (by simp [C.one]) fun E W lb lx J Jx hr ok => ?_
 simp only [Tryd.ntmps49]
 -- not used: know 2.1, know 5.1
 obtain ⟨b, rfl⟩ : ∃ b, lb = [b] := by
  match lb, hr with
  | [b], _ => exact ⟨b, rfl⟩
  | [], hr => exact absurd hr.1 (by simp)
  | _ :: _ :: _, hr => exact absurd hr.1 (by simp)
 obtain ⟨vs1, h1, hq1⟩ := (hr.2 0 _ _ rfl rfl).elem_exact
 obtain ⟨v1, rfl⟩ : ∃ v, vs1 = [v] := by
  match vs1, hq1 with
  | [b], _ => exact ⟨b, rfl⟩
  | [], hr => exact absurd hr.1 (by simp)
  | _ :: _ :: _, hr => exact absurd hr.1 (by simp)
 obtain ⟨vs2, h2, hq2⟩ := (hq1.2 0 _ _ rfl rfl).elem_exact
 obtain ⟨V, rfl⟩ : ∃ v, vs2 = [v] := by
  match vs2, hq2 with
  | [b], _ => exact ⟨b, rfl⟩
  | [], hr => exact absurd hr.1 (by simp)
  | _ :: _ :: _, hr => exact absurd hr.1 (by simp)
 have h3 := hq2.2 0 _ _ rfl rfl
 have k1 : Known E.L W b (.elem [.v v1]) := Known.of (E := E.drop 0) rfl (h1.drop (.elem fun c hc => by simp at hc; subst hc; exact .v))
 have k2 : Known E.L W v1 (.elem [.v V]) := Known.of (E := E.drop 0) rfl (h2.drop (.elem fun c hc => by simp at hc; subst hc; exact .v))
 obtain ⟨lv, wv, hX⟩ := zy (E := E.drop 0) rfl (h3.drop (ce _ _))
 dsimp only [List.length_cons, List.length_nil, List.map_cons, List.map_nil, Nat.reduceAdd, Nat.reduceSub]
 replace hX : ze E.L W t V lv wv := hX
 have htl := hX.len
 refine i6 fun K1 hK1 => ?_
 refine kd ok [(b, .elem [.v v1]), (v1, .elem [.v V]), (V, .list (t.mapIdx fun k c => [.v (.int .i64 c.id), .v (lv k)]) .none)] (lm k1 (lm k2 (lm hX.top ou))) ?_
 dsimp only [im]
 refine aq ?_
 try dsimp only [St.put]
 first | refine aa rfl (j7 1 0 rfl rfl (aw rfl rfl)) ?_ | refine aa rfl (j7 1 0 rfl rfl (ah rfl rfl (Enc.len _))) ?_ | refine aa rfl (j7 1 0 rfl rfl (ah rfl rfl rfl)) ?_ | refine aa rfl (j7 1 0 rfl rfl (a7 rfl rfl zG trivial (by first | rfl | assumption))) ?_ | refine aa rfl (j7 1 0 rfl rfl (az rfl rfl zG trivial (by rfl))) ?_ | refine aa rfl (j7 1 0 rfl rfl (a8 rfl rfl zG trivial (by simp))) ?_ | refine aa rfl (j7 1 0 rfl rfl (ai rfl rfl zG trivial (ay (by assumption) rfl))) ?_ | refine aa rfl (j7 1 0 rfl rfl (ai rfl rfl zG trivial (by assumption))) ?_ | refine aa rfl (j7 1 0 rfl rfl (a9 rfl rfl zG trivial rfl (by assumption) rfl (by decide))) ?_ | refine aa rfl (j7 1 0 rfl rfl (ba rfl rfl zG (by rfl))) ?_
 first | refine ae rfl (g6 9 1 rfl rfl (m1 rfl rfl)) ?_ | refine ae rfl (g6 9 1 rfl rfl (m0 rfl rfl)) ?_ | refine ae rfl (g6 9 1 rfl rfl (mz rfl rfl)) ?_
 first | refine ae rfl (bg rfl rfl rfl) ?_ | refine ae rfl (bi rfl rfl) ?_
 first | refine ae rfl (bg rfl rfl rfl) ?_ | refine ae rfl (bi rfl rfl) ?_
 try dsimp only [St.put]
 first | refine aa rfl (aw rfl rfl) ?_ | refine aa rfl (ah rfl rfl (Enc.len _)) ?_ | refine aa rfl (ah rfl rfl rfl) ?_ | refine aa rfl (a7 rfl rfl zG trivial (by first | rfl | assumption)) ?_ | refine aa rfl (az rfl rfl zG trivial (by rfl)) ?_ | refine aa rfl (a8 rfl rfl zG trivial (by simp)) ?_ | refine aa rfl (ai rfl rfl zG trivial (ay (by assumption) rfl)) ?_ | refine aa rfl (ai rfl rfl zG trivial (by assumption)) ?_ | refine aa rfl (a9 rfl rfl zG trivial rfl (by assumption) rfl (by decide)) ?_ | refine aa rfl (ba rfl rfl zG (by rfl)) ?_
 refine ae rfl (g6 13 2 rfl rfl (bj (k := t.length) rfl rfl List.length_mapIdx)) ?_
 refine ae rfl (ar rfl (by constructor)) ?_
 refine am ?_
 refine ⟨rfl, ?_⟩
 dsimp only [St.put, gj, List.map, exC]
 refine hK1 _ _ ?_
 refine m5 ?_
 refine sl 16 ?_
 refine zQ ?_
 refine sm (X := Nat) (fun k => k ≤ t.length) (fun k => t.length - k) (fun k => [(15, .v (.int .i64 (k : Int)))]) (fun k => (false, dq (t.take k))) 0 rfl ?_ ?_ ?_ ?_
 ·exact Nat.zero_le _
 ·exact zF
 ·rfl
 ·rintro k hI
  dsimp only at hI ⊢
  refine i6 fun K2 hK2 => ?_
  refine kd ok [] (fun p hp => by cases hp) ?_
  dsimp only [im]
  refine aq ?_
  refine ae rfl (cj rfl rfl rfl) ?_
  refine am ?_
  refine ⟨rfl, ?_⟩
  dsimp only [St.put, gj, List.map, exC]
  refine hK2 _ _ ?_
  refine i6 fun K3 hK3 => ?_
  refine og rfl (fun hc => ?_) (fun hc => ?_)
  ·replace hc := of_decide_eq_true hc
   obtain ⟨c, hk⟩ : ∃ c, t[k]? = some c := ⟨_, List.getElem?_eq_getElem (by omega)⟩
   have hk' : (t.mapIdx fun k c => [C.v (.int .i64 c.id), C.v (lv k)])[k]? = some [.v (.int .i64 c.id), .v (lv k)] := by rw [List.getElem?_mapIdx, hk]; rfl
   obtain ⟨hl1, hl2⟩ := hX.lines k c hk
   refine qd ?_
   refine hK3 _ _ ?_
   refine i6 fun K4 hK4 => ?_
   refine m5 ?_
   refine uc7 ok [(V, .list (t.mapIdx fun k c => [.v (.int .i64 c.id), .v (lv k)]) .none), (lv k, .list (c.lines.mapIdx fun n _ => [.v (wv k n)]) .none)] (lm hX.top (lm hl1 ou)) ?_
   dsimp only [im]
   refine aq ?_
   refine ae rfl (ar rfl (by constructor)) ?_
   try dsimp only [St.put]
   refine ae rfl (g6 13 0 rfl rfl (bf (k := k) rfl rfl rfl rfl hk' rfl)) ?_
   try dsimp only [St.put]
   first | refine aa rfl (aw rfl rfl) ?_ | refine aa rfl (ah rfl rfl (Enc.len _)) ?_ | refine aa rfl (ah rfl rfl rfl) ?_ | refine aa rfl (a7 rfl rfl zG trivial (by first | rfl | assumption)) ?_ | refine aa rfl (az rfl rfl zG trivial (by rfl)) ?_ | refine aa rfl (a8 rfl rfl zG trivial (by simp)) ?_ | refine aa rfl (ai rfl rfl zG trivial (ay (by assumption) rfl)) ?_ | refine aa rfl (ai rfl rfl zG trivial (by assumption)) ?_ | refine aa rfl (a9 rfl rfl zG trivial rfl (by assumption) rfl (by decide)) ?_ | refine aa rfl (ba rfl rfl zG (by rfl)) ?_
   try dsimp only [St.put]
   refine av rfl (di rfl ?_)
   refine ae rfl (ax rfl (by constructor)) ?_
   try dsimp only [St.put]
   first | refine av rfl (c8 rfl rfl rfl zG rfl rfl (by rfl) ?_) | refine av rfl (dh rfl rfl rfl zG (by constructor) rfl zO ?_)
   refine am ?_
   dsimp only [St.put]
   refine aq ?_
   first | refine ae rfl (bg rfl rfl rfl) ?_ | refine ae rfl (bi rfl rfl) ?_
   try dsimp only [St.put]
   first | refine aa rfl (aw rfl rfl) ?_ | refine aa rfl (ah rfl rfl (Enc.len _)) ?_ | refine aa rfl (ah rfl rfl rfl) ?_ | refine aa rfl (a7 rfl rfl zG trivial (by first | rfl | assumption)) ?_ | refine aa rfl (az rfl rfl zG trivial (by rfl)) ?_ | refine aa rfl (a8 rfl rfl zG trivial (by simp)) ?_ | refine aa rfl (ai rfl rfl zG trivial (ay (by assumption) rfl)) ?_ | refine aa rfl (ai rfl rfl zG trivial (by assumption)) ?_ | refine aa rfl (a9 rfl rfl zG trivial rfl (by assumption) rfl (by decide)) ?_ | refine aa rfl (ba rfl rfl zG (by rfl)) ?_
   refine ae rfl (g6 21 1 rfl rfl (bj (k := c.lines.length) rfl rfl List.length_mapIdx)) ?_
   refine ae rfl (ar rfl (by constructor)) ?_
   refine am ?_
   refine ⟨rfl, ?_⟩
   dsimp only [St.put, gj, List.map, exC]
   refine m5 ?_
   refine sl 24 ?_
   refine zQ ?_
   refine sm (X := Nat) (fun n => n ≤ c.lines.length) (fun n => c.lines.length - n) (fun n => [(23, .v (.int .i64 (n : Int)))]) (fun n => (false, dq (t.take k) ++ iq k (c.lines.take n))) 0 rfl ?_ ?_ ?_ ?_
   ·exact Nat.zero_le _
   ·exact zF
   ·simp [iq]
   ·rintro n hI
    dsimp only at hI ⊢
    refine i6 fun K6 hK6 => ?_
    refine kd ok [] (fun p hp => by cases hp) ?_
    dsimp only [im]
    refine aq ?_
    refine ae rfl (cj rfl rfl rfl) ?_
    refine am ?_
    refine ⟨rfl, ?_⟩
    dsimp only [St.put, gj, List.map, exC]
    refine hK6 _ _ ?_
    refine i6 fun K7 hK7 => ?_
    refine og rfl (fun hc => ?_) (fun hc => ?_)
    ·replace hc := of_decide_eq_true hc
     obtain ⟨l, hn⟩ : ∃ l, c.lines[n]? = some l := ⟨_, List.getElem?_eq_getElem (by omega)⟩
     have hn' : (c.lines.mapIdx fun n _ => [C.v (wv k n)])[n]? = some [.v (wv k n)] := by rw [List.getElem?_mapIdx, hn]; rfl
     obtain ⟨hw1, hw2⟩ := hX.words k c n l hk hn
     refine qd ?_
     refine hK7 _ _ ?_
     refine i6 fun K8 hK8 => ?_
     refine m5 ?_
     refine i6 fun K9 hK9 => ?_
     refine kd ok [(lv k, .list (c.lines.mapIdx fun n _ => [.v (wv k n)]) .none)] (lm hl1 ou) ?_
     dsimp only [im]
     refine aq ?_
     refine ae rfl (ar rfl (by constructor)) ?_
     try dsimp only [St.put]
     refine ae rfl (g6 21 0 rfl rfl (bf (k := n) rfl rfl rfl rfl hn' rfl)) ?_
     try dsimp only [St.put]
     first | refine aa rfl (aw rfl rfl) ?_ | refine aa rfl (ah rfl rfl (Enc.len _)) ?_ | refine aa rfl (ah rfl rfl rfl) ?_ | refine aa rfl (a7 rfl rfl zG trivial (by first | rfl | assumption)) ?_ | refine aa rfl (az rfl rfl zG trivial (by rfl)) ?_ | refine aa rfl (a8 rfl rfl zG trivial (by simp)) ?_ | refine aa rfl (ai rfl rfl zG trivial (ay (by assumption) rfl)) ?_ | refine aa rfl (ai rfl rfl zG trivial (by assumption)) ?_ | refine aa rfl (a9 rfl rfl zG trivial rfl (by assumption) rfl (by decide)) ?_ | refine aa rfl (ba rfl rfl zG (by rfl)) ?_
     refine ae rfl (ax rfl (by constructor)) ?_
     refine ae rfl (ax rfl (by constructor)) ?_
     refine am ?_
     refine ⟨rfl, ?_⟩
     dsimp only [St.put, gj, List.map, exC]
     refine hK9 _ _ ?_
     refine i6 fun K10 hK10 => ?_
     refine kd ok [(wv k n, lst l)] (lm hw1 ou) ?_
     dsimp only [im]
     refine aq ?_
     refine ae rfl (ar rfl (by constructor)) ?_
     first | refine ae rfl (g6 28 0 rfl rfl (bj rfl rfl (List.length_map _))) ?_ | refine ae rfl (g6 28 0 rfl rfl (bj rfl rfl rfl)) ?_ | refine ae rfl (g6 28 0 rfl rfl (b8 rfl rfl)) ?_ | refine ae rfl (g6 28 0 rfl rfl (cd rfl rfl)) ?_ | refine ae rfl (g6 28 0 rfl rfl (cb rfl rfl)) ?_ | refine ae rfl (g6 28 0 rfl rfl (ca rfl rfl (by omega))) ?_
     refine ae rfl (ar rfl (by constructor)) ?_
     refine am ?_
     refine ⟨rfl, ?_⟩
     dsimp only [St.put, gj, List.map, exC]
     refine hK10 _ _ ?_
     refine m5 ?_
     refine sl 31 ?_
     refine zQ ?_
     refine sm (X := Nat) (fun w => w ≤ l.length) (fun w => l.length - w) (fun w => [(30, .v (.int .i64 (w : Int)))]) (fun w => (false, dq (t.take k) ++ iq k (c.lines.take n) ++ iy k n (l.take w))) 0 rfl ?_ ?_ ?_ ?_
     ·exact Nat.zero_le _
     ·exact zF
     ·simp [iy]
     ·rintro w hI
      dsimp only at hI ⊢
      refine i6 fun K11 hK11 => ?_
      refine kd ok [] (fun p hp => by cases hp) ?_
      dsimp only [im]
      refine aq ?_
      refine ae rfl (cj rfl rfl rfl) ?_
      refine am ?_
      refine ⟨rfl, ?_⟩
      dsimp only [St.put, gj, List.map, exC]
      refine hK11 _ _ ?_
      refine i6 fun K12 hK12 => ?_
      refine og rfl (fun hc => ?_) (fun hc => ?_)
      ·replace hc := of_decide_eq_true hc
       obtain ⟨s, hw⟩ : ∃ s, l[w]? = some s := ⟨_, List.getElem?_eq_getElem (by omega)⟩
       have hpre := tx hk hn (w + 1)
       rw [sg k n hw, ← List.append_assoc] at hpre
       refine qd ?_
       refine hK12 _ _ ?_
       refine i6 fun K13 hK13 => ?_
       refine m5 ?_
       refine i6 fun K14 hK14 => ?_
       refine kd ok [(wv k n, lst l)] (lm hw1 ou) ?_
       dsimp only [im]
       refine aq ?_
       refine ae rfl (ar rfl (by constructor)) ?_
       try dsimp only [St.put]
       first | refine ae rfl (g6 28 0 rfl rfl (bf rfl rfl rfl rfl (bm (by assumption)) (Enc.len _))) ?_ | refine ae rfl (g6 28 0 rfl rfl (bf rfl rfl rfl rfl (by assumption) rfl)) ?_ | refine ae rfl (g6 28 0 rfl rfl (cr rfl rfl rfl (by first | exact ct _ | exact rfl) (by omega))) ?_ | refine ae rfl (g6 28 0 rfl rfl (bf rfl rfl rfl (by omega) (bm (by assumption)) (Enc.len _))) ?_
       try dsimp only [St.put]
       first | refine aa rfl (aw rfl rfl) ?_ | refine aa rfl (ah rfl rfl (Enc.len _)) ?_ | refine aa rfl (ah rfl rfl rfl) ?_ | refine aa rfl (a7 rfl rfl zG trivial (by first | rfl | assumption)) ?_ | refine aa rfl (az rfl rfl zG trivial (by rfl)) ?_ | refine aa rfl (a8 rfl rfl zG trivial (by simp)) ?_ | refine aa rfl (ai rfl rfl zG trivial (ay (by assumption) rfl)) ?_ | refine aa rfl (ai rfl rfl zG trivial (by assumption)) ?_ | refine aa rfl (a9 rfl rfl zG trivial rfl (by assumption) rfl (by decide)) ?_ | refine aa rfl (ba rfl rfl zG (by rfl)) ?_
       refine ae rfl (ax rfl (by constructor)) ?_
       refine ae rfl (ax rfl (by constructor)) ?_
       refine am ?_
       refine ⟨rfl, ?_⟩
       dsimp only [St.put, gj, List.map, exC]
       refine hK14 _ _ ?_
       refine i6 fun K15 hK15 => ?_
       refine uc9 ?_
       refine lj rfl (ar rfl (by constructor)) ?_
       refine lj rfl (ar rfl (by constructor)) ?_
       refine lj rfl (ar rfl (by constructor)) ?_
       refine lj rfl (ar rfl (by constructor)) ?_
       refine lj rfl (jo rfl rfl) ?_
       refine lj rfl (ar rfl (by constructor)) ?_
       try dsimp only [St.put]
       refine udc ok (x := ((⟨k, n, w⟩, s) : PW)) (hpre.subset (by simp)) rfl rfl rfl rfl (fun E W vs h => udv h) (Nat.lt_of_lt_of_le (by simp) hpre.length_le) ?_ ?_
       ·refine lj rfl (dt rfl rfl) ?_
        refine w8 ?_
        dsimp only [St.put]
        refine hK15 _ _ ?_
        refine og rfl (fun h => by cases h) (fun _ => ?_)
        refine qd ?_
        refine hK13 _ _ ?_
        refine kd ok [] (fun p hp => by cases hp) ?_
        dsimp only [im]
        refine aq ?_
        first | refine ae rfl (bx rfl rfl rfl (by omega)) ?_ | refine ae rfl (cp rfl rfl rfl) ?_
        refine ae rfl (ar rfl (by constructor)) ?_
        refine am ?_
        refine ⟨rfl, ?_⟩
        dsimp only [St.put, gj, List.map, exC]
        exact ⟨w + 1, by omega, by omega, by rw [sg k n hw, List.append_assoc], rfl, rfl, ⟨⟨rfl, rfl⟩, zF, zB, zN, zX⟩⟩
       ·dsimp only [St.put, gj, List.map, exC]
        refine lj rfl (dt rfl rfl) ?_
        refine w8 ?_
        dsimp only [St.put]
        refine hK15 _ _ ?_
        refine og rfl (fun _ => ?_) (fun h => by cases h)
        refine uc8 ?_
        exact udh (st := ⟨0, [], [], noG, 0, 0⟩) hpre
      ·replace hc := of_decide_eq_false hc
       obtain rfl : w = l.length := by omega
       refine sn ?_
       refine hK8 _ _ ?_
       refine kd ok [] (fun p hp => by cases hp) ?_
       dsimp only [im]
       refine aq ?_
       first | refine ae rfl (bx rfl rfl rfl (by omega)) ?_ | refine ae rfl (cp rfl rfl rfl) ?_
       refine ae rfl (ar rfl (by constructor)) ?_
       refine am ?_
       refine ⟨rfl, ?_⟩
       dsimp only [St.put, gj, List.map, exC]
       exact ⟨n + 1, by omega, by omega, by rw [s8 k hn, List.take_length, List.append_assoc], rfl, rfl, ⟨⟨rfl, rfl⟩, zF, zB, zN, zX⟩⟩
    ·replace hc := of_decide_eq_false hc
     obtain rfl : n = c.lines.length := by omega
     refine sn ?_
     refine hK4 _ _ ?_
     refine kd ok [] (fun p hp => by cases hp) ?_
     dsimp only [im]
     refine aq ?_
     first | refine ae rfl (bx rfl rfl rfl (by omega)) ?_ | refine ae rfl (cp rfl rfl rfl) ?_
     refine ae rfl (ar rfl (by constructor)) ?_
     refine am ?_
     refine ⟨rfl, ?_⟩
     dsimp only [St.put, gj, List.map, exC]
     exact ⟨k + 1, by omega, by omega, by rw [te hk, List.take_length], rfl, rfl, ⟨⟨rfl, rfl⟩, zF, zB, zN, zX⟩⟩
  ·replace hc := of_decide_eq_false hc
   obtain rfl : k = t.length := by omega
   refine sn ?_
   exact udi (st := ⟨0, [], [], noG, 0, 0⟩) (by rw [List.take_length])
end Go.Proofs.YthboenlglkmnjaaDoor
namespace Go.AB
open Go Go.RowKit
open Go.AB.Enc (cells)
open Go.PB (Chap bd PlaceD bh CopyD bw)
end Go.AB
namespace Go.Proofs.YthboenlglkmnjaaDoor
set_option maxRecDepth 10000
open Go.RowKit Go.AB
open Go.AB.Enc (cells)
open Go.PB (Chap bd PlaceD bh CopyD bw)
end Go.Proofs.YthboenlglkmnjaaDoor
namespace Go.AB
open Go Go.RowKit
open Go.AB.Enc (cells)
open Go.PB (Chap bd PlaceD bh CopyD bw)
/-- so many words of a line -/
def p5 (p : L2) (k : Nat) : List PlaceD := (List.range k).map fun (i : Nat) => ⟨p.1, p.2, (i : Int)⟩
theorem uch (p : L2) (k : Nat) : (p5 p k).length = k := by simp [p5]
def li (t : bd) (f : L2 → Option L2) (p : L2) : List PlaceD := bif (f p).isSome then p5 p ((dm t p).getD []).length else []
def l6 (t : bd) (f : L2 → Option L2) (l : List L2) : List PlaceD := (l.map (li t f)).flatten
def mu (t : bd) (f : L2 → Option L2) : List PlaceD := l6 t f (mj t)
theorem ucf {t : bd} (ht : ck t = true) (f : L2 → Option L2) (p : L2) : (li t f p).length ≤ 10 := by
 unfold li
 cases (f p).isSome
 ·exact Nat.zero_le _
 ·rw [cond_true, uch]
  cases h : dm t p with
  | none => exact Nat.zero_le _
  | some l => have := nm ht h; simp only [Option.getD_some]; omega
theorem zp {t : bd} (ht : ck t = true) (f : L2 → Option L2) (l : List L2) : (l6 t f l).length ≤ 10 * l.length := by
 induction l with
 | nil => exact Nat.zero_le _
 | cons p l ih =>
  have h1 := ucf ht f p
  have : (l6 t f (p :: l)).length = (li t f p).length + (l6 t f l).length := by simp [l6]
  rw [this, List.length_cons]
  omega
theorem ub5 {t : bd} {f : L2 → Option L2} {q : PlaceD} : q ∈ mu t f ↔ fp t q = true ∧ (f (q.ch, q.ln)).isSome = true := by
 unfold mu l6
 rw [List.mem_flatten]
 constructor
 ·rintro ⟨l, hl, hq⟩
  obtain ⟨p, hp, rfl⟩ := List.mem_map.1 hl
  obtain ⟨ws, hw⟩ := mem_lines.1 hp
  unfold li at hq
  cases hf : (f p).isSome with
  | false => rw [hf] at hq; simp at hq
  | true =>
   rw [hf, cond_true, hw, Option.getD_some] at hq
   obtain ⟨i, hi, rfl⟩ := List.mem_map.1 hq
   rw [List.mem_range] at hi
   exact ⟨placeB_true.2 ⟨ws, hw, by dsimp only; omega, by dsimp only; omega⟩, hf⟩
 ·rintro ⟨h1, h2⟩
  obtain ⟨ws, hw, h3, h4⟩ := placeB_true.1 h1
  refine ⟨_, List.mem_map.2 ⟨(q.ch, q.ln), mem_lines.2 ⟨ws, hw⟩, rfl⟩, ?_⟩
  unfold li
  rw [h2, cond_true, hw, Option.getD_some]
  refine List.mem_map.2 ⟨q.wd.toNat, List.mem_range.2 (by omega), ?_⟩
  have : ((q.wd.toNat : Nat) : Int) = q.wd := by omega
  rw [this]
/-- the numbers of a place -/
def f8 (q : PlaceD) : List Int := [q.ch, q.ln, q.wd]
/-! ### What is next to something -/
end Go.AB
namespace Go.AB
open Go Go.RowKit
open Go.AB.Enc (cells)
open Go.PB (Chap bd PlaceD bh CopyD bw)
end Go.AB
namespace Go.Proofs.YthboenlglkmnjaaDoor
set_option maxRecDepth 10000
open Go.RowKit Go.AB
open Go.AB.Enc (cells)
open Go.PB (Chap bd PlaceD bh CopyD bw)
/-! ### What is beside something -/
end Go.Proofs.YthboenlglkmnjaaDoor
namespace Go.AB
open Go Go.RowKit
open Go.AB.Enc (cells)
section
variable {P : Program} {o : Oper} {st : St} {K : St → Prop}
/-- A field of one cell, of a struct that is at hand. -/
theorem ub1 {t : TypeId} {x : Operand} {f off : Nat} {ft : TypeId} [Fld P t f off ft] [Ty P ft false 1] {cs : List C} {c : C} (ho : o.op = .field t x f) (hx : evC st x = .agg cs) (hc : cs[off]? = some c) : NStep P o st c := fun E w a hs => by
 obtain ⟨vs, e1, hr, h1⟩ := (hx ▸ hs.ev x).agg_inv
 have hlt : off < vs.length := by rw [hr.1]; exact (List.getElem?_eq_some_iff.1 hc).1
 obtain ⟨fs, fd, g1, g2, g3, g4, g5⟩ := Fld.spec (P := P) (t := t) (f := f) (off := off) (ft := ft)
 refine ⟨vs[off], hr.2 off c _ hc (List.getElem?_eq_getElem hlt), fun w' => ?_⟩
 have q2 := Ty.size (P := P) (w := w') (t := ft) (ag := false) (n := 1)
 have q3 := Ty.row (P := P) (w := w') (t := ft) (ag := false) (n := 1)
 subst g3; subst g4
 simp [execOp, ho, Instr.field, asAgg, e1, run_underlying g1, g2, q2, q3, part, hlt]
end
section
variable {ρ : Option Nat} {P : Program} {st : St} {Q : Exit → St → Prop}
end
end Go.AB

namespace Go.AB
open Go Go.RowKit
open Go.AB.Enc (cells)
open Go.PB (Chap bd PlaceD bh CopyD bw)
end Go.AB
namespace Go.Proofs.YthboenlglkmnjaaDoor
set_option maxRecDepth 10000
open Go.RowKit Go.AB
open Go.AB.Enc (cells)
open Go.PB (Chap bd PlaceD bh CopyD bw)
end Go.Proofs.YthboenlglkmnjaaDoor
namespace Go.AB
open Go Go.RowKit
open Go.AB.Enc (cells)
open Go.PB (Chap bd PlaceD bh CopyD bw)
end Go.AB
namespace Go.Proofs.YthboenlglkmnjaaDoor
set_option maxRecDepth 10000
open Go.RowKit Go.AB
open Go.AB.Enc (cells)
open Go.PB (Chap bd PlaceD bh CopyD bw)
end Go.Proofs.YthboenlglkmnjaaDoor
namespace Go.AB
open Go Go.RowKit
open Go.AB.Enc (cells)
open Go.PB (Chap bd PlaceD bh CopyD bw)
end Go.AB
namespace Go.Proofs.YthboenlglkmnjaaDoor
set_option maxRecDepth 10000
open Go.RowKit Go.AB
open Go.AB.Enc (cells)
open Go.PB (Chap bd PlaceD bh CopyD bw)
end Go.Proofs.YthboenlglkmnjaaDoor
namespace Go.AB
open Go Go.RowKit
open Go.PB (Chap bd PlaceD bh CopyD bw)
theorem ua5 {t : bd} {p : PlaceD} (ht : ck t = true) (hp : fp t p = true) : (0 ≤ p.ch ∧ p.ch ≤ 5) ∧ (0 ≤ p.ln ∧ p.ln ≤ 9) ∧ 0 ≤ p.wd ∧ p.wd ≤ 9 := by
 obtain ⟨l, hw, h1, h2⟩ := placeB_true.1 hp
 have hl := nm ht hw
 dsimp only at hl
 omega
end Go.AB
namespace Go.AB
open Go Go.RowKit
open Go.AB.Enc (cells)
open Go.PB (Chap bd PlaceD bh CopyD bw)
theorem y5 (t : bd) : (dq t).map (·.1) = mu t fun _ => some (1, 1) := by
 have key : ∀ (k n : Nat) (c : Chap) (l : List ByteArray), t[k]? = some c → c.lines[n]? = some l → li t (fun _ => some (1, 1)) ((k : Int), (n : Int)) = (iy k n l).map (·.1) := fun k n c l hc hl => by
  unfold li
  rw [o9 hc hl]
  simp only [Option.isSome_some, cond_true, Option.getD_some]
  unfold p5 iy
  apply List.ext_getElem?
  intro i
  rw [List.getElem?_map, List.getElem?_map, List.getElem?_mapIdx]
  by_cases hi : i < l.length
  ·rw [List.getElem?_range hi, List.getElem?_eq_getElem hi]; rfl
  ·rw [List.getElem?_eq_none (by simp; omega), List.getElem?_eq_none (by omega)]; rfl
 unfold mu l6 mj dq iq
 rw [List.map_flatten, mh, List.map_flatten, mh, List.flatten_flatten]
 congr 1
 rw [mh]
 apply List.ext_getElem?
 intro k
 rw [List.getElem?_mapIdx, List.getElem?_mapIdx]
 cases hc : t[k]? with
 | none => rfl
 | some c =>
  simp only [Option.map_some]
  congr 1
  rw [List.map_flatten, mh, mh]
  congr 1
  apply List.ext_getElem?
  intro n
  rw [List.getElem?_mapIdx, List.getElem?_mapIdx]
  cases hl : c.lines[n]? with
  | none => rfl
  | some l => simp only [Option.map_some]; rw [key k n c l hc hl]
theorem allP_mem {t : bd} {p : PlaceD} : p ∈ (dq t).map (·.1) ↔ fp t p = true := by
 rw [y5, ub5]; simp
theorem tf {t : bd} (ht : ck t = true) : (dq t).length ≤ 600 := by
 have h1 : ((dq t).map (·.1)).length = (mu t fun _ => some (1, 1)).length := by rw [y5]
 have h2 := zp ht (fun _ => some (1, 1)) (mj t)
 have h3 := ucd ht
 unfold mu at h1
 rw [List.length_map] at h1
 omega
theorem ufi {t : bd} (ht : ck t = true) {x : PW} (hx : x ∈ dq t) : x.2.size ≤ 12 := by
 unfold dq at hx
 obtain ⟨l, hl, h1⟩ := List.mem_flatten.1 hx
 obtain ⟨k, hk, rfl⟩ := List.mem_mapIdx.1 hl
 unfold iq at h1
 obtain ⟨l2, hl2, h2⟩ := List.mem_flatten.1 h1
 obtain ⟨n, hn, rfl⟩ := List.mem_mapIdx.1 hl2
 unfold iy at h2
 obtain ⟨w, hw, rfl⟩ := List.mem_mapIdx.1 h2
 simp only [ck, Bool.and_eq_true, List.all_eq_true, gl, iz, e8, inB_true] at ht
 have h3 := ((((ht.1.2 _ (List.getElem_mem hk)).2 _ (List.getElem_mem hn)).2 _ (List.getElem_mem hw)).1).2
 dsimp only
 omega
theorem ufk {t : bd} (ht : ck t = true) : ∀ x ∈ dq t, ∀ E W, Rs E W (clP x) (encP x) := fun x hx E W => by
 have hb := ua5 ht (allP_mem.1 (List.mem_map.2 ⟨x, hx, rfl⟩))
 have hw := ufi ht hx
 exact Rs.cons ((Rs.cons (.v (jf (by omega))) (Rs.cons (.v (jf (by omega))) (Rs.cons (.v (jf (by omega))) Rs.nil))).agg (by intro c hc; simp only [List.mem_cons, List.not_mem_nil, or_false] at hc; rcases hc with rfl | rfl | rfl <;> rfl)) (Rs.cons (.v (okV_str.2 (by omega))) Rs.nil)
end Go.AB
namespace Go.Proofs.YthboenlglkmnjaaDoor
set_option maxRecDepth 10000
open Go.RowKit Go.AB
open Go.AB.Enc (cells)
open Go.PB (Chap bd PlaceD bh CopyD bw)
theorem uct (t : bd) (G : Nat → Option GObj) (nx : Nat) : PC Tryd.prog 30 [.elem [lst t]] G nx fun r' G' nx' => r' = .fn (.func 49) [.elem [.elem [lst t]]] ∧ G' = G ∧ nx' = nx := by
 refine je (G) (nx) Tryd.func30 rfl (.fn (cv (.elem (cv (.elem (cv (ce _ _) de)) de)) de)) zN (fun hlt => zH) ?_
 simp only [Tryd.ntmps30, List.length_cons, List.length_nil, Nat.reduceAdd, Nat.reduceSub]
 refine b9 fun hlt => ?_
 dsimp only at hlt
 refine aj fun K1 hK1 => ?_
 refine aq ?_
 try dsimp only [St.put]
 refine av rfl (cw rfl rfl (by simp) ?_)
 refine ae rfl (ax rfl (by constructor)) ?_
 refine am ?_
 dsimp only [St.put]
 refine hK1 _ ?_
 refine aj fun K2 hK2 => ?_
 refine aq ?_
 refine ae rfl (pt rfl rfl) ?_
 refine ae rfl (ax rfl (by constructor)) ?_
 refine am ?_
 dsimp only [St.put]
 refine hK2 _ ?_
 refine bk ?_
 refine bo rfl (by constructor) zN zS ?_
 rfl
end Go.Proofs.YthboenlglkmnjaaDoor
namespace Go.AB
open Go Go.RowKit
open Go.AB.Enc (cells)
open Go.PB (Chap bd PlaceD bh CopyD bw)
/-! ### The order of words -/
/-! ### What the functions give -/
def ii (t : bd) (p : PlaceD) : ByteArray := ((dm t (p.ch, p.ln)).getD [])[p.wd.toNat]?.getD ByteArray.empty
theorem y6 {t : bd} {x : PW} (hx : x ∈ dq t) : ii t x.1 = x.2 := by
 unfold dq at hx
 obtain ⟨l, hl, h1⟩ := List.mem_flatten.1 hx
 obtain ⟨k, hk, rfl⟩ := List.mem_mapIdx.1 hl
 unfold iq at h1
 obtain ⟨l2, hl2, h2⟩ := List.mem_flatten.1 h1
 obtain ⟨n, hn, rfl⟩ := List.mem_mapIdx.1 hl2
 unfold iy at h2
 obtain ⟨w, hw, rfl⟩ := List.mem_mapIdx.1 h2
 unfold ii
 dsimp only
 rw [o9 (List.getElem?_eq_getElem hk) (List.getElem?_eq_getElem hn)]
 simp [hw]
end Go.AB
namespace Go.AB
open Go Go.RowKit
open Go.AB.Enc (cells)

/-! ### Only some names are kept -/
/-! ### What an iterator may turn -/
/-- The turn of the iterator's map. -/
theorem Ev.turnM {E E1 : Env} {w W W' : World} {G0 : Nat → Option GObj} {nx0 : Nat} (hs : SimG E w G0 nx0) (hev : Ev E w E1 W) (hfr : ∀ b, W.heap.size ≤ b → E1.L b = 0) {r : Nat} {o o' : Obj} (hM : ∃ n t, E.T n = some t ∧ blk t.2.2 = some r) (hun : ∀ n t, E1.T n = some t → blk t.2.2 ≠ some r) (hg : W.grownBy W' (some r))
  (ho : W.heap[r]? = some o) (hoc : o.isCells = false) (ho' : W'.heap[r]? = some o') (hoc' : o'.isCells = false) : Ev E w E1 W' ∧ ∀ b i, i < E1.L b → W'.cell? ⟨b, i, none⟩ = W.cell? ⟨b, i, none⟩ := by
 have hsz := hev.below.size
 obtain ⟨n0, t0, hn0, hb0⟩ := hM
 have hB := hs.tb n0 t0.1 t0.2.1 t0.2.2 r hn0 hb0
 have hoth : ∀ b, b < W.heap.size → b ≠ r → W'.heap[b]? = W.heap[b]? := fun b hb hne => hg.block b hb fun e => hne (Option.some.inj e)
 have hcell : ∀ b i, i < E1.L b → W'.cell? ⟨b, i, none⟩ = W.cell? ⟨b, i, none⟩ := fun b i hi => by
  by_cases e : b = r
  ·subst e; rw [sc ho hoc, sc ho' hoc']
  ·have hlt : b < W.heap.size := Nat.lt_of_not_le fun hle => by have := hfr b hle; omega
   exact World.cell?_of_block (w := W) (hoth b hlt e)
 refine ⟨⟨⟨hg.os.trans hev.below.os, hg.tape.trans hev.below.tape, hg.output.trans hev.below.output, Nat.le_trans hsz hg.size, fun k hk => (hoth k (by have := hs.base; omega) (by omega)).trans (hev.below.block k hk)⟩, hev.B, hev.L,
  fun b i hi => (hcell b i (Nat.lt_of_lt_of_le hi (hev.L b))).trans (hev.cell b i hi), hev.nx, fun n hn' ver' wv' val' h3 => ?_, hev.wv,
  ⟨hev.x.F, fun b hb => ?_, fun b ob hob hu => (hoth b (by have := (Array.getElem?_eq_some_iff.1 hob).1; omega) (fun e => hu n0 t0 hn0 (e ▸ hb0))).trans (hev.x.oth b ob hob hu), fun b ob hob => ?_, hev.x.nb, fun n t t' b hn' q1 q2 q3 q4 => ?_⟩⟩, hcell⟩
 ·obtain ⟨ver, wv, val, q1, q2, q3⟩ := hev.T n hn' _ _ _ h3
  refine ⟨ver, wv, val, q1, q2, fun e => ⟨(q3 e).1, fun e2 b hb => (hoth b ?_ fun e3 => ?_).trans ((q3 e).2 e2 b hb)⟩⟩
  ·have := (hs.tb n _ _ _ b q1 hb).2; omega
  ·subst e3
   exact hun n _ h3 (by rw [← (q3 e).1]; exact hb)
 ·obtain ⟨v, hv⟩ := hev.x.lc b hb
  exact ⟨v, (hcell b 0 (by omega)).trans hv⟩
 ·obtain ⟨o1, h1, h2⟩ := hev.x.ic b ob hob
  by_cases e : b = r
  ·subst e
   rw [ho] at h1; cases h1
   exact ⟨o', ho', by rw [← h2, hoc, hoc']⟩
  ·exact ⟨o1, (hoth b (Array.getElem?_eq_some_iff.1 h1).1 e).trans h1, h2⟩
 ·obtain ⟨o2, q5, q6⟩ := hev.x.mv n t t' b hn' q1 q2 q3 q4
  exact ⟨o2, (hoth b (Array.getElem?_eq_some_iff.1 q5).1 fun e => hun n t' q2 (e ▸ q4)).trans q5, q6⟩
/-- What is owned, between two rounds. -/
def OwnM (rm : Option Nat) (B0 : Nat) (X : Nat → Prop) (E : Env) (w : World) (G : Nat → Option GObj) (nx : Nat) (W : World) : Prop :=
 ∃ E1, Ev E w E1 W ∧ SimG E1 W G nx ∧ NCB nx w.heap.size E1 W ∧ (∀ r, rm = some r → (∃ o : Obj, W.heap[r]? = some o ∧ o.isCells = false) ∧ ∀ n t, E1.T n = some t → blk t.2.2 ≠ some r) ∧
  ∀ b, X b → B0 ≤ b ∧ b < W.heap.size ∧ ∀ n t, E1.T n = some t → blk t.2.2 ≠ some b
theorem OwnM.turn {rm : Option Nat} {B0 : Nat} {X : Nat → Prop} {E : Env} {w : World} {G0 : Nat → Option GObj} {nx0 : Nat} (hs : SimG E w G0 nx0) (hrm : ∀ r, rm = some r → ∃ n t, E.T n = some t ∧ blk t.2.2 = some r) {G : Nat → Option GObj} {nx : Nat} {W W' : World} {row : Option Nat} (h : OwnM rm B0 X E w G nx W) (hB : B0 ≤ W.heap.size) (hg : W.grownBy W' row)
  (hr : ∀ r, row = some r → (∃ o : Obj, W.heap[r]? = some o ∧ o.isCells = false) ∧ (w.heap.size ≤ r ∨ (rm = some r ∧ ∃ o' : Obj, W'.heap[r]? = some o' ∧ o'.isCells = false))) : OwnM rm B0 (fun b => X b ∨ (W.heap.size ≤ b ∧ b < W'.heap.size)) E w G nx W' := by
 obtain ⟨E1, hev, hs1, hn, hm, hX⟩ := h
 have hnx := hs1.nx
 have fin : (Ev E w E1 W' ∧ ∀ b i, i < E1.L b → W'.cell? ⟨b, i, none⟩ = W.cell? ⟨b, i, none⟩) → (∀ n t b, E1.T n = some t → blk t.2.2 = some b → row ≠ some b) → (∀ r, rm = some r → ∃ o : Obj, W'.heap[r]? = some o ∧ o.isCells = false) → OwnM rm B0 (fun b => X b ∨ (W.heap.size ≤ b ∧ b < W'.heap.size)) E w G nx W' := by
  rintro ⟨hev', hcell⟩ hne hm'
  have hblk : ∀ n t b, E1.T n = some t → blk t.2.2 = some b → W'.heap[b]? = W.heap[b]? := fun n t b ht hb => hg.block b (hs1.tb n t.1 t.2.1 t.2.2 b ht hb).2 fun e => hne n t b ht hb e.symm
  refine ⟨E1, hev', hs1.heap hcell hblk hg.size, fun n t b o hlt ht hb ho hf => hn n t b o hlt ht hb ((hblk n t b ht hb).symm.trans ho) hf, fun r e => ⟨hm' r e, (hm r e).2⟩, fun b hb => ?_⟩
  rcases hb with hb | ⟨h1, h2⟩
  ·exact ⟨(hX b hb).1, Nat.lt_of_lt_of_le (hX b hb).2.1 hg.size, (hX b hb).2.2⟩
  ·refine ⟨Nat.le_trans hB h1, h2, fun n t ht hb => ?_⟩
   have := (hs1.tb n t.1 t.2.1 t.2.2 b ht hb).2
   omega
 cases row with
 | none =>
  refine fin (hev.turn hs hs1.fresh hg fun r e => by cases e) (fun _ _ _ _ _ e => by cases e) fun r e => ?_
  obtain ⟨⟨o, h1, h2⟩, _⟩ := hm r e
  exact ⟨o, (hg.block r (Array.getElem?_eq_some_iff.1 h1).1 (by simp)).trans h1, h2⟩
 | some r =>
  obtain ⟨⟨o, h1, h2⟩, h3⟩ := hr r rfl
  by_cases hle : w.heap.size ≤ r
  ·refine fin (hev.turn hs hs1.fresh hg fun r' e => by cases e; exact ⟨hle, o, h1, h2⟩) (fun n t b ht hb e => ?_) fun r' e => ?_
   ·cases e
    have := hn n t r o (hnx ▸ hs1.lt n t ht) ht hb h1 h2
    omega
   ·obtain ⟨⟨o', h4, h5⟩, _⟩ := hm r' e
    obtain ⟨n0, t0, q1, q2⟩ := hrm r' e
    have := (hs.tb n0 t0.1 t0.2.1 t0.2.2 r' q1 q2).2
    exact ⟨o', (hg.block r' (Array.getElem?_eq_some_iff.1 h4).1 (by intro e2; cases e2; omega)).trans h4, h5⟩
  ·obtain ⟨e, o', h4, h5⟩ := h3.resolve_left hle
   refine fin (hev.turnM hs hs1.fresh (hrm r e) (hm r e).2 hg h1 h2 h4 h5) (fun n t b ht hb e2 => ?_) fun r' e2 => ?_
   ·cases e2
    exact (hm r e).2 n t ht hb
   ·rw [e] at e2; cases e2
    exact ⟨o', h4, h5⟩
theorem OwnM.base {rm : Option Nat} {B0 B1 : Nat} {X : Nat → Prop} {E : Env} {w : World} {G : Nat → Option GObj} {nx : Nat} {W : World} (h : OwnM rm B0 X E w G nx W) : OwnM rm B1 (fun _ => False) E w G nx W :=
 let ⟨E1, h1, h2, h3, h4, _⟩ := h; ⟨E1, h1, h2, h3, h4, fun _ hb => hb.elim⟩
theorem OwnM.fewer {rm : Option Nat} {B0 : Nat} {X Y : Nat → Prop} {E : Env} {w : World} {G : Nat → Option GObj} {nx : Nat} {W : World} (h : OwnM rm B0 X E w G nx W) (hY : ∀ b, Y b → X b) : OwnM rm B0 Y E w G nx W :=
 let ⟨E1, h1, h2, h3, h4, h5⟩ := h; ⟨E1, h1, h2, h3, h4, fun b hb => h5 b (hY b hb)⟩
theorem OwnM.put {rm : Option Nat} {B0 : Nat} {X : Nat → Prop} {E : Env} {w : World} {G0 : Nat → Option GObj} {nx0 : Nat} (hs : SimG E w G0 nx0) (hrm : ∀ r, rm = some r → ∃ n t, E.T n = some t ∧ blk t.2.2 = some r) {G : Nat → Option GObj} {nx : Nat} {W : World} {l : Nat} {o : Obj} (h : OwnM rm B0 X E w G nx W) (hB : B0 ≤ W.heap.size) (hl : w.heap.size ≤ l) (ho : W.heap[l]? = some o) (hf : o.isCells = false) (o' : Obj) : OwnM rm B0 X E w G nx (W.putObj l o') :=
 (h.turn hs hrm hB (grownBy_putObj' W l o') (fun r e => by cases e; exact ⟨⟨o, ho, hf⟩, .inl hl⟩)).fewer fun b hb => .inl hb
theorem NCB.mono {m m' B : Nat} {E : Env} {W : World} (h : NCB m B E W) (hm : m' ≤ m) : NCB m' B E W := fun n t b o hlt => h n t b o (by omega)

end Go.AB
namespace Go.AB
open Go Go.RowKit
open Go.AB.Enc (cells)
open Go.PB (Chap bd PlaceD bh CopyD bw)
section
variable {P : Program} {kt rt : TypeId} {G0 : Nat → Option GObj} {M base : Nat} {zs : List PW} {x : PW}
end
end Go.AB
namespace Go.Proofs.YthboenlglkmnjaaDoor
set_option maxRecDepth 10000
open Go.RowKit Go.AB
open Go.AB.Enc (cells)
open Go.PB (Chap bd PlaceD bh CopyD bw)
end Go.Proofs.YthboenlglkmnjaaDoor
namespace Go.AB
open Go Go.RowKit
open Go.AB.Enc (cells)
open Go.PB (Chap bd PlaceD bh CopyD bw)
end Go.AB
namespace Go.Proofs.YthboenlglkmnjaaDoor
set_option maxRecDepth 10000
open Go.RowKit Go.AB
open Go.AB.Enc (cells)
open Go.PB (Chap bd PlaceD bh CopyD bw)
theorem ucm (t : bd) (ht : ck t = false) : Pure Tryd.prog 26 [dn t] (.tup [.v (.pointer none), .v (.int .i64 10)]) := by
 have := sj t
 rwa [show j1 t = .v (.pointer none) by simp [j1, ht], show fy t = 10 by simp [fy, ht]] at this
theorem ucl (t : bd) (ht : ck t = true) : Pure Tryd.prog 26 [dn t] (.tup [.elem [lst t], .v (.int .i64 0)]) := by
 have := sj t
 rwa [show j1 t = .elem [lst t] by simp [j1, ht], show fy t = 0 by simp [fy, ht]] at this
end Go.Proofs.YthboenlglkmnjaaDoor
namespace Go.AB
open Go Go.RowKit Go.ChangeShapes Go.WideShapes
open Go.AB.Enc (cells)
open Go.PB (Chap bd PlaceD bh CopyD bw)
/-- What is read along a type is a datum. -/
class OpensE (P : Program) (t : TypeId) (α : Type) [Enc α] : Prop where
 n : P.cellsOf t = Enc.n α
 op : ∀ {H : Type} {enc : TypeId × Value → H} {w : World} {base : Nat} {spare : Nat → Bool} {held : Bool} {fuel : Nat} {cs : List Value} {x : DataW H × List MemPlace}, DataW.trod enc P w base spare held fuel t cs = some x → ∃ a : α, Rs (fk w) w (cells a) cs
def qg (P : Program) (t : TypeId) (k : IntKind) : Bool := match P.underlying t with | some (.int k') => k' == k && P.cellsOf t == 1 | _ => false
def rj (P : Program) (t : TypeId) : Bool := match P.underlying t with | some .string => P.cellsOf t == 1 | _ => false
def nt (P : Program) (t e : TypeId) : Bool := match P.underlying t with | some (.slice e') => e' == e && P.cellsOf t == 1 | _ => false
def ij (P : Program) (t : TypeId) (l : List (Nat × TypeId × Nat)) (n : Nat) : Bool := match P.underlying t with
 | some (.struct fs) => (fs.toList.map fun f => (f.offset, f.type, P.cellsOf f.type)) == l && P.cellsOf t == n
 | _ => false
theorem wfI64 {n : Int} (h : (Lit.int .i64 n).wf = true) : okV (.int .i64 n) = true := by
 simp [Lit.wf, IntKind.min, IntKind.max, IntKind.signed, IntKind.bits] at h
 exact jf ⟨by omega, by omega⟩
theorem wfU8 {n : Int} (h : (Lit.int .u8 n).wf = true) : okV (.int .u8 n) = true := by
 simp [Lit.wf, IntKind.min, IntKind.max, IntKind.signed, IntKind.bits] at h
 exact sa ⟨by omega, by omega⟩
section
variable {P : Program} {t e : TypeId}
theorem qf {k : IntKind} (h : qg P t k = true) : P.underlying t = some (.int k) ∧ P.cellsOf t = 1 := by
 unfold qg at h
 split at h
 ·rename_i k' he
  simp only [Bool.and_eq_true, beq_iff_eq] at h
  rw [he, h.1]; exact ⟨rfl, h.2⟩
 ·cases h
theorem t8 (h : rj P t = true) : P.underlying t = some .string ∧ P.cellsOf t = 1 := by
 unfold rj at h
 split at h
 ·rename_i he; exact ⟨he, by simpa using h⟩
 ·cases h
theorem rk (h : nt P t e = true) : P.underlying t = some (.slice e) ∧ P.cellsOf t = 1 := by
 unfold nt at h
 split at h
 ·rename_i k' he
  simp only [Bool.and_eq_true, beq_iff_eq] at h
  rw [he, h.1]; exact ⟨rfl, h.2⟩
 ·cases h
theorem Rs.single {E : Env} {w : World} {c : C} {v : Value} (h : R E w c v) : Rs E w [c] [v] := Rs.cons h Rs.nil
theorem Rs.single_inv {E : Env} {w : World} {c : C} {v : Value} (h : Rs E w [c] [v]) : R E w c v := h.2 0 c v rfl rfl
theorem OpensE.int (h : qg P t .i64 = true) : OpensE P t Int where
 n := (qf h).2
 op hx := by
  obtain ⟨n, rfl, _, h2⟩ := DataW.trod_int (qf h).1 hx
  exact ⟨n, Rs.single (.v (wfI64 h2))⟩
theorem OpensE.u8 (h : qg P t .u8 = true) : OpensE P t U8 where
 n := (qf h).2
 op hx := by
  obtain ⟨n, rfl, _, h2⟩ := DataW.trod_int (qf h).1 hx
  exact ⟨⟨n⟩, Rs.single (.v (wfU8 h2))⟩
theorem OpensE.str (h : rj P t = true) : OpensE P t ByteArray where
 n := (t8 h).2
 op hx := by
  obtain ⟨s, rfl, _, h2⟩ := DataW.trod_string (t8 h).1 hx
  exact ⟨s, Rs.single (.v (okV_str.2 (by simpa [maxLen] using h2)))⟩
theorem uaa {w : World} {a : Addr} {v : Value} (h : w.cell? a = some v) : a.spot = none := by
 unfold World.cell? at h
 split at h
 ·split at h
  ·cases h
  ·rename_i hs
   cases hsp : a.spot with
   | none => rfl
   | some s => simp [hsp] at hs
 ·cases h
theorem wl {α : Type} {p : Nat → α → Prop} : ∀ (n : Nat), (∀ i, i < n → ∃ x, p i x) → ∃ xs : List α, xs.length = n ∧ ∀ i x, xs[i]? = some x → p i x
 | 0, _ => ⟨[], rfl, fun i x h => by simp at h⟩
 | n + 1, h => by
  obtain ⟨xs, h1, h2⟩ := wl n fun i hi => h i (by omega)
  obtain ⟨y, hy⟩ := h n (by omega)
  refine ⟨xs ++ [y], by simp [h1], fun i x hx => ?_⟩
  by_cases hi : i < xs.length
  ·rw [List.getElem?_append_left hi] at hx; exact h2 i x hx
  ·rw [List.getElem?_append_right (by omega)] at hx
   have hz : i - xs.length = 0 := by
    have := (List.getElem?_eq_some_iff.1 hx).1
    simp at this; omega
   rw [hz] at hx
   simp at hx
   subst hx
   rw [show i = n by omega]; exact hy
theorem uk {α : Type} [Enc α] {E : Env} {w : World} {b : Nat} : ∀ (xs : List α) (off : Nat), (∀ i x, xs[i]? = some x → ∃ es, Rs E w (cells x) es ∧ ∀ j e, es[j]? = some e → w.cell? ⟨b, off + i * Enc.n α + j, none⟩ = some e) →
  ∃ us, Rs E w (xs.map cells).flatten us ∧ ∀ j u, us[j]? = some u → w.cell? ⟨b, off + j, none⟩ = some u
 | [], off, _ => ⟨[], Rs.nil, by simp⟩
 | x :: xs, off, h => by
  obtain ⟨es, h1, h2⟩ := h 0 x rfl
  obtain ⟨us, h3, h4⟩ := uk xs (off + Enc.n α) fun i y hy => by
   obtain ⟨fs, k1, k2⟩ := h (i + 1) y (by simpa using hy)
   exact ⟨fs, k1, fun j e he => by rw [← k2 j e he]; congr 2; rw [Nat.add_mul]; omega⟩
  have hl : es.length = Enc.n α := by rw [h1.1]; exact Enc.len x
  refine ⟨es ++ us, by rw [List.map_cons, List.flatten_cons]; exact h1.append h3, fun j u hu => ?_⟩
  by_cases hj : j < es.length
  ·rw [List.getElem?_append_left hj] at hu
   rw [← h2 j u hu]; congr 2; omega
  ·rw [List.getElem?_append_right (by omega)] at hu
   rw [← h4 _ u hu]; congr 2; omega
theorem OpensE.slice {α : Type} [Enc α] [o : OpensE P e α] (h : nt P t e = true) (hpos : 1 ≤ Enc.n α) : OpensE P t (List α) where
 n := (rk h).2
 op {H enc w base spare held fuel cs x} hx := by
  rcases Deep.open_slice (rk h).1 hx with ⟨rfl, _⟩ | ⟨a, len, cap, m, n, D, Pl, rfl, hb, hl, hm, hmm, _, hel⟩
  ·refine ⟨[], Rs.single ?_⟩
   exact R.mk_list (rows := []) (sz := 1) (us := []) (Nat.le_refl _) (Nat.zero_le _) (Nat.le_refl _) (by simp) (by simp) Rs.nil (.inl rfl) (by simp) (by simp) (by simp)
  ·have hlm : len ≤ m := by rw [hmm]; split <;> omega
   have hs : 0 < len → a.spot = none := fun h0 => by
    obtain ⟨cs', hc, ht⟩ := hel 0 (by omega)
    obtain ⟨_, hlen, hcell⟩ := World.cells?_some hc
    rw [o.n] at hlen hcell
    have := hcell 0 (by omega)
    rw [List.getElem?_eq_getElem (by omega)] at this
    have := uaa this
    simpa [Addr.add] using this
   obtain ⟨xs, h1, h2⟩ := wl (p := fun i (y : α) => ∃ es, Rs (fk w) w (cells y) es ∧ ∀ j e, es[j]? = some e → w.cell? ⟨a.block, a.off + i * Enc.n α + j, none⟩ = some e) len fun i hi => by
    obtain ⟨cs', hc, ht⟩ := hel i (by omega)
    obtain ⟨y, hy⟩ := o.op ht
    obtain ⟨_, hlen, hcell⟩ := World.cells?_some hc
    rw [o.n] at hlen hcell hc
    have hs' := hs (by omega)
    refine ⟨y, cs', hy, fun j u hj => ?_⟩
    have hj' : j < Enc.n α := by rw [← hlen]; exact (List.getElem?_eq_some_iff.1 hj).1
    have := hcell j hj'
    rw [hj] at this
    rw [← this]
    obtain ⟨ab, ao, asp⟩ := a
    dsimp only at hs'
    subst hs'
    rw [lz, lz]
   subst h1
   refine ⟨xs, Rs.single ?_⟩
   obtain ⟨us, k1, k2⟩ := uk (E := fk w) (w := w) (b := a.block) xs a.off h2
   have := R.mk_list (E := fk w) (w := w) (rows := xs.map cells) (a := some a) (cap := cap) (sz := Enc.n α) (us := us) (tok := .none) (by simpa using hl) hm hpos (i5 xs) (fun r hr c hc => by
    obtain ⟨x, _, rfl⟩ := List.mem_map.1 hr
    exact Enc.one x c hc) k1 (by
    by_cases hxs : xs = []
    ·subst hxs; exact .inl rfl
    ·right
     have hs' := hs (List.length_pos_iff.2 hxs)
     obtain ⟨ab, ao, asp⟩ := a
     dsimp only at hs'
     subst hs'
     refine ⟨ab, ao, rfl, ?_, k2⟩
     have h0 : 0 < us.length := by
      rw [k1.1, i0 (i5 xs), List.length_map]
      exact Nat.mul_pos (List.length_pos_iff.2 hxs) hpos
     have := qs (k2 (us.length - 1) _ (List.getElem?_eq_getElem (by omega)))
     dsimp only at this
     show ao + us.length ≤ ki w ab
     omega) (by simp) (by simp) (by simp)
   rw [List.length_map] at this
   exact this
theorem t9 {l : List (Nat × TypeId × Nat)} {n : Nat} (h : ij P t l n = true) {H : Type} {enc : TypeId × Value → H} {w : World} {base : Nat} {spare : Nat → Bool} {held : Bool} {fuel : Nat} {cs : List Value} {x : DataW H × List MemPlace}
  (hx : DataW.trod enc P w base spare held fuel t cs = some x) : cs.length = n ∧ ∀ p ∈ l, ∃ m y, DataW.trod enc P w base spare held m p.2.1 ((cs.drop p.1).take p.2.2) = some y := by
 unfold ij at h
 split at h
 ·rename_i fs he
  simp only [Bool.and_eq_true, beq_iff_eq] at h
  obtain ⟨xs, m, _, _, hl, hlen, hf⟩ := DataW.trod_struct he hx
  refine ⟨by rw [hl, h.2], fun p hp => ?_⟩
  rw [← h.1] at hp
  obtain ⟨f, hfm, rfl⟩ := List.mem_map.1 hp
  obtain ⟨i, hi⟩ := List.getElem?_of_mem hfm
  have hi' : fs[i]? = some f := by simpa using hi
  have hlt : i < xs.length := by rw [hlen]; exact (Array.getElem?_eq_some_iff.1 hi').1
  exact ⟨m, xs[i], by rw [← List.getElem?_eq_getElem hlt]; exact hf i f hi'⟩
 ·cases h
theorem pa {l : List (Nat × TypeId × Nat)} {n : Nat} (h : ij P t l n = true) : P.cellsOf t = n ∧ ∃ fs, P.underlying t = some (.struct fs) := by
 unfold ij at h
 split at h
 ·rename_i fs he
  simp only [Bool.and_eq_true, beq_iff_eq] at h
  exact ⟨h.2, fs, he⟩
 ·cases h
/-- A struct of one field. -/
theorem OpensE.one {α : Type} [Enc α] [o : OpensE P e α] (h : ij P t [(0, e, Enc.n α)] (Enc.n α) = true) : OpensE P t α where
 n := (pa h).1
 op {H enc w base spare held fuel cs x} hx := by
  obtain ⟨hl, hp⟩ := t9 h hx
  obtain ⟨m, y, hy⟩ := hp _ (List.mem_cons_self ..)
  obtain ⟨a, ha⟩ := o.op hy
  dsimp only at ha
  rw [List.drop_zero, List.take_of_length_le (by omega)] at ha
  exact ⟨a, ha⟩
/-- A struct, field by field. -/
theorem OpensE.struct {α : Type} [Enc α] {l : List (Nat × TypeId × Nat)} (h : ij P t l (Enc.n α) = true)
  (b : ∀ (w : World) (cs : List Value), cs.length = Enc.n α → (∀ p ∈ l, ∀ (β : Type) (_ : Enc β), OpensE P p.2.1 β → ∃ a : β, Rs (fk w) w (cells a) ((cs.drop p.1).take p.2.2)) → ∃ a : α, Rs (fk w) w (cells a) cs) : OpensE P t α where
 n := (pa h).1
 op {H enc w base spare held fuel cs x} hx := by
  obtain ⟨hl, hp⟩ := t9 h hx
  exact b w cs hl fun p hpl β _ o => let ⟨_, _, hy⟩ := hp p hpl; o.op hy
theorem OpensE.chap {tI tL : TypeId} [oI : OpensE P tI Int] [oL : OpensE P tL (List (List ByteArray))] (h : ij P t [(0, tI, 1), (1, tL, 1)] 2 = true) : OpensE P t Chap :=
 .struct (α := Chap) h fun w cs hl hp => by
  obtain ⟨a, ha⟩ := hp (0, tI, 1) (by simp) Int inferInstance oI
  obtain ⟨b, hb⟩ := hp (1, tL, 1) (by simp) (List (List ByteArray)) inferInstance oL
  match cs, hl with
  | [u, v], _ => exact ⟨⟨a, b⟩, Rs.cons (Rs.single_inv ha) hb⟩
theorem OpensE.place {tI : TypeId} [oI : OpensE P tI Int] (h : ij P t [(0, tI, 1), (1, tI, 1), (2, tI, 1)] 3 = true) : OpensE P t PlaceD :=
 .struct (α := PlaceD) h fun w cs hl hp => by
  obtain ⟨a, ha⟩ := hp (0, tI, 1) (by simp) Int inferInstance oI
  obtain ⟨b, hb⟩ := hp (1, tI, 1) (by simp) Int inferInstance oI
  obtain ⟨c, hc⟩ := hp (2, tI, 1) (by simp) Int inferInstance oI
  match cs, hl with
  | [u, v, x], _ => exact ⟨⟨a, b, c⟩, Rs.cons (Rs.single_inv ha) (Rs.cons (Rs.single_inv hb) hc)⟩
/-- An argument that is a struct; a number. -/
theorem OpensE.arg {α : Type} [Enc α] [o : OpensE P t α] {l : List (Nat × TypeId × Nat)} {n : Nat} (h : ij P t l n = true) {H : Type} {enc : TypeId × Value → H} {w : World} {base : Nat} {spare : Nat → Bool} {held : Bool} {r : Reach} {b0 : Nat} {v : Value} {d : DataW H} {ps : List MemPlace}
  (hv : Value.okWide P w r b0 t v) (hd : DataW.Trod enc P w base spare held t v d ps) : ∃ a : α, R (fk w) w (.agg (cells a)) v := by
 obtain ⟨fs, hs⟩ := (pa h).2
 obtain ⟨cs, rfl, _⟩ := okWide_struct hs hv
 obtain ⟨fuel, hf⟩ := hd
 obtain ⟨a, ha⟩ := o.op hf
 exact ⟨a, by simpa [Value.cells] using Rs.agg ha (Enc.one a)⟩
end
theorem ucw {P : Program} {f : FuncId} {cs : List C} {v fv : Value} {fc : C} (hp : PureF (.fact fv fc) P f cs (.v v)) {w : World} {args : List Value} (hF : R (fk w) w fc fv) (hr : Rs (fk w) w cs args) :
  Calls P f args.toArray w fun e w' => e = .returned v ∧ Below w.heap.size w w' := by
 obtain ⟨E1, v1, g1⟩ := udr (y7 w) hF
 refine (hp _ _ (f5 _ _ _) E1 w args (hr.ev v1) g1).mono ?_
 rintro e w' ⟨r, x, E', G', nx', rfl, hev, hx, _, rfl, _⟩
 exact ⟨by rw [hx.v_inv], by have := hev.below; rw [v1.B] at this; exact this⟩
end Go.AB
namespace Go.AB
open Go Go.RowKit Go.ChangeShapes Go.WideShapes
open Go.AB.Enc (cells)
variable {P : Program} {o : Oper} {st : St}
theorem ub2 {s d : TypeId} {x : Operand} {k : IntKind} {n : Int} (ho : o.op = .convert s d x) (hx : evC st x = .v (.int k n)) (hs : (P.underlying s).isSome = true) (hd : P.underlying d = some (.int .i64)) (hn : -9223372036854775808 ≤ n ∧ n ≤ 9223372036854775807) : NStep P o st (.v (.int .i64 n)) := fun E w a h => by
 have e1 := (hx ▸ h.ev x).v_inv
 refine ⟨_, .v (jf hn), fun w' => ?_⟩
 have hk : P.intKind d = .i64 := by simp [Program.intKind, hd]
 have hw : IntKind.i64.wrap n = n := by rw [IntKind.wrap_i64]; omega
 have := run_convert_int (P := P) w' s d k n hs (by rw [hk]; exact hd)
 rw [hk, hw] at this
 simp [execOp, ho, e1, this]
end Go.AB
namespace Go.AB
open Go Go.RowKit
open Go.AB.Enc (cells)
open Go.PB (Chap bd PlaceD bh CopyD bw)
section
variable {t : bd} {c : CopyD} {k : Nat} {r : bh}
theorem qq (h : inB c.id 0 9999 = false) : eo t c = false := by simp [eo, h]
theorem qp (h : 20 < c.rs.length) : eo t c = false := by
 have : ¬ c.rs.length ≤ 20 := by omega
 simp [eo, this]
theorem mm (hx : c.rs[k]? = some r) (h : fo t r = false) : eo t c = false := by
 have : rsB t c.rs = false := by
  unfold rsB
  rw [gu hx h]; rfl
 simp [eo, this]
theorem s5 (h : fa (c.rs.take k) = false) : eo t c = false := by
 have : rsB t c.rs = false := by
  unfold rsB
  rw [ubj h, Bool.and_false]
 simp [eo, this]
theorem yc (h : p4 t c.rs = false) : eo t c = false := by simp [eo, h]
theorem copyB_true : eo t c = true ↔ inB c.id 0 9999 = true ∧ c.rs.length ≤ 20 ∧ rsB t c.rs = true ∧ p4 t c.rs = true := by
 unfold eo
 simp only [Bool.and_eq_true, decide_eq_true_eq, and_assoc]
def lnB (x : Chap) : Bool := x.lines.all fun l => inB l.length 1 10
theorem uce : p4 t c.rs = (c9 t c.rs).all lnB := rfl
theorem wj {x : Chap} : (x.lines.any fun l => !inB l.length 1 10) = !lnB x := by
 unfold lnB
 rw [List.any_eq_not_all_not]
 congr 1
 congr 1
 funext l
 simp
theorem uay {rs : List bh} {t : bd} (hv : rsB t rs = true) (hl : rs.length ≤ 20) (ch ln : Int) (l : List ByteArray) (hll : l.length ≤ 10) : (gz rs ch ln l).length ≤ 11 * 21 := by
 unfold gz
 rw [← pm hv]
 exact Nat.le_trans (List.length_filter_le _ _) (Nat.le_trans (my _ _ _ _ _) (Nat.mul_le_mul (by omega) (by omega)))
theorem uaz {rs : List bh} {t : bd} (ht : ck t = true) (hv : rsB t rs = true) (hl : rs.length ≤ 20) {j : Nat} {x : Chap} (hx : (c9 t rs)[j]? = some x) : ∀ y ∈ x.lines, y.length ≤ 100000 := fun y hy => by
 rw [rz] at hx
 obtain ⟨ch, hc, rfl⟩ := Option.map_eq_some_iff.1 hx
 obtain ⟨m, hm⟩ := List.getElem?_of_mem hy
 unfold ef at hm
 dsimp only at hm
 rw [List.getElem?_mapIdx] at hm
 obtain ⟨l, hl2, rfl⟩ := Option.map_eq_some_iff.1 hm
 have h1 := ((i3 ht).2.2 ch (dv hc)).2.2 l (dv hl2)
 have := uay hv hl (j : Int) (m : Int) l h1.2
 omega
theorem n6 (hx : c.rs[0]? = some r) : fa (c.rs.take (0 + 1)) = true := by
 rw [vu hx]
 simp [fa]
theorem vv {a : bh} (hx : c.rs[k]? = some r) (hk : k ≠ 0) (ha : c.rs[k - 1]? = some a) (ho : fa (c.rs.take k) = true) : fa (c.rs.take (k + 1)) = l7 a r := by
 rw [vu hx, ho, ha]
 simp [hk]
noncomputable def ec (t : bd) (c : CopyD) : Int := bif ck t then (bif eo t c then 0 else 11) else 10
noncomputable def gy (t : bd) (c : CopyD) : bd := bif decide (ec t c = 0) then c9 t c.rs else []
noncomputable def ju (t : bd) (c : CopyD) : C := bif decide (ec t c = 0) then .elem [lst t] else .v (.pointer none)
theorem ueh (t : bd) (c : CopyD) (m : Nat) : C.low m (ju t c) := by
 unfold ju
 cases decide (ec t c = 0)
 ·exact .v
 ·exact .elem fun d hd => by simp only [List.mem_singleton] at hd; subst hd; exact ce _ _
theorem copyEr_zero : ec t c = 0 ↔ ck t = true ∧ eo t c = true := by
 unfold ec
 cases ck t <;> cases eo t c <;> simp
end
end Go.AB
namespace Go.Proofs.YthboenlglkmnjaaDoor
set_option maxRecDepth 10000
open Go.RowKit Go.AB
open Go.AB.Enc (cells)
open Go.PB (Chap bd PlaceD bh CopyD bw)
set_option maxHeartbeats 4000000 in
theorem yl (n : Nat) (t : bd) (c : CopyD) (ht : ck t = true) : gx n gi Tryd.prog 29 [.elem [lst t], val c] (.v (.bool (eo t c))) := fun G nx hF hnx => by
 refine je (G) (nx) Tryd.func29 rfl (.v) zN (fun hlt => zH) ?_
 simp only [Tryd.ntmps29, List.length_cons, List.length_nil, Nat.reduceAdd, Nat.reduceSub]
 refine b9 fun hlt => ?_
 dsimp only at hlt
 obtain ⟨htx1, htx2, htx3⟩ := i3 ht
 refine fj 1 (fun hf => ?_)
 have hf0 := fit_lst.1 (fit_agg.1 hf _ (by exact List.mem_cons_of_mem _ (List.mem_cons_self ..)))
 have hfk : ∀ r ∈ c.rs, 0 ≤ r.kind ∧ r.kind ≤ 255 := fun r hr => by
  have := okV_int.1 (fit_v.1 (hf0.2 r hr _ (by exact List.mem_cons_of_mem _ (List.mem_cons_of_mem _ (List.mem_cons_of_mem _ (List.mem_cons_self ..))))))
  exact this
 have hf1 := hf0.1
 refine aj fun K1 hK1 => ?_
 refine aq ?_
 try dsimp only [St.put]
 refine av rfl (cw rfl rfl (by simp) ?_)
 refine ae rfl (ax rfl (by constructor)) ?_
 refine am ?_
 dsimp only [St.put]
 refine hK1 _ ?_
 refine aj fun K2 hK2 => ?_
 refine aj fun K3 hK3 => ?_
 refine aq ?_
 first | refine ae rfl (bg rfl rfl rfl) ?_ | refine ae rfl (bi rfl rfl) ?_
 try dsimp only [St.put]
 first | refine aa rfl (aw rfl rfl) ?_ | refine aa rfl (ah rfl rfl (Enc.len _)) ?_ | refine aa rfl (ah rfl rfl rfl) ?_ | refine aa rfl (a7 rfl rfl zG trivial (by first | rfl | assumption)) ?_ | refine aa rfl (az rfl rfl zG trivial (by rfl)) ?_ | refine aa rfl (a8 rfl rfl zG trivial (by simp)) ?_ | refine aa rfl (ai rfl rfl zG trivial (ay (by assumption) rfl)) ?_ | refine aa rfl (ai rfl rfl zG trivial (by assumption)) ?_ | refine aa rfl (a9 rfl rfl zG trivial rfl (by assumption) rfl (by decide)) ?_ | refine aa rfl (ba rfl rfl zG (by rfl)) ?_
 try dsimp only [St.put]
 refine av rfl (dx rfl rfl rfl (by decide) (by decide) zR (by decide) ?_)
 try dsimp only [St.put]
 refine av rfl (br rfl rfl rfl (jk _ _ [c.id]) ?_)
 refine ae rfl (dt rfl rfl) ?_
 refine et (fun hs => ?_) (fun hs => ?_)
 ·have h1 : inB c.id 0 9999 = false := by rw [fq] at hs; simpa using hs
  refine ae rfl (ar rfl (by constructor)) ?_
  refine bv rfl ?_
  refine bv rfl ?_
  refine bv rfl ?_
  refine bv rfl ?_
  first | refine ae rfl (bt rfl rfl (by constructor)) ?_ | refine ae rfl (bu rfl rfl (by constructor)) ?_ | refine ae rfl (b7 rfl rfl rfl rfl) ?_ | refine ae rfl (bz rfl rfl rfl rfl) ?_
  refine am ?_
  dsimp only [St.put]
  refine hK3 _ ?_
  refine bl rfl (fun _ => ?_) (fun h => by cases h)
  skip
  refine aj fun K4 hK4 => ?_
  refine aq ?_
  refine ae rfl (ax rfl (by constructor)) ?_
  refine am ?_
  dsimp only [St.put]
  refine hK4 _ ?_
  refine bk ?_
  refine bo rfl (by constructor) zN zS ?_
  first
  | exact vb (qq h1).symm
  | exact vb (qp (by have := of_decide_eq_true hc; omega)).symm
 ·have h1 : inB c.id 0 9999 = true := by rw [fq] at hs; simpa using hs
  refine ae rfl (ar rfl (by constructor)) ?_
  first | refine ae rfl (bg rfl rfl rfl) ?_ | refine ae rfl (bi rfl rfl) ?_
  try dsimp only [St.put]
  first | refine aa rfl (aw rfl rfl) ?_ | refine aa rfl (ah rfl rfl (Enc.len _)) ?_ | refine aa rfl (ah rfl rfl rfl) ?_ | refine aa rfl (a7 rfl rfl zG trivial (by first | rfl | assumption)) ?_ | refine aa rfl (az rfl rfl zG trivial (by rfl)) ?_ | refine aa rfl (a8 rfl rfl zG trivial (by simp)) ?_ | refine aa rfl (ai rfl rfl zG trivial (ay (by assumption) rfl)) ?_ | refine aa rfl (ai rfl rfl zG trivial (by assumption)) ?_ | refine aa rfl (a9 rfl rfl zG trivial rfl (by assumption) rfl (by decide)) ?_ | refine aa rfl (ba rfl rfl zG (by rfl)) ?_
  first | refine ae rfl (bj rfl rfl (List.length_map _)) ?_ | refine ae rfl (bj rfl rfl rfl) ?_ | refine ae rfl (b8 rfl rfl) ?_ | refine ae rfl (cd rfl rfl) ?_ | refine ae rfl (cb rfl rfl) ?_ | refine ae rfl (ca rfl rfl (by omega)) ?_
  refine ae rfl (g7 rfl rfl rfl) ?_
  first | refine ae rfl (bt rfl rfl (by constructor)) ?_ | refine ae rfl (bu rfl rfl (by constructor)) ?_ | refine ae rfl (b7 rfl rfl rfl rfl) ?_ | refine ae rfl (bz rfl rfl rfl rfl) ?_
  refine am ?_
  dsimp only [St.put]
  refine hK3 _ ?_
  refine bl rfl (fun hc => ?_) (fun hc => ?_)
  ·skip
   refine aj fun K5 hK5 => ?_
   refine aq ?_
   refine ae rfl (ax rfl (by constructor)) ?_
   refine am ?_
   dsimp only [St.put]
   refine hK5 _ ?_
   refine bk ?_
   refine bo rfl (by constructor) zN zS ?_
   first
   | exact vb (qq h1).symm
   | exact vb (qp (by have := of_decide_eq_true hc; omega)).symm
  ·have hl20 : c.rs.length ≤ 20 := by have := of_decide_eq_false hc; omega
   refine bn ?_
   refine hK2 _ ?_
   refine aj fun K6 hK6 => ?_
   refine aj fun K7 hK7 => ?_
   refine aq ?_
   first | refine ae rfl (bg rfl rfl rfl) ?_ | refine ae rfl (bi rfl rfl) ?_
   try dsimp only [St.put]
   first | refine aa rfl (aw rfl rfl) ?_ | refine aa rfl (ah rfl rfl (Enc.len _)) ?_ | refine aa rfl (ah rfl rfl rfl) ?_ | refine aa rfl (a7 rfl rfl zG trivial (by first | rfl | assumption)) ?_ | refine aa rfl (az rfl rfl zG trivial (by rfl)) ?_ | refine aa rfl (a8 rfl rfl zG trivial (by simp)) ?_ | refine aa rfl (ai rfl rfl zG trivial (ay (by assumption) rfl)) ?_ | refine aa rfl (ai rfl rfl zG trivial (by assumption)) ?_ | refine aa rfl (a9 rfl rfl zG trivial rfl (by assumption) rfl (by decide)) ?_ | refine aa rfl (ba rfl rfl zG (by rfl)) ?_
   first | refine ae rfl (bj rfl rfl (List.length_map _)) ?_ | refine ae rfl (bj rfl rfl rfl) ?_ | refine ae rfl (b8 rfl rfl) ?_ | refine ae rfl (cd rfl rfl) ?_ | refine ae rfl (cb rfl rfl) ?_ | refine ae rfl (ca rfl rfl (by omega)) ?_
   refine ae rfl (ar rfl (by constructor)) ?_
   refine am ?_
   dsimp only [St.put]
   refine hK7 _ ?_
   refine bq ?_
   refine cg 28 ?_
   refine zQ ?_
   refine cn (G) zX ?_
   dsimp only
   refine cz (X := Nat) (fun k => k ≤ c.rs.length ∧ (c.rs.take k).all (fo t) = true ∧ fa (c.rs.take k) = true) (fun k => c.rs.length - k) (fun k => [(5, .any), (6, .any), (7, .any), (8, .any), (9, .any), (10, .any), (27, .v (.int .i64 (k : Int)))]) (fun k G' => G') 0 rfl ?_ ?_ (fun _ _ h => h) ?_ ?_ ?_
   ·exact ⟨Nat.zero_le _, rfl, rfl⟩
   ·exact zF
   ·rintro k hI
    exact zL
   ·exact fun _ _ _ _ h => .inl h
   ·rintro k hI
    dsimp only at hI ⊢
    refine aj fun K8 hK8 => ?_
    refine aq ?_
    refine ae rfl (cj rfl rfl rfl) ?_
    refine am ?_
    dsimp only [St.put]
    refine hK8 _ ?_
    refine aj fun K9 hK9 => ?_
    refine bl rfl (fun hc => ?_) (fun hc => ?_)
    ·replace hc := of_decide_eq_true hc
     obtain ⟨r, hx⟩ : ∃ x, c.rs[k]? = some x := cm (by omega)
     have hkf := hfk r (dv hx)
     refine bn ?_
     refine hK9 _ ?_
     refine aj fun K10 hK10 => ?_
     refine bq ?_
     refine aj fun K11 hK11 => ?_
     refine aq ?_
     refine ae rfl (ar rfl (by constructor)) ?_
     try dsimp only [St.put]
     first | refine ae rfl (bf rfl rfl rfl rfl (bm (by assumption)) (Enc.len _)) ?_ | refine ae rfl (bf rfl rfl rfl rfl (by assumption) rfl) ?_ | refine ae rfl (cr rfl rfl rfl (by first | exact ct _ | exact rfl) (by omega)) ?_ | refine ae rfl (bf rfl rfl rfl (by omega) (bm (by assumption)) (Enc.len _)) ?_
     try dsimp only [St.put]
     first | refine aa rfl (aw rfl rfl) ?_ | refine aa rfl (ah rfl rfl (Enc.len _)) ?_ | refine aa rfl (ah rfl rfl rfl) ?_ | refine aa rfl (a7 rfl rfl zG trivial (by first | rfl | assumption)) ?_ | refine aa rfl (az rfl rfl zG trivial (by rfl)) ?_ | refine aa rfl (a8 rfl rfl zG trivial (by simp)) ?_ | refine aa rfl (ai rfl rfl zG trivial (ay (by assumption) rfl)) ?_ | refine aa rfl (ai rfl rfl zG trivial (by assumption)) ?_ | refine aa rfl (a9 rfl rfl zG trivial rfl (by assumption) rfl (by decide)) ?_ | refine aa rfl (ba rfl rfl zG (by rfl)) ?_
     try dsimp only [St.put]
     refine av rfl (di rfl ?_)
     refine ae rfl (ax rfl (by constructor)) ?_
     try dsimp only [St.put]
     first | refine av rfl (c8 rfl rfl rfl zG rfl rfl (by rfl) ?_) | refine av rfl (dh rfl rfl rfl zG (by constructor) rfl zO ?_)
     refine am ?_
     dsimp only [St.put]
     refine hK11 _ ?_
     refine ep (i := 6) rfl zG zC ?_
     dsimp only
     refine aj fun K12 hK12 => ?_
     refine aq ?_
     refine ae rfl (ar rfl (by constructor)) ?_
     first | refine ae rfl (bg rfl rfl rfl) ?_ | refine ae rfl (bi rfl rfl) ?_
     try dsimp only [St.put]
     (refine aa rfl (c := val r.pl) (io (cs := cells r) rfl rfl (show 3 ≤ 5 by decide)) ?_)
     try dsimp only [St.put]
     refine av rfl (br rfl rfl rfl (p7 t r.pl ht) ?_)
     refine ae rfl (ax rfl (by constructor)) ?_
     refine am ?_
     dsimp only [St.put]
     refine hK12 _ ?_
     refine aj fun K13 hK13 => ?_
     refine aj fun K14 hK14 => ?_
     by_cases hw : dm t (r.pl.ch, r.pl.ln) = none
     ·rw [hw]
      dsimp only [Option.getD_none]
      refine aq ?_
      refine ae rfl (ar rfl (by constructor)) ?_
      first | refine ae rfl (bj rfl rfl (List.length_map _)) ?_ | refine ae rfl (bj rfl rfl rfl) ?_ | refine ae rfl (b8 rfl rfl) ?_ | refine ae rfl (cd rfl rfl) ?_ | refine ae rfl (cb rfl rfl) ?_ | refine ae rfl (ca rfl rfl (by omega)) ?_
      refine ae rfl (du (c := true) (dy rfl rfl rfl) (decide_eq_true rfl)) ?_
      refine ae rfl (ar rfl (by constructor)) ?_
      refine bv rfl ?_
      refine bv rfl ?_
      refine bv rfl ?_
      refine bv rfl ?_
      refine bv rfl ?_
      refine bv rfl ?_
      first | refine ae rfl (bt rfl rfl (by constructor)) ?_ | refine ae rfl (bu rfl rfl (by constructor)) ?_ | refine ae rfl (b7 rfl rfl rfl rfl) ?_ | refine ae rfl (bz rfl rfl rfl rfl) ?_
      refine am ?_
      dsimp only [St.put]
      refine hK14 _ ?_
      refine bl rfl (fun _ => ?_) (fun h => by cases h)
      refine aj fun K15 hK15 => ?_
      refine aq ?_
      refine ae rfl (ax rfl (by constructor)) ?_
      refine am ?_
      dsimp only [St.put]
      refine hK15 _ ?_
      refine bk ?_
      refine bo rfl (by constructor) zN zS ?_
      first
      | exact vb (mm hx (ry hw)).symm
      | exact vb (mm hx (uy hk)).symm
     ·obtain ⟨l, hw2⟩ := Option.ne_none_iff_exists'.1 hw
      rw [hw2]
      dsimp only [Option.getD_some]
      obtain ⟨_, _, _, _, hl1, hl10⟩ := nm ht hw2
      refine aq ?_
      refine ae rfl (ar rfl (by constructor)) ?_
      first | refine ae rfl (bj rfl rfl (List.length_map _)) ?_ | refine ae rfl (bj rfl rfl rfl) ?_ | refine ae rfl (b8 rfl rfl) ?_ | refine ae rfl (cd rfl rfl) ?_ | refine ae rfl (cb rfl rfl) ?_ | refine ae rfl (ca rfl rfl (by omega)) ?_
      refine ae rfl (du (dy rfl rfl rfl) (decide_eq_false (by omega))) ?_
      refine ae rfl (ar rfl (by constructor)) ?_
      first | refine ae rfl (bg rfl rfl rfl) ?_ | refine ae rfl (bi rfl rfl) ?_
      try dsimp only [St.put]
      first | refine aa rfl (aw rfl rfl) ?_ | refine aa rfl (ah rfl rfl (Enc.len _)) ?_ | refine aa rfl (ah rfl rfl rfl) ?_ | refine aa rfl (a7 rfl rfl zG trivial (by first | rfl | assumption)) ?_ | refine aa rfl (az rfl rfl zG trivial (by rfl)) ?_ | refine aa rfl (a8 rfl rfl zG trivial (by simp)) ?_ | refine aa rfl (ai rfl rfl zG trivial (ay (by assumption) rfl)) ?_ | refine aa rfl (ai rfl rfl zG trivial (by assumption)) ?_ | refine aa rfl (a9 rfl rfl zG trivial rfl (by assumption) rfl (by decide)) ?_ | refine aa rfl (ba rfl rfl zG (by rfl)) ?_
      refine ae rfl (ub2 rfl rfl (by kernel_rfl) (by kernel_rfl) (by omega)) ?_
      try dsimp only [St.put]
      refine av rfl (dx rfl rfl rfl (by decide) (by decide) zR (by decide) ?_)
      try dsimp only [St.put]
      refine av rfl (br rfl rfl rfl (jk _ _ [r.kind]) ?_)
      refine ae rfl (dt rfl rfl) ?_
      refine et (fun hs => ?_) (fun hs => ?_)
      ·have hk : inB r.kind 1 3 = false := by rw [fq] at hs; simpa using hs
       first | refine ae rfl (bt rfl rfl (by constructor)) ?_ | refine ae rfl (bu rfl rfl (by constructor)) ?_ | refine ae rfl (b7 rfl rfl rfl rfl) ?_ | refine ae rfl (bz rfl rfl rfl rfl) ?_
       refine am ?_
       dsimp only [St.put]
       refine hK14 _ ?_
       refine bl rfl (fun _ => ?_) (fun h => by cases h)
       refine aj fun K16 hK16 => ?_
       refine aq ?_
       refine ae rfl (ax rfl (by constructor)) ?_
       refine am ?_
       dsimp only [St.put]
       refine hK16 _ ?_
       refine bk ?_
       refine bo rfl (by constructor) zN zS ?_
       first
       | exact vb (mm hx (ry hw)).symm
       | exact vb (mm hx (uy hk)).symm
      ·have hk : inB r.kind 1 3 = true := by rw [fq] at hs; simpa using hs
       rw [inB_true] at hk
       obtain ⟨kk, hkk, hkk1, hkk3⟩ : ∃ kk : Nat, r.kind = (kk : Int) ∧ 1 ≤ kk ∧ kk ≤ 3 := ⟨r.kind.toNat, by omega, by omega, by omega⟩
       obtain ⟨fr, gm, rest, hknd, hFun, _, hpr, _⟩ := sk hkk1 hkk3
       have hrB := uaw t r hw2 hkk hkk1 hkk3
       have hbh : 0 ≤ jq kk ∧ jq kk ≤ 1 := by unfold jq; cases decide (kk = 2) <;> decide
       first | refine ae rfl (bt rfl rfl (by constructor)) ?_ | refine ae rfl (bu rfl rfl (by constructor)) ?_ | refine ae rfl (b7 rfl rfl rfl rfl) ?_ | refine ae rfl (bz rfl rfl rfl rfl) ?_
       refine am ?_
       dsimp only [St.put]
       refine hK14 _ ?_
       refine bl rfl (fun h => by cases h) (fun _ => ?_)
       refine bn ?_
       refine hK13 _ ?_
       refine aj fun K17 hK17 => ?_
       refine aq ?_
       first | refine ae rfl (bg rfl rfl rfl) ?_ | refine ae rfl (bi rfl rfl) ?_
       try dsimp only [St.put]
       first | refine aa rfl (aw rfl rfl) ?_ | refine aa rfl (ah rfl rfl (Enc.len _)) ?_ | refine aa rfl (ah rfl rfl rfl) ?_ | refine aa rfl (a7 rfl rfl zG trivial (by first | rfl | assumption)) ?_ | refine aa rfl (az rfl rfl zG trivial (by rfl)) ?_ | refine aa rfl (a8 rfl rfl zG trivial (by simp)) ?_ | refine aa rfl (ai rfl rfl zG trivial (ay (by assumption) rfl)) ?_ | refine aa rfl (ai rfl rfl zG trivial (by assumption)) ?_ | refine aa rfl (a9 rfl rfl zG trivial rfl (by assumption) rfl (by decide)) ?_ | refine aa rfl (ba rfl rfl zG (by rfl)) ?_
       try dsimp only [St.put]
       refine ae rfl (ko (j := n) (k := kk) rfl rfl zG rfl hkk (by omega) hknd) ?_
       try dsimp only [St.put]
       refine aa rfl (c := .agg [.v (.int .i64 (jq kk)), .fn (.func fr) [], .fn (.func gm) []]) (io (n := 3) (cs := .v (.int .i64 (jq kk)) :: .fn (.func fr) [] :: .fn (.func gm) [] :: rest) rfl rfl (by simp only [List.length_cons]; omega)) ?_
       try dsimp only [St.put]
       refine av rfl (di rfl ?_)
       try dsimp only [St.put]
       first | refine av rfl (c8 rfl rfl rfl zG rfl rfl (by rfl) ?_) | refine av rfl (dh rfl rfl rfl zG (by constructor) rfl zO ?_)
       refine am ?_
       dsimp only [St.put]
       refine hK17 _ ?_
       refine ep (i := 8) rfl zG zC ?_
       dsimp only
       refine aj fun K18 hK18 => ?_
       refine aj fun K19 hK19 => ?_
       refine kx [(0, none), (1, none), (2, none), (3, none), (4, none), (5, none), (6, none), (7, none), (8, none)] (fun _ => false) (fun i => [0, 1, 2, 3, 5, 6, 7].contains i) 16 (rl [9, 16]) (by kernel_rfl) (by kernel_rfl) ?_
       refine ak rfl rfl rfl rfl (ar rfl (by constructor)) ?_
       first | refine ak rfl rfl rfl rfl (bj rfl rfl (List.length_map _)) ?_ | refine ak rfl rfl rfl rfl (bj rfl rfl rfl) ?_ | refine ak rfl rfl rfl rfl (b8 rfl rfl) ?_ | refine ak rfl rfl rfl rfl (cd rfl rfl) ?_ | refine ak rfl rfl rfl rfl (cb rfl rfl) ?_ | refine ak rfl rfl rfl rfl (ca rfl rfl (by omega)) ?_
       first | refine ak rfl rfl rfl rfl (ip rfl rfl rfl (by omega)) ?_ | refine ak rfl rfl rfl rfl (jh rfl rfl rfl) ?_
       first | refine ak rfl rfl rfl rfl (bg rfl rfl rfl) ?_ | refine ak rfl rfl rfl rfl (bi rfl rfl) ?_
       try dsimp only [St.put]
       first | refine af rfl rfl rfl rfl (aw rfl rfl) ?_ | refine af rfl rfl rfl rfl (ah rfl rfl (Enc.len _)) ?_ | refine af rfl rfl rfl rfl (ah rfl rfl rfl) ?_ | refine af rfl rfl rfl rfl (a7 rfl rfl zG (by simp) (by first | rfl | assumption)) ?_ | refine af rfl rfl rfl rfl (az rfl rfl zG (by simp) (by rfl)) ?_ | refine af rfl rfl rfl rfl (a8 rfl rfl zG (by simp) (by simp)) ?_ | refine af rfl rfl rfl rfl (ai rfl rfl zG (by simp) (ay (by assumption) rfl)) ?_ | refine af rfl rfl rfl rfl (ai rfl rfl zG (by simp) (by assumption)) ?_ | refine af rfl rfl rfl rfl (a9 rfl rfl zG (by simp) rfl (by assumption) rfl (by decide)) ?_ | refine af rfl rfl rfl rfl (ba rfl rfl zG (by rfl)) ?_
       first | refine ak rfl rfl rfl rfl (bx rfl rfl rfl (by omega)) ?_ | refine ak rfl rfl rfl rfl (cp rfl rfl rfl) ?_
       first | refine ak rfl rfl rfl rfl (bg rfl rfl rfl) ?_ | refine ak rfl rfl rfl rfl (bi rfl rfl) ?_
       first | refine ak rfl rfl rfl rfl (bg rfl rfl rfl) ?_ | refine ak rfl rfl rfl rfl (bi rfl rfl) ?_
       try dsimp only [St.put]
       first | refine af rfl rfl rfl rfl (aw rfl rfl) ?_ | refine af rfl rfl rfl rfl (ah rfl rfl (Enc.len _)) ?_ | refine af rfl rfl rfl rfl (ah rfl rfl rfl) ?_ | refine af rfl rfl rfl rfl (a7 rfl rfl zG (by simp) (by first | rfl | assumption)) ?_ | refine af rfl rfl rfl rfl (az rfl rfl zG (by simp) (by rfl)) ?_ | refine af rfl rfl rfl rfl (a8 rfl rfl zG (by simp) (by simp)) ?_ | refine af rfl rfl rfl rfl (ai rfl rfl zG (by simp) (ay (by assumption) rfl)) ?_ | refine af rfl rfl rfl rfl (ai rfl rfl zG (by simp) (by assumption)) ?_ | refine af rfl rfl rfl rfl (a9 rfl rfl zG (by simp) rfl (by assumption) rfl (by decide)) ?_ | refine af rfl rfl rfl rfl (ba rfl rfl zG (by rfl)) ?_
       refine dc ?_
       refine dj [9] (by kernel_rfl) (by simp) ?_
       refine dz ?_ ?_
       ·try dsimp only [St.put]
        refine dr rfl rfl rfl (dx rfl rfl rfl (by decide) (by decide) zR (by decide) ?_)
        refine dj [10] (by kernel_rfl) (by simp) ?_
        refine dz ?_ ?_
        ·try dsimp only [St.put]
         refine dr rfl rfl rfl (br rfl rfl rfl (jk _ _ [r.pl.wd]) ?_)
         refine fm [(11, none), (12, none), (13, none), (14, none), (15, none), (16, none), (17, none), (18, none), (20, none), (21, none)] (fun i => [11, 12, 13, 15, 16, 17, 20].contains i) 4 (rl [19, 1, 2, 3]) (by kernel_rfl) ?_
         refine ak rfl rfl rfl rfl (dt rfl rfl) ?_
         refine k7 (fun hs => ?_) (fun hs => ?_)
         ·have hb : inB r.pl.wd 0 ((l.length : Int) - 1 + jq kk) = false := by rw [fq] at hs; simpa using hs
          refine ak rfl rfl rfl rfl (ar rfl (by constructor)) ?_
          refine bp rfl rfl rfl ?_
          refine bp rfl rfl rfl ?_
          refine bp rfl rfl rfl ?_
          refine bp rfl rfl rfl ?_
          refine bp rfl rfl rfl ?_
          refine bp rfl rfl rfl ?_
          refine bp rfl rfl rfl ?_
          refine bp rfl rfl rfl ?_
          refine dc ?_
          refine dj [19] (by kernel_rfl) (by simp) ?_
          refine dz ?_ ?_
          ·refine mp rfl rfl rfl ?_
           refine dj [22] (by kernel_rfl) (by simp) ?_
           refine dz ?_ ?_
           ·refine mp rfl rfl rfl ?_
            refine fm [(23, none), (24, none)] (fun i => [23, 24].contains i) 0 (rl [25]) (by kernel_rfl) ?_
            refine bp rfl rfl rfl ?_
            first | refine ak rfl rfl rfl rfl (bt rfl rfl (by constructor)) ?_ | refine ak rfl rfl rfl rfl (bu rfl rfl (by constructor)) ?_ | refine ak rfl rfl rfl rfl (b7 rfl rfl rfl rfl) ?_ | refine ak rfl rfl rfl rfl (bz rfl rfl rfl rfl) ?_
            refine dc ?_
            dsimp only [St.put]
            refine gw (by kernel_rfl) ?_
            refine hK19 _ ?_
            refine bl rfl (fun _ => ?_) (fun h => by cases h)
            have hrd : fo t r = false := by
             rw [hrB]
             first
              | (rw [hb]; rfl)
              | (rw [hb, Bool.true_and]; simpa using hc)
            refine aj fun K20 hK20 => ?_
            refine aq ?_
            refine ae rfl (ax rfl (by constructor)) ?_
            refine am ?_
            dsimp only [St.put]
            refine hK20 _ ?_
            refine bk ?_
            refine bo rfl (by constructor) zN zS ?_
            exact vb (mm hx hrd).symm
           exact d8
          exact d8
         ·have hb : inB r.pl.wd 0 ((l.length : Int) - 1 + jq kk) = true := by rw [fq] at hs; simpa using hs
          have hb2 := inB_true.1 hb
          have hown : Pure Tryd.prog 37 [lst l, .v (.int .i64 r.pl.wd)] (.v (.string (ci l r.pl.wd.toNat))) := by
           have := si l r.pl.wd.toNat (by omega)
           rwa [Int.toNat_of_nonneg hb2.1] at this
          refine ak rfl rfl rfl rfl (ar rfl (by constructor)) ?_
          first | refine ak rfl rfl rfl rfl (bg rfl rfl rfl) ?_ | refine ak rfl rfl rfl rfl (bi rfl rfl) ?_
          try dsimp only [St.put]
          first | refine af rfl rfl rfl rfl (aw rfl rfl) ?_ | refine af rfl rfl rfl rfl (ah rfl rfl (Enc.len _)) ?_ | refine af rfl rfl rfl rfl (ah rfl rfl rfl) ?_ | refine af rfl rfl rfl rfl (a7 rfl rfl zG (by simp) (by first | rfl | assumption)) ?_ | refine af rfl rfl rfl rfl (az rfl rfl zG (by simp) (by rfl)) ?_ | refine af rfl rfl rfl rfl (a8 rfl rfl zG (by simp) (by simp)) ?_ | refine af rfl rfl rfl rfl (ai rfl rfl zG (by simp) (ay (by assumption) rfl)) ?_ | refine af rfl rfl rfl rfl (ai rfl rfl zG (by simp) (by assumption)) ?_ | refine af rfl rfl rfl rfl (a9 rfl rfl zG (by simp) rfl (by assumption) rfl (by decide)) ?_ | refine af rfl rfl rfl rfl (ba rfl rfl zG (by rfl)) ?_
          refine ak rfl rfl rfl rfl (ar rfl (by constructor)) ?_
          first | refine ak rfl rfl rfl rfl (bg rfl rfl rfl) ?_ | refine ak rfl rfl rfl rfl (bi rfl rfl) ?_
          first | refine ak rfl rfl rfl rfl (bg rfl rfl rfl) ?_ | refine ak rfl rfl rfl rfl (bi rfl rfl) ?_
          try dsimp only [St.put]
          first | refine af rfl rfl rfl rfl (aw rfl rfl) ?_ | refine af rfl rfl rfl rfl (ah rfl rfl (Enc.len _)) ?_ | refine af rfl rfl rfl rfl (ah rfl rfl rfl) ?_ | refine af rfl rfl rfl rfl (a7 rfl rfl zG (by simp) (by first | rfl | assumption)) ?_ | refine af rfl rfl rfl rfl (az rfl rfl zG (by simp) (by rfl)) ?_ | refine af rfl rfl rfl rfl (a8 rfl rfl zG (by simp) (by simp)) ?_ | refine af rfl rfl rfl rfl (ai rfl rfl zG (by simp) (ay (by assumption) rfl)) ?_ | refine af rfl rfl rfl rfl (ai rfl rfl zG (by simp) (by assumption)) ?_ | refine af rfl rfl rfl rfl (a9 rfl rfl zG (by simp) rfl (by assumption) rfl (by decide)) ?_ | refine af rfl rfl rfl rfl (ba rfl rfl zG (by rfl)) ?_
          first | refine ak rfl rfl rfl rfl (bg rfl rfl rfl) ?_ | refine ak rfl rfl rfl rfl (bi rfl rfl) ?_
          try dsimp only [St.put]
          first | refine af rfl rfl rfl rfl (aw rfl rfl) ?_ | refine af rfl rfl rfl rfl (ah rfl rfl (Enc.len _)) ?_ | refine af rfl rfl rfl rfl (ah rfl rfl rfl) ?_ | refine af rfl rfl rfl rfl (a7 rfl rfl zG (by simp) (by first | rfl | assumption)) ?_ | refine af rfl rfl rfl rfl (az rfl rfl zG (by simp) (by rfl)) ?_ | refine af rfl rfl rfl rfl (a8 rfl rfl zG (by simp) (by simp)) ?_ | refine af rfl rfl rfl rfl (ai rfl rfl zG (by simp) (ay (by assumption) rfl)) ?_ | refine af rfl rfl rfl rfl (ai rfl rfl zG (by simp) (by assumption)) ?_ | refine af rfl rfl rfl rfl (a9 rfl rfl zG (by simp) rfl (by assumption) rfl (by decide)) ?_ | refine af rfl rfl rfl rfl (ba rfl rfl zG (by rfl)) ?_
          refine dc ?_
          refine dj [19] (by kernel_rfl) (by simp) ?_
          refine dz ?_ ?_
          ·try dsimp only [St.put]
           refine dr rfl rfl rfl (br rfl rfl rfl (hown) ?_)
           refine dj [22] (by kernel_rfl) (by simp) ?_
           refine dz ?_ ?_
           ·try dsimp only [St.put]
            refine dr rfl rfl rfl (br rfl rfl rfl (hpr _ _) ?_)
            refine fm [(23, none), (24, none)] (fun i => [23, 24].contains i) 0 (rl [25]) (by kernel_rfl) ?_
            refine ak rfl rfl rfl rfl (dt rfl rfl) ?_
            first | refine ak rfl rfl rfl rfl (bt rfl rfl (by constructor)) ?_ | refine ak rfl rfl rfl rfl (bu rfl rfl (by constructor)) ?_ | refine ak rfl rfl rfl rfl (b7 rfl rfl rfl rfl) ?_ | refine ak rfl rfl rfl rfl (bz rfl rfl rfl rfl) ?_
            refine dc ?_
            dsimp only [St.put]
            refine gw (by kernel_rfl) ?_
            refine hK19 _ ?_
            refine bl rfl (fun hc => ?_) (fun hc => ?_)
            ·have hrd : fo t r = false := by
              rw [hrB]
              first
               | (rw [hb]; rfl)
               | (rw [hb, Bool.true_and]; simpa using hc)
             refine aj fun K21 hK21 => ?_
             refine aq ?_
             refine ae rfl (ax rfl (by constructor)) ?_
             refine am ?_
             dsimp only [St.put]
             refine hK21 _ ?_
             refine bk ?_
             refine bo rfl (by constructor) zN zS ?_
             exact vb (mm hx hrd).symm
            ·have hrd : fo t r = true := by rw [hrB, hb, Bool.true_and]; simpa using hc
             refine bn ?_
             refine hK18 _ ?_
             refine aj fun K22 hK22 => ?_
             refine aj fun K23 hK23 => ?_
             refine aq ?_
             refine ae rfl (ar rfl (by constructor)) ?_
             refine ae rfl (dy rfl rfl rfl) ?_
             refine am ?_
             dsimp only [St.put]
             refine hK23 _ ?_
             refine bl rfl (fun hc => ?_) (fun hc => ?_)
             ·replace hc := of_decide_eq_true hc
              have hk0 : k = 0 := by omega
              have hord : fa (c.rs.take (k + 1)) = true := by
               rw [hk0] at hx ⊢
               exact n6 hx
              refine co ?_
              refine hK10 _ ?_
              refine aq ?_
              first | refine ae rfl (bx rfl rfl rfl (by omega)) ?_ | refine ae rfl (cp rfl rfl rfl) ?_
              refine ae rfl (ar rfl (by constructor)) ?_
              refine am ?_
              dsimp only [St.put]
              exact ⟨k + 1, by omega, ⟨by omega, by rw [ja hx, hI.2.1, hrd]; rfl, hord⟩, ⟨⟨rfl, rfl⟩, zF, zB, zN, zX⟩⟩
             ·replace hc := of_decide_eq_false hc
              obtain ⟨a, ha⟩ : ∃ x, c.rs[k - 1]? = some x := cm (by omega)
              have hst := vv hx (by omega) ha hI.2.2
              refine bn ?_
              refine hK22 _ ?_
              refine aj fun K24 hK24 => ?_
              refine aq ?_
              first | refine ae rfl (bg rfl rfl rfl) ?_ | refine ae rfl (bi rfl rfl) ?_
              try dsimp only [St.put]
              first | refine aa rfl (aw rfl rfl) ?_ | refine aa rfl (ah rfl rfl (Enc.len _)) ?_ | refine aa rfl (ah rfl rfl rfl) ?_ | refine aa rfl (a7 rfl rfl zG trivial (by first | rfl | assumption)) ?_ | refine aa rfl (az rfl rfl zG trivial (by rfl)) ?_ | refine aa rfl (a8 rfl rfl zG trivial (by simp)) ?_ | refine aa rfl (ai rfl rfl zG trivial (ay (by assumption) rfl)) ?_ | refine aa rfl (ai rfl rfl zG trivial (by assumption)) ?_ | refine aa rfl (a9 rfl rfl zG trivial rfl (by assumption) rfl (by decide)) ?_ | refine aa rfl (ba rfl rfl zG (by rfl)) ?_
              refine ae rfl (ar rfl (by constructor)) ?_
              first | refine ae rfl (ip rfl rfl rfl (by omega)) ?_ | refine ae rfl (jh rfl rfl rfl) ?_
              try dsimp only [St.put]
              refine ae rfl (bf (k := k - 1) rfl rfl rfl (by omega) (bm ha) (Enc.len _)) ?_
              try dsimp only [St.put]
              first | refine aa rfl (aw rfl rfl) ?_ | refine aa rfl (ah rfl rfl (Enc.len _)) ?_ | refine aa rfl (ah rfl rfl rfl) ?_ | refine aa rfl (a7 rfl rfl zG trivial (by first | rfl | assumption)) ?_ | refine aa rfl (az rfl rfl zG trivial (by rfl)) ?_ | refine aa rfl (a8 rfl rfl zG trivial (by simp)) ?_ | refine aa rfl (ai rfl rfl zG trivial (ay (by assumption) rfl)) ?_ | refine aa rfl (ai rfl rfl zG trivial (by assumption)) ?_ | refine aa rfl (a9 rfl rfl zG trivial rfl (by assumption) rfl (by decide)) ?_ | refine aa rfl (ba rfl rfl zG (by rfl)) ?_
              try dsimp only [St.put]
              refine av rfl (di rfl ?_)
              try dsimp only [St.put]
              first | refine av rfl (c8 rfl rfl rfl zG rfl rfl (by rfl) ?_) | refine av rfl (dh rfl rfl rfl zG (by constructor) rfl zO ?_)
              refine am ?_
              dsimp only [St.put]
              refine hK24 _ ?_
              refine ep (i := 9) rfl zG zC ?_
              dsimp only
              refine aj fun K25 hK25 => ?_
              refine aq ?_
              first | refine ae rfl (bg rfl rfl rfl) ?_ | refine ae rfl (bi rfl rfl) ?_
              try dsimp only [St.put]
              (refine aa rfl (c := val a.pl) (io (cs := cells a) rfl rfl (show 3 ≤ 5 by decide)) ?_)
              first | refine ae rfl (bg rfl rfl rfl) ?_ | refine ae rfl (bi rfl rfl) ?_
              try dsimp only [St.put]
              (refine aa rfl (c := val r.pl) (io (cs := cells r) rfl rfl (show 3 ≤ 5 by decide)) ?_)
              try dsimp only [St.put]
              refine av rfl (br rfl rfl rfl (uck a.pl r.pl) ?_)
              refine ae rfl (ax rfl (by constructor)) ?_
              refine am ?_
              dsimp only [St.put]
              refine hK25 _ ?_
              refine aj fun K26 hK26 => ?_
              refine aq ?_
              refine ae rfl (ar rfl (by constructor)) ?_
              refine ae rfl (g7 rfl rfl rfl) ?_
              refine et (fun hs => ?_) (fun hs => ?_)
              ·have ho1 := of_decide_eq_true hs
               refine ae rfl (ar rfl (by constructor)) ?_
               refine bv rfl ?_
               refine bv rfl ?_
               refine bv rfl ?_
               refine bv rfl ?_
               refine bv rfl ?_
               refine bv rfl ?_
               refine bv rfl ?_
               first | refine ae rfl (bt rfl rfl (by constructor)) ?_ | refine ae rfl (bu rfl rfl (by constructor)) ?_ | refine ae rfl (b7 rfl rfl rfl rfl) ?_ | refine ae rfl (bz rfl rfl rfl rfl) ?_
               refine am ?_
               dsimp only [St.put]
               skip
               refine hK26 _ ?_
               refine bl rfl (fun _ => ?_) (fun h => by cases h)
               skip
               refine aj fun K27 hK27 => ?_
               refine aq ?_
               refine ae rfl (ax rfl (by constructor)) ?_
               refine am ?_
               dsimp only [St.put]
               refine hK27 _ ?_
               refine bk ?_
               refine bo rfl (by constructor) zN zS ?_
               exact vb (s5 (k := k + 1) (by
                rw [hst]
                cases h : l7 a r with
                | false => rfl
                | true =>
                 obtain ⟨q1, q2⟩ := stepB_true.1 h
                 first
                  | exact absurd ho1 q1
                  | (have q3 := q2 (cmpP_zero.1 ho2)
                     rw [q3] at hc
                     exact absurd hc (by decide)))).symm
              ·have ho1 := of_decide_eq_false hs
               refine ae rfl (ar rfl (by constructor)) ?_
               refine ae rfl (ar rfl (by constructor)) ?_
               refine ae rfl (dy rfl rfl rfl) ?_
               refine et (fun hs => ?_) (fun hs => ?_)
               ·have ho2 := of_decide_eq_true hs
                refine ae rfl (ar rfl (by constructor)) ?_
                first | refine ae rfl (bg rfl rfl rfl) ?_ | refine ae rfl (bi rfl rfl) ?_
                try dsimp only [St.put]
                first | refine aa rfl (aw rfl rfl) ?_ | refine aa rfl (ah rfl rfl (Enc.len _)) ?_ | refine aa rfl (ah rfl rfl rfl) ?_ | refine aa rfl (a7 rfl rfl zG trivial (by first | rfl | assumption)) ?_ | refine aa rfl (az rfl rfl zG trivial (by rfl)) ?_ | refine aa rfl (a8 rfl rfl zG trivial (by simp)) ?_ | refine aa rfl (ai rfl rfl zG trivial (ay (by assumption) rfl)) ?_ | refine aa rfl (ai rfl rfl zG trivial (by assumption)) ?_ | refine aa rfl (a9 rfl rfl zG trivial rfl (by assumption) rfl (by decide)) ?_ | refine aa rfl (ba rfl rfl zG (by rfl)) ?_
                refine ae rfl (em rfl rfl rfl) ?_
                first | refine ae rfl (bt rfl rfl (by constructor)) ?_ | refine ae rfl (bu rfl rfl (by constructor)) ?_ | refine ae rfl (b7 rfl rfl rfl rfl) ?_ | refine ae rfl (bz rfl rfl rfl rfl) ?_
                first | refine ae rfl (bt rfl rfl (by constructor)) ?_ | refine ae rfl (bu rfl rfl (by constructor)) ?_ | refine ae rfl (b7 rfl rfl rfl rfl) ?_ | refine ae rfl (bz rfl rfl rfl rfl) ?_
                refine am ?_
                dsimp only [St.put]
                skip
                refine hK26 _ ?_
                refine bl rfl (fun hc => ?_) (fun hc => ?_)
                ·skip
                 refine aj fun K28 hK28 => ?_
                 refine aq ?_
                 refine ae rfl (ax rfl (by constructor)) ?_
                 refine am ?_
                 dsimp only [St.put]
                 refine hK28 _ ?_
                 refine bk ?_
                 refine bo rfl (by constructor) zN zS ?_
                 exact vb (s5 (k := k + 1) (by
                  rw [hst]
                  cases h : l7 a r with
                  | false => rfl
                  | true =>
                   obtain ⟨q1, q2⟩ := stepB_true.1 h
                   first
                    | exact absurd ho1 q1
                    | (have q3 := q2 (cmpP_zero.1 ho2)
                       rw [q3] at hc
                       exact absurd hc (by decide)))).symm
                ·have hord : fa (c.rs.take (k + 1)) = true := by
                  rw [hst]
                  refine stepB_true.2 ⟨ho1, fun e => ?_⟩
                  first
                   | exact absurd (cmpP_zero.2 e) ho2
                   | simpa using hc
                 refine bn ?_
                 refine hK10 _ ?_
                 refine aq ?_
                 first | refine ae rfl (bx rfl rfl rfl (by omega)) ?_ | refine ae rfl (cp rfl rfl rfl) ?_
                 refine ae rfl (ar rfl (by constructor)) ?_
                 refine am ?_
                 dsimp only [St.put]
                 exact ⟨k + 1, by omega, ⟨by omega, by rw [ja hx, hI.2.1, hrd]; rfl, hord⟩, ⟨⟨rfl, rfl⟩, zF, zB, zN, zX⟩⟩
               ·have ho2 := of_decide_eq_false hs
                refine ae rfl (ar rfl (by constructor)) ?_
                refine bv rfl ?_
                refine bv rfl ?_
                refine bv rfl ?_
                first | refine ae rfl (bt rfl rfl (by constructor)) ?_ | refine ae rfl (bu rfl rfl (by constructor)) ?_ | refine ae rfl (b7 rfl rfl rfl rfl) ?_ | refine ae rfl (bz rfl rfl rfl rfl) ?_
                first | refine ae rfl (bt rfl rfl (by constructor)) ?_ | refine ae rfl (bu rfl rfl (by constructor)) ?_ | refine ae rfl (b7 rfl rfl rfl rfl) ?_ | refine ae rfl (bz rfl rfl rfl rfl) ?_
                refine am ?_
                dsimp only [St.put]
                skip
                refine hK26 _ ?_
                refine bl rfl (fun h => by cases h) (fun _ => ?_)
                have hord : fa (c.rs.take (k + 1)) = true := by
                 rw [hst]
                 refine stepB_true.2 ⟨ho1, fun e => ?_⟩
                 first
                  | exact absurd (cmpP_zero.2 e) ho2
                  | simpa using hc
                refine bn ?_
                refine hK10 _ ?_
                refine aq ?_
                first | refine ae rfl (bx rfl rfl rfl (by omega)) ?_ | refine ae rfl (cp rfl rfl rfl) ?_
                refine ae rfl (ar rfl (by constructor)) ?_
                refine am ?_
                dsimp only [St.put]
                exact ⟨k + 1, by omega, ⟨by omega, by rw [ja hx, hI.2.1, hrd]; rfl, hord⟩, ⟨⟨rfl, rfl⟩, zF, zB, zN, zX⟩⟩
           exact d8
          exact d8
        exact d8
       exact d8
    ·replace hc := of_decide_eq_false hc
     have hv : rsB t c.rs = true := by
      obtain ⟨_, h2, h3⟩ := hI
      rw [dd (by omega)] at h2 h3
      simp [rsB, h2, h3]
     have hrl := ny t c.rs
     refine co ?_
     refine hK6 _ ?_
     refine aj fun K29 hK29 => ?_
     refine aj fun K30 hK30 => ?_
     refine aq ?_
     refine ae rfl (ar rfl (by constructor)) ?_
     try dsimp only [St.put]
     first | refine aa rfl (aw rfl rfl) ?_ | refine aa rfl (ah rfl rfl (Enc.len _)) ?_ | refine aa rfl (ah rfl rfl rfl) ?_ | refine aa rfl (a7 rfl rfl zG trivial (by first | rfl | assumption)) ?_ | refine aa rfl (az rfl rfl zG trivial (by rfl)) ?_ | refine aa rfl (a8 rfl rfl zG trivial (by simp)) ?_ | refine aa rfl (ai rfl rfl zG trivial (ay (by assumption) rfl)) ?_ | refine aa rfl (ai rfl rfl zG trivial (by assumption)) ?_ | refine aa rfl (a9 rfl rfl zG trivial rfl (by assumption) rfl (by decide)) ?_ | refine aa rfl (ba rfl rfl zG (by rfl)) ?_
     try dsimp only [St.put]
     refine av rfl (gq rfl rfl rfl (ym n t c ht hl20 hv) zG (by dsimp only; omega) ?_)
     refine ae rfl (ub1 rfl rfl rfl) ?_
     first | refine ae rfl (bj rfl rfl (List.length_map _)) ?_ | refine ae rfl (bj rfl rfl rfl) ?_ | refine ae rfl (b8 rfl rfl) ?_ | refine ae rfl (cd rfl rfl) ?_ | refine ae rfl (cb rfl rfl) ?_ | refine ae rfl (ca rfl rfl (by omega)) ?_
     refine ae rfl (ar rfl (by constructor)) ?_
     refine am ?_
     dsimp only [St.put]
     refine hK30 _ ?_
     refine bq ?_
     refine cg 107 ?_
     refine zQ ?_
     refine cn (G) zX ?_
     dsimp only
     refine cz (X := Nat) (fun j => j ≤ (c9 t c.rs).length ∧ ((c9 t c.rs).take j).all lnB = true) (fun j => (c9 t c.rs).length - j) (fun j => [(12, .any), (106, .v (.int .i64 (j : Int)))]) (fun j G' => G') 0 rfl ?_ ?_ (fun _ _ h => h) ?_ ?_ ?_
     ·exact ⟨Nat.zero_le _, rfl⟩
     ·exact zF
     ·rintro j hI
      exact zL
     ·exact fun _ _ _ _ h => .inl h
     ·rintro j hJ
      dsimp only at hJ ⊢
      refine aj fun K31 hK31 => ?_
      refine aq ?_
      refine ae rfl (cj rfl rfl rfl) ?_
      refine am ?_
      dsimp only [St.put]
      refine hK31 _ ?_
      refine aj fun K32 hK32 => ?_
      refine bl rfl (fun hc => ?_) (fun hc => ?_)
      ·replace hc := of_decide_eq_true hc
       obtain ⟨y, hy⟩ : ∃ x, (c9 t c.rs)[j]? = some x := cm (by omega)
       refine bn ?_
       refine hK32 _ ?_
       refine aj fun K33 hK33 => ?_
       refine bq ?_
       refine aj fun K34 hK34 => ?_
       refine aq ?_
       try dsimp only [St.put]
       first | refine ae rfl (bf rfl rfl rfl rfl (bm (by assumption)) (Enc.len _)) ?_ | refine ae rfl (bf rfl rfl rfl rfl (by assumption) rfl) ?_ | refine ae rfl (cr rfl rfl rfl (by first | exact ct _ | exact rfl) (by omega)) ?_ | refine ae rfl (bf rfl rfl rfl (by omega) (bm (by assumption)) (Enc.len _)) ?_
       try dsimp only [St.put]
       first | refine aa rfl (aw rfl rfl) ?_ | refine aa rfl (ah rfl rfl (Enc.len _)) ?_ | refine aa rfl (ah rfl rfl rfl) ?_ | refine aa rfl (a7 rfl rfl zG trivial (by first | rfl | assumption)) ?_ | refine aa rfl (az rfl rfl zG trivial (by rfl)) ?_ | refine aa rfl (a8 rfl rfl zG trivial (by simp)) ?_ | refine aa rfl (ai rfl rfl zG trivial (ay (by assumption) rfl)) ?_ | refine aa rfl (ai rfl rfl zG trivial (by assumption)) ?_ | refine aa rfl (a9 rfl rfl zG trivial rfl (by assumption) rfl (by decide)) ?_ | refine aa rfl (ba rfl rfl zG (by rfl)) ?_
       try dsimp only [St.put]
       refine av rfl (di rfl ?_)
       try dsimp only [St.put]
       first | refine av rfl (c8 rfl rfl rfl zG rfl rfl (by rfl) ?_) | refine av rfl (dh rfl rfl rfl zG (by constructor) rfl zO ?_)
       refine am ?_
       dsimp only [St.put]
       refine hK34 _ ?_
       refine ep (i := 12) rfl zG zC ?_
       dsimp only
       refine aj fun K35 hK35 => ?_
       refine aq ?_
       first | refine ae rfl (bg rfl rfl rfl) ?_ | refine ae rfl (bi rfl rfl) ?_
       try dsimp only [St.put]
       first | refine aa rfl (aw rfl rfl) ?_ | refine aa rfl (ah rfl rfl (Enc.len _)) ?_ | refine aa rfl (ah rfl rfl rfl) ?_ | refine aa rfl (a7 rfl rfl zG trivial (by first | rfl | assumption)) ?_ | refine aa rfl (az rfl rfl zG trivial (by rfl)) ?_ | refine aa rfl (a8 rfl rfl zG trivial (by simp)) ?_ | refine aa rfl (ai rfl rfl zG trivial (ay (by assumption) rfl)) ?_ | refine aa rfl (ai rfl rfl zG trivial (by assumption)) ?_ | refine aa rfl (a9 rfl rfl zG trivial rfl (by assumption) rfl (by decide)) ?_ | refine aa rfl (ba rfl rfl zG (by rfl)) ?_
       try dsimp only [St.put]
       refine av rfl (br rfl rfl rfl (uf4 y.lines (fun l => !inB l.length 1 10) _ _ (fun z hz => uap z (uaz ht hv hl20 hy z hz))) ?_)
       refine am ?_
       dsimp only [St.put]
       refine hK35 _ ?_
       refine bl rfl (fun hc => ?_) (fun hc => ?_)
       ·have hln : lnB y = false := by rw [wj] at hc; simpa using hc
        refine aj fun K36 hK36 => ?_
        refine aq ?_
        refine ae rfl (ax rfl (by constructor)) ?_
        refine am ?_
        dsimp only [St.put]
        refine hK36 _ ?_
        refine bk ?_
        refine bo rfl (by constructor) zN zS ?_
        exact vb (yc (gu hy hln)).symm
       ·have hln : lnB y = true := by rw [wj] at hc; simpa using hc
        refine bn ?_
        refine hK33 _ ?_
        refine aq ?_
        first | refine ae rfl (bx rfl rfl rfl (by omega)) ?_ | refine ae rfl (cp rfl rfl rfl) ?_
        refine ae rfl (ar rfl (by constructor)) ?_
        refine am ?_
        dsimp only [St.put]
        exact ⟨j + 1, by omega, ⟨by omega, by rw [ja hy, hJ.2, hln]; rfl⟩, ⟨⟨rfl, rfl⟩, zF, zB, zN, zX⟩⟩
      ·replace hc := of_decide_eq_false hc
       refine co ?_
       refine hK29 _ ?_
       refine aj fun K37 hK37 => ?_
       refine aq ?_
       refine ae rfl (ax rfl (by constructor)) ?_
       refine am ?_
       dsimp only [St.put]
       refine hK37 _ ?_
       refine bk ?_
       refine bo rfl (by constructor) zN zS ?_
       exact vb (by
        have h2 := hJ.2
        rw [dd (by omega)] at h2
        exact (copyB_true.2 ⟨h1, hl20, hv, h2⟩).symm)
theorem qr (n : Nat) (t : bd) (c : CopyD) : gx n gi Tryd.prog 19 [dn t, val c] (.tup [ju t c, .v (.int .i64 (ec t c))]) := fun G nx hF hnx => by
 refine je (G) (nx) Tryd.func19 rfl (.tup (cv (ueh _ _ _) (cv .v de))) zN (fun hlt => zH) ?_
 simp only [Tryd.ntmps19, List.length_cons, List.length_nil, Nat.reduceAdd, Nat.reduceSub]
 refine b9 fun hlt => ?_
 dsimp only at hlt
 refine aj fun K1 hK1 => ?_
 refine aq ?_
 try dsimp only [St.put]
 refine av rfl (cw rfl rfl (by simp) ?_)
 try dsimp only [St.put]
 refine av rfl (cw rfl rfl (by simp) ?_)
 refine ae rfl (ax rfl (by constructor)) ?_
 refine ae rfl (ax rfl (by constructor)) ?_
 refine am ?_
 dsimp only [St.put]
 refine hK1 _ ?_
 refine aj fun K2 hK2 => ?_
 refine aq ?_
 try dsimp only [St.put]
 first | refine aa rfl (aw rfl rfl) ?_ | refine aa rfl (ah rfl rfl (Enc.len _)) ?_ | refine aa rfl (ah rfl rfl rfl) ?_ | refine aa rfl (a7 rfl rfl zG trivial (by first | rfl | assumption)) ?_ | refine aa rfl (az rfl rfl zG trivial (by rfl)) ?_ | refine aa rfl (a8 rfl rfl zG trivial (by simp)) ?_ | refine aa rfl (ai rfl rfl zG trivial (ay (by assumption) rfl)) ?_ | refine aa rfl (ai rfl rfl zG trivial (by assumption)) ?_ | refine aa rfl (a9 rfl rfl zG trivial rfl (by assumption) rfl (by decide)) ?_ | refine aa rfl (ba rfl rfl zG (by rfl)) ?_
 try dsimp only [St.put]
 refine av rfl (br rfl rfl rfl (sj t) ?_)
 refine ae rfl (ar rfl (by constructor)) ?_
 refine ae rfl (da rfl rfl rfl) ?_
 refine ae rfl (da rfl rfl rfl) ?_
 refine ae rfl (ax rfl (by constructor)) ?_
 refine ae rfl (ax rfl (by constructor)) ?_
 refine am ?_
 dsimp only [St.put]
 refine hK2 _ ?_
 refine aj fun K3 hK3 => ?_
 refine aj fun K4 hK4 => ?_
 refine aq ?_
 refine ae rfl (ar rfl (by constructor)) ?_
 refine ae rfl (em rfl rfl rfl) ?_
 refine am ?_
 dsimp only [St.put]
 refine hK4 _ ?_
 refine bl rfl (fun hc => ?_) (fun hc => ?_)
 ·have htx : ck t = false := by
   cases h : ck t
   ·rfl
   ·simp [fy, h] at hc
  refine aj fun K5 hK5 => ?_
  refine aq ?_
  refine ae rfl (ar rfl (by constructor)) ?_
  refine ae rfl (ax rfl (by constructor)) ?_
  refine ae rfl (ax rfl (by constructor)) ?_
  refine am ?_
  dsimp only [St.put]
  refine hK5 _ ?_
  refine bk ?_
  refine j4 rfl (by constructor) (by constructor) zN zS ?_ ?_
  ·simp [ju, ec, htx]
  ·exact vi (by simp [ec, fy, htx])
 ·have htx : ck t = true := by
   cases h : ck t
   ·simp [fy, h] at hc
   ·rfl
  rw [show j1 t = .elem [lst t] by simp [j1, htx]]
  refine bn ?_
  refine hK3 _ ?_
  refine aj fun K6 hK6 => ?_
  refine aj fun K7 hK7 => ?_
  refine aq ?_
  refine ae rfl (ar rfl (by constructor)) ?_
  try dsimp only [St.put]
  first | refine aa rfl (aw rfl rfl) ?_ | refine aa rfl (ah rfl rfl (Enc.len _)) ?_ | refine aa rfl (ah rfl rfl rfl) ?_ | refine aa rfl (a7 rfl rfl zG trivial (by first | rfl | assumption)) ?_ | refine aa rfl (az rfl rfl zG trivial (by rfl)) ?_ | refine aa rfl (a8 rfl rfl zG trivial (by simp)) ?_ | refine aa rfl (ai rfl rfl zG trivial (ay (by assumption) rfl)) ?_ | refine aa rfl (ai rfl rfl zG trivial (by assumption)) ?_ | refine aa rfl (a9 rfl rfl zG trivial rfl (by assumption) rfl (by decide)) ?_ | refine aa rfl (ba rfl rfl zG (by rfl)) ?_
  try dsimp only [St.put]
  refine av rfl (gq rfl rfl rfl (yl n t c htx) zG (by dsimp only; omega) ?_)
  refine ae rfl (dt rfl rfl) ?_
  refine am ?_
  dsimp only [St.put]
  refine hK7 _ ?_
  refine bl rfl (fun hc => ?_) (fun hc => ?_)
  ·have h1 : eo t c = false := by simpa using hc
   refine aj fun K8 hK8 => ?_
   refine aq ?_
   refine ae rfl (ax rfl (by constructor)) ?_
   refine ae rfl (ax rfl (by constructor)) ?_
   refine am ?_
   dsimp only [St.put]
   refine hK8 _ ?_
   refine bk ?_
   refine j4 rfl (by constructor) (by constructor) zN zS ?_ ?_
   ·simp [ju, ec, htx, h1]
   ·exact vi (by simp [ec, htx, h1])
  ·have h1 : eo t c = true := by simpa using hc
   refine bn ?_
   refine hK6 _ ?_
   refine aj fun K9 hK9 => ?_
   refine aq ?_
   refine ae rfl (ar rfl (by constructor)) ?_
   refine ae rfl (ax rfl (by constructor)) ?_
   refine ae rfl (ax rfl (by constructor)) ?_
   refine am ?_
   dsimp only [St.put]
   refine hK9 _ ?_
   refine bk ?_
   refine j4 rfl (by constructor) (by constructor) zN zS ?_ ?_
   ·simp [ju, ec, htx, h1]
   ·exact vi (by simp [ec, htx, h1])
theorem uci (n : Nat) (t : bd) (c : CopyD) : gx n gi Tryd.prog 8 [dn t, val c] (.tup [dn (gy t c), .v (.int .i64 (ec t c))]) := fun G nx hF hnx => by
 refine je (G) (nx) Tryd.func8 rfl (.tup (cv (.agg (cv (ce _ _) de)) (cv .v de))) zN (fun hlt => zH) ?_
 simp only [Tryd.ntmps8, List.length_cons, List.length_nil, Nat.reduceAdd, Nat.reduceSub]
 refine b9 fun hlt => ?_
 dsimp only at hlt
 refine aj fun K1 hK1 => ?_
 refine aq ?_
 try dsimp only [St.put]
 refine av rfl (cw rfl rfl (by simp) ?_)
 try dsimp only [St.put]
 refine av rfl (cw rfl rfl (by simp) ?_)
 try dsimp only [St.put]
 refine av rfl (di rfl ?_)
 refine ae rfl (ax rfl (by constructor)) ?_
 refine am ?_
 dsimp only [St.put]
 refine hK1 _ ?_
 refine aj fun K2 hK2 => ?_
 refine aq ?_
 try dsimp only [St.put]
 first | refine aa rfl (aw rfl rfl) ?_ | refine aa rfl (ah rfl rfl (Enc.len _)) ?_ | refine aa rfl (ah rfl rfl rfl) ?_ | refine aa rfl (a7 rfl rfl zG trivial (by first | rfl | assumption)) ?_ | refine aa rfl (az rfl rfl zG trivial (by rfl)) ?_ | refine aa rfl (a8 rfl rfl zG trivial (by simp)) ?_ | refine aa rfl (ai rfl rfl zG trivial (ay (by assumption) rfl)) ?_ | refine aa rfl (ai rfl rfl zG trivial (by assumption)) ?_ | refine aa rfl (a9 rfl rfl zG trivial rfl (by assumption) rfl (by decide)) ?_ | refine aa rfl (ba rfl rfl zG (by rfl)) ?_
 try dsimp only [St.put]
 first | refine aa rfl (aw rfl rfl) ?_ | refine aa rfl (ah rfl rfl (Enc.len _)) ?_ | refine aa rfl (ah rfl rfl rfl) ?_ | refine aa rfl (a7 rfl rfl zG trivial (by first | rfl | assumption)) ?_ | refine aa rfl (az rfl rfl zG trivial (by rfl)) ?_ | refine aa rfl (a8 rfl rfl zG trivial (by simp)) ?_ | refine aa rfl (ai rfl rfl zG trivial (ay (by assumption) rfl)) ?_ | refine aa rfl (ai rfl rfl zG trivial (by assumption)) ?_ | refine aa rfl (a9 rfl rfl zG trivial rfl (by assumption) rfl (by decide)) ?_ | refine aa rfl (ba rfl rfl zG (by rfl)) ?_
 try dsimp only [St.put]
 refine av rfl (gq rfl rfl rfl (qr n t c) zG (by dsimp only; omega) ?_)
 refine ae rfl (ar rfl (by constructor)) ?_
 refine ae rfl (da rfl rfl rfl) ?_
 refine ae rfl (da rfl rfl rfl) ?_
 refine ae rfl (ax rfl (by constructor)) ?_
 refine ae rfl (ax rfl (by constructor)) ?_
 refine am ?_
 dsimp only [St.put]
 refine hK2 _ ?_
 refine aj fun K3 hK3 => ?_
 refine aj fun K4 hK4 => ?_
 refine aq ?_
 refine ae rfl (ar rfl (by constructor)) ?_
 refine ae rfl (em rfl rfl rfl) ?_
 refine am ?_
 dsimp only [St.put]
 refine hK4 _ ?_
 refine bl rfl (fun hc => ?_) (fun hc => ?_)
 ·have h0 : ec t c ≠ 0 := gn hc
  refine aj fun K5 hK5 => ?_
  refine aq ?_
  refine ae rfl (jo rfl rfl) ?_
  refine ae rfl (ar rfl (by constructor)) ?_
  try dsimp only [St.put]
  first | refine av rfl (c8 rfl rfl rfl zG rfl rfl (by rfl) ?_) | refine av rfl (dh rfl rfl rfl zG (by constructor) rfl zO ?_)
  refine ae rfl (ax rfl (by constructor)) ?_
  refine am ?_
  dsimp only [St.put]
  refine hK5 _ ?_
  refine bk ?_
  refine i1 rfl (kj rfl zG (by rfl) zC rfl) (ed (by constructor)) zN zS ?_ ?_
  ·rw [show gy t c = [] by simp [gy, h0]]
   exact zW
  ·exact zW
 ·have h0 : ec t c = 0 := ff hc
  obtain ⟨h1, h2⟩ := copyEr_zero.1 h0
  obtain ⟨_, h3, h4, _⟩ := copyB_true.1 h2
  rw [show ju t c = .elem [lst t] by simp [ju, h0]]
  refine bn ?_
  refine hK3 _ ?_
  refine aj fun K6 hK6 => ?_
  refine aq ?_
  refine ae rfl (ar rfl (by constructor)) ?_
  try dsimp only [St.put]
  first | refine aa rfl (aw rfl rfl) ?_ | refine aa rfl (ah rfl rfl (Enc.len _)) ?_ | refine aa rfl (ah rfl rfl rfl) ?_ | refine aa rfl (a7 rfl rfl zG trivial (by first | rfl | assumption)) ?_ | refine aa rfl (az rfl rfl zG trivial (by rfl)) ?_ | refine aa rfl (a8 rfl rfl zG trivial (by simp)) ?_ | refine aa rfl (ai rfl rfl zG trivial (ay (by assumption) rfl)) ?_ | refine aa rfl (ai rfl rfl zG trivial (by assumption)) ?_ | refine aa rfl (a9 rfl rfl zG trivial rfl (by assumption) rfl (by decide)) ?_ | refine aa rfl (ba rfl rfl zG (by rfl)) ?_
  try dsimp only [St.put]
  refine av rfl (gq rfl rfl rfl (ym n t c h1 h3 h4) zG (by dsimp only; omega) ?_)
  try dsimp only [St.put]
  first | refine av rfl (c8 rfl rfl rfl zG rfl rfl (by rfl) ?_) | refine av rfl (dh rfl rfl rfl zG (by constructor) rfl zO ?_)
  refine ae rfl (ax rfl (by constructor)) ?_
  refine am ?_
  dsimp only [St.put]
  refine hK6 _ ?_
  refine bk ?_
  refine i1 rfl (kj rfl zG (by rfl) zC rfl) (ed (by constructor)) zN zS ?_ ?_
  ·rw [show gy t c = c9 t c.rs by simp [gy, h0]]
   exact zW
  ·exact Wk.of_eq (vi h0.symm)
end Go.Proofs.YthboenlglkmnjaaDoor
namespace Go.AB
open Go Go.RowKit
open Go.AB.Enc (cells)
open Go.PB (Chap bd PlaceD bh CopyD bw)
/-- what a copy has in a place -/
def il (rs : List bh) (p : PlaceD) (s : ByteArray) : ByteArray := match rs.find? fun r => decide (r.pl = p) && !decide (r.kind = 2) with
 | some r => r.word
 | none => s
noncomputable def ix (t : bd) (c : CopyD) (p : PlaceD) : Int := bif decide (ec t c = 0) then (bif fp t p then 0 else 12) else ec t c
noncomputable def j0 (t : bd) (c : CopyD) (p : PlaceD) : ByteArray := bif decide (ix t c p = 0) then il c.rs p (ii t p) else ByteArray.empty
def g9 (cs : List CopyD) (x : PW) : Bool := cs.any fun c => !decide (il c.rs x.1 x.2 = x.2)
def er (l : List PW) (cs : List CopyD) : List PlaceD := (l.filter (g9 cs)).map (·.1)
noncomputable def f9 (t : bd) (cs : List CopyD) : Int := bif ck t then (bif decide (cs.length ≤ 5) then (bif cs.all (eo t) then 0 else 11) else 4) else 10
noncomputable def gk (t : bd) (cs : List CopyD) : List PlaceD := bif decide (f9 t cs = 0) then er (dq t) cs else []
theorem ua {rs : List bh} {p : PlaceD} {s : ByteArray} (h : ∀ r ∈ rs, ¬ (r.pl = p ∧ r.kind ≠ 2)) : il rs p s = s := by
 unfold il
 rw [List.find?_eq_none.2 fun r hr => ?_]
 have := h r hr
 simp only [Bool.and_eq_true, decide_eq_true_eq, Bool.not_eq_true', decide_eq_false_iff_not]
 exact this
theorem ub {rs : List bh} {p : PlaceD} {s : ByteArray} {k : Nat} {r : bh} (hk : rs[k]? = some r) (h1 : r.pl = p) (h2 : r.kind ≠ 2) (h : ∀ x ∈ rs.take k, ¬ (x.pl = p ∧ x.kind ≠ 2)) : il rs p s = r.word := by
 unfold il
 have e : rs.find? (fun r => decide (r.pl = p) && !decide (r.kind = 2)) = some r := List.find?_eq_some_iff_append.2 ⟨by simp [h1, h2], rs.take k, rs.drop (k + 1), ?_, fun y hy => ?_⟩
 ·rw [e]
 ·obtain ⟨q1, q2⟩ := List.getElem?_eq_some_iff.1 hk
  rw [← q2, ← List.drop_eq_getElem_cons q1, List.take_append_drop]
 ·have := h y hy
  by_cases e1 : y.pl = p
  ·have : y.kind = 2 := Classical.byContradiction fun hn => this ⟨e1, hn⟩
   simp [this]
  ·simp [e1]
theorem sy (l : List PW) (x : PW) (cs : List CopyD) : er (l ++ [x]) cs = er l cs ++ (bif g9 cs x then [x.1] else []) := by
 unfold er
 rw [List.filter_append, List.map_append]
 cases h : g9 cs x <;> simp [h]
theorem x8 (l : List PW) (cs : List CopyD) : (er l cs).length ≤ l.length := by unfold er; rw [List.length_map]; exact List.length_filter_le _ _
end Go.AB
namespace Go.AB
open Go Go.RowKit
open Go.AB.Enc (cells)
open Go.PB (Chap bd PlaceD bh CopyD bw)
def lq (l : List PW) (cs : List CopyD) : Nat := (er l cs).length
theorem ud7 {l : List PW} {x : PW} {cs : List CopyD} (h : g9 cs x = true) : er (l ++ [x]) cs = er l cs ++ [x.1] ∧ lq (l ++ [x]) cs = lq l cs + 1 := by
 have e : er (l ++ [x]) cs = er l cs ++ [x.1] := by rw [sy, h]; rfl
 exact ⟨e, by unfold lq; rw [e]; simp⟩
theorem ud8 {l : List PW} {x : PW} {cs : List CopyD} (h : g9 cs x = false) : er (l ++ [x]) cs = er l cs ∧ lq (l ++ [x]) cs = lq l cs := by
 have e : er (l ++ [x]) cs = er l cs := by rw [sy, h]; simp
 exact ⟨e, by unfold lq; rw [e]⟩
theorem ua7 {t : bd} {p : PlaceD} (hp : fp t p = true) : ∃ (l : List ByteArray) (k : Nat), dm t (p.ch, p.ln) = some l ∧ p.wd = (k : Int) ∧ l[k]? = some (ii t p) := by
 obtain ⟨l, hw, h1, h2⟩ := placeB_true.1 hp
 refine ⟨l, p.wd.toNat, hw, by omega, ?_⟩
 unfold ii
 rw [hw, Option.getD_some, List.getElem?_eq_getElem (by omega)]
 rfl
end Go.AB
namespace Go.Proofs.YthboenlglkmnjaaDoor
set_option maxRecDepth 10000
open Go.RowKit Go.AB
open Go.AB.Enc (cells)
open Go.PB (Chap bd PlaceD bh CopyD bw)
theorem ww (n : Nat) (t : bd) (c : CopyD) : gx n gi Tryd.prog 14 [dn t, val c] (.v (.int .i64 (ec t c))) := fun G nx hF hnx => by
 refine je (G) (nx) Tryd.func14 rfl (.v) zN (fun hlt => zH) ?_
 simp only [Tryd.ntmps14, List.length_cons, List.length_nil, Nat.reduceAdd, Nat.reduceSub]
 refine b9 fun hlt => ?_
 dsimp only at hlt
 refine aj fun K1 hK1 => ?_
 refine aq ?_
 try dsimp only [St.put]
 refine av rfl (cw rfl rfl (by simp) ?_)
 try dsimp only [St.put]
 refine av rfl (cw rfl rfl (by simp) ?_)
 refine ae rfl (ax rfl (by constructor)) ?_
 refine am ?_
 dsimp only [St.put]
 refine hK1 _ ?_
 refine aj fun K2 hK2 => ?_
 refine aq ?_
 try dsimp only [St.put]
 first | refine aa rfl (aw rfl rfl) ?_ | refine aa rfl (ah rfl rfl (Enc.len _)) ?_ | refine aa rfl (ah rfl rfl rfl) ?_ | refine aa rfl (a7 rfl rfl zG trivial (by first | rfl | assumption)) ?_ | refine aa rfl (az rfl rfl zG trivial (by rfl)) ?_ | refine aa rfl (a8 rfl rfl zG trivial (by simp)) ?_ | refine aa rfl (ai rfl rfl zG trivial (ay (by assumption) rfl)) ?_ | refine aa rfl (ai rfl rfl zG trivial (by assumption)) ?_ | refine aa rfl (a9 rfl rfl zG trivial rfl (by assumption) rfl (by decide)) ?_ | refine aa rfl (ba rfl rfl zG (by rfl)) ?_
 try dsimp only [St.put]
 first | refine aa rfl (aw rfl rfl) ?_ | refine aa rfl (ah rfl rfl (Enc.len _)) ?_ | refine aa rfl (ah rfl rfl rfl) ?_ | refine aa rfl (a7 rfl rfl zG trivial (by first | rfl | assumption)) ?_ | refine aa rfl (az rfl rfl zG trivial (by rfl)) ?_ | refine aa rfl (a8 rfl rfl zG trivial (by simp)) ?_ | refine aa rfl (ai rfl rfl zG trivial (ay (by assumption) rfl)) ?_ | refine aa rfl (ai rfl rfl zG trivial (by assumption)) ?_ | refine aa rfl (a9 rfl rfl zG trivial rfl (by assumption) rfl (by decide)) ?_ | refine aa rfl (ba rfl rfl zG (by rfl)) ?_
 try dsimp only [St.put]
 refine av rfl (gq rfl rfl rfl (qr n t c) zG (by dsimp only; omega) ?_)
 refine ae rfl (ar rfl (by constructor)) ?_
 refine ae rfl (da rfl rfl rfl) ?_
 refine ae rfl (da rfl rfl rfl) ?_
 refine ae rfl (ax rfl (by constructor)) ?_
 refine ae rfl (ax rfl (by constructor)) ?_
 refine am ?_
 dsimp only [St.put]
 refine hK2 _ ?_
 refine aj fun K3 hK3 => ?_
 refine aq ?_
 refine ae rfl (ar rfl (by constructor)) ?_
 refine ae rfl (ax rfl (by constructor)) ?_
 refine am ?_
 dsimp only [St.put]
 refine hK3 _ ?_
 refine bk ?_
 refine bo rfl (by constructor) zN zS ?_
 rfl
theorem yk (t : bd) (c : CopyD) (p : PlaceD) (ht : ck t = true) (hp : fp t p = true) : Pure Tryd.prog 23 [.elem [lst t], val c, val p] (.v (.string (il c.rs p (ii t p)))) := by
 refine cx Tryd.func23 rfl (fun m => .v) fun G nx => ?_
 simp only [Tryd.ntmps23, List.length_cons, List.length_nil, Nat.reduceAdd, Nat.reduceSub]
 refine b9 fun hlt => ?_
 dsimp only at hlt
 refine fj 1 (fun hf => ?_)
 have hf1 := (fit_lst.1 (fit_agg.1 hf _ (by exact List.mem_cons_of_mem _ (List.mem_cons_self ..)))).1
 obtain ⟨l, kw, hw, hkw, hlw⟩ := ua7 hp
 have hLn := p7 t p ht
 rw [hw, Option.getD_some] at hLn
 refine aj fun K1 hK1 => ?_
 refine aq ?_
 try dsimp only [St.put]
 refine av rfl (cw rfl rfl (by simp) ?_)
 try dsimp only [St.put]
 refine av rfl (cw rfl rfl (by simp) ?_)
 refine ae rfl (ax rfl (by constructor)) ?_
 refine am ?_
 dsimp only [St.put]
 refine hK1 _ ?_
 refine aj fun K2 hK2 => ?_
 refine aj fun K3 hK3 => ?_
 refine aq ?_
 first | refine ae rfl (bg rfl rfl rfl) ?_ | refine ae rfl (bi rfl rfl) ?_
 try dsimp only [St.put]
 first | refine aa rfl (aw rfl rfl) ?_ | refine aa rfl (ah rfl rfl (Enc.len _)) ?_ | refine aa rfl (ah rfl rfl rfl) ?_ | refine aa rfl (a7 rfl rfl zG trivial (by first | rfl | assumption)) ?_ | refine aa rfl (az rfl rfl zG trivial (by rfl)) ?_ | refine aa rfl (a8 rfl rfl zG trivial (by simp)) ?_ | refine aa rfl (ai rfl rfl zG trivial (ay (by assumption) rfl)) ?_ | refine aa rfl (ai rfl rfl zG trivial (by assumption)) ?_ | refine aa rfl (a9 rfl rfl zG trivial rfl (by assumption) rfl (by decide)) ?_ | refine aa rfl (ba rfl rfl zG (by rfl)) ?_
 first | refine ae rfl (bj rfl rfl (List.length_map _)) ?_ | refine ae rfl (bj rfl rfl rfl) ?_ | refine ae rfl (b8 rfl rfl) ?_ | refine ae rfl (cd rfl rfl) ?_ | refine ae rfl (cb rfl rfl) ?_ | refine ae rfl (ca rfl rfl (by omega)) ?_
 refine ae rfl (ar rfl (by constructor)) ?_
 refine am ?_
 dsimp only [St.put]
 refine hK3 _ ?_
 refine bq ?_
 refine cg 13 ?_
 refine zQ ?_
 refine cn (G) zX ?_
 dsimp only
 refine cz (X := Nat) (fun k => k ≤ c.rs.length ∧ ∀ r ∈ c.rs.take k, ¬ (r.pl = p ∧ r.kind ≠ 2)) (fun k => c.rs.length - k) (fun k => [(8, .any), (12, .v (.int .i64 (k : Int)))]) (fun k G' => G') 0 rfl ?_ ?_ (fun _ _ h => h) ?_ ?_ ?_
 ·exact ⟨Nat.zero_le _, by simp⟩
 ·exact zF
 ·rintro k hI
  exact zL
 ·exact fun _ _ _ _ h => .inl h
 ·rintro k hI
  dsimp only at hI ⊢
  refine aj fun K4 hK4 => ?_
  refine aq ?_
  refine ae rfl (cj rfl rfl rfl) ?_
  refine am ?_
  dsimp only [St.put]
  refine hK4 _ ?_
  refine aj fun K5 hK5 => ?_
  refine bl rfl (fun hc => ?_) (fun hc => ?_)
  ·replace hc := of_decide_eq_true hc
   obtain ⟨r, hr⟩ : ∃ x, c.rs[k]? = some x := cm (by omega)
   refine bn ?_
   refine hK5 _ ?_
   refine aj fun K6 hK6 => ?_
   refine bq ?_
   refine aj fun K7 hK7 => ?_
   refine aq ?_
   try dsimp only [St.put]
   first | refine ae rfl (bf rfl rfl rfl rfl (bm (by assumption)) (Enc.len _)) ?_ | refine ae rfl (bf rfl rfl rfl rfl (by assumption) rfl) ?_ | refine ae rfl (cr rfl rfl rfl (by first | exact ct _ | exact rfl) (by omega)) ?_ | refine ae rfl (bf rfl rfl rfl (by omega) (bm (by assumption)) (Enc.len _)) ?_
   try dsimp only [St.put]
   first | refine aa rfl (aw rfl rfl) ?_ | refine aa rfl (ah rfl rfl (Enc.len _)) ?_ | refine aa rfl (ah rfl rfl rfl) ?_ | refine aa rfl (a7 rfl rfl zG trivial (by first | rfl | assumption)) ?_ | refine aa rfl (az rfl rfl zG trivial (by rfl)) ?_ | refine aa rfl (a8 rfl rfl zG trivial (by simp)) ?_ | refine aa rfl (ai rfl rfl zG trivial (ay (by assumption) rfl)) ?_ | refine aa rfl (ai rfl rfl zG trivial (by assumption)) ?_ | refine aa rfl (a9 rfl rfl zG trivial rfl (by assumption) rfl (by decide)) ?_ | refine aa rfl (ba rfl rfl zG (by rfl)) ?_
   try dsimp only [St.put]
   refine av rfl (di rfl ?_)
   try dsimp only [St.put]
   first | refine av rfl (c8 rfl rfl rfl zG rfl rfl (by rfl) ?_) | refine av rfl (dh rfl rfl rfl zG (by constructor) rfl zO ?_)
   refine am ?_
   dsimp only [St.put]
   refine hK7 _ ?_
   refine ep (i := 8) rfl zG zC ?_
   dsimp only
   refine aj fun K8 hK8 => ?_
   refine aq ?_
   first | refine ae rfl (bg rfl rfl rfl) ?_ | refine ae rfl (bi rfl rfl) ?_
   try dsimp only [St.put]
   refine aa rfl (c := val r.pl) (io (cs := cells r) rfl rfl (show 3 ≤ 5 by decide)) ?_
   try dsimp only [St.put]
   first | refine aa rfl (aw rfl rfl) ?_ | refine aa rfl (ah rfl rfl (Enc.len _)) ?_ | refine aa rfl (ah rfl rfl rfl) ?_ | refine aa rfl (a7 rfl rfl zG trivial (by first | rfl | assumption)) ?_ | refine aa rfl (az rfl rfl zG trivial (by rfl)) ?_ | refine aa rfl (a8 rfl rfl zG trivial (by simp)) ?_ | refine aa rfl (ai rfl rfl zG trivial (ay (by assumption) rfl)) ?_ | refine aa rfl (ai rfl rfl zG trivial (by assumption)) ?_ | refine aa rfl (a9 rfl rfl zG trivial rfl (by assumption) rfl (by decide)) ?_ | refine aa rfl (ba rfl rfl zG (by rfl)) ?_
   refine ae rfl (sd (x := r.pl) (y := p) rfl rfl rfl) ?_
   refine et (fun hs => ?_) (fun hs => ?_)
   ·have h3 := of_decide_eq_true hs
    refine ae rfl (ar rfl (by constructor)) ?_
    first | refine ae rfl (bg rfl rfl rfl) ?_ | refine ae rfl (bi rfl rfl) ?_
    try dsimp only [St.put]
    first | refine aa rfl (aw rfl rfl) ?_ | refine aa rfl (ah rfl rfl (Enc.len _)) ?_ | refine aa rfl (ah rfl rfl rfl) ?_ | refine aa rfl (a7 rfl rfl zG trivial (by first | rfl | assumption)) ?_ | refine aa rfl (az rfl rfl zG trivial (by rfl)) ?_ | refine aa rfl (a8 rfl rfl zG trivial (by simp)) ?_ | refine aa rfl (ai rfl rfl zG trivial (ay (by assumption) rfl)) ?_ | refine aa rfl (ai rfl rfl zG trivial (by assumption)) ?_ | refine aa rfl (a9 rfl rfl zG trivial rfl (by assumption) rfl (by decide)) ?_ | refine aa rfl (ba rfl rfl zG (by rfl)) ?_
    refine ae rfl (em rfl rfl rfl) ?_
    first | refine ae rfl (bt rfl rfl (by constructor)) ?_ | refine ae rfl (bu rfl rfl (by constructor)) ?_ | refine ae rfl (b7 rfl rfl rfl rfl) ?_ | refine ae rfl (bz rfl rfl rfl rfl) ?_
    refine am ?_
    dsimp only [St.put]
    refine hK8 _ ?_
    refine bl rfl (fun hc => ?_) (fun hc => ?_)
    ·have h7 : ¬ r.kind = 2 := gn hc
     refine aj fun K9 hK9 => ?_
     refine aq ?_
     first | refine ae rfl (bg rfl rfl rfl) ?_ | refine ae rfl (bi rfl rfl) ?_
     try dsimp only [St.put]
     first | refine aa rfl (aw rfl rfl) ?_ | refine aa rfl (ah rfl rfl (Enc.len _)) ?_ | refine aa rfl (ah rfl rfl rfl) ?_ | refine aa rfl (a7 rfl rfl zG trivial (by first | rfl | assumption)) ?_ | refine aa rfl (az rfl rfl zG trivial (by rfl)) ?_ | refine aa rfl (a8 rfl rfl zG trivial (by simp)) ?_ | refine aa rfl (ai rfl rfl zG trivial (ay (by assumption) rfl)) ?_ | refine aa rfl (ai rfl rfl zG trivial (by assumption)) ?_ | refine aa rfl (a9 rfl rfl zG trivial rfl (by assumption) rfl (by decide)) ?_ | refine aa rfl (ba rfl rfl zG (by rfl)) ?_
     refine ae rfl (ax rfl (by constructor)) ?_
     refine am ?_
     dsimp only [St.put]
     refine hK9 _ ?_
     refine bk ?_
     refine bo rfl (by constructor) zN zS ?_
     exact vs (ub hr h3 h7 hI.2).symm
    ·have hst : ¬ (r.pl = p ∧ r.kind ≠ 2) := by
      first
       | exact fun h => h3 h.1
       | exact fun h => h.2 (ff hc)
     refine bn ?_
     refine hK6 _ ?_
     refine aq ?_
     first | refine ae rfl (bx rfl rfl rfl (by omega)) ?_ | refine ae rfl (cp rfl rfl rfl) ?_
     refine ae rfl (ar rfl (by constructor)) ?_
     refine am ?_
     dsimp only [St.put]
     exact ⟨k + 1, by omega, ⟨by omega, mg (p := fun r : bh => ¬ (r.pl = p ∧ r.kind ≠ 2)) hr hst hI.2⟩, ⟨⟨rfl, rfl⟩, zF, zB, zN, zX⟩⟩
   ·have h3 := of_decide_eq_false hs
    refine ae rfl (ar rfl (by constructor)) ?_
    refine bv rfl ?_
    refine bv rfl ?_
    refine bv rfl ?_
    first | refine ae rfl (bt rfl rfl (by constructor)) ?_ | refine ae rfl (bu rfl rfl (by constructor)) ?_ | refine ae rfl (b7 rfl rfl rfl rfl) ?_ | refine ae rfl (bz rfl rfl rfl rfl) ?_
    refine am ?_
    dsimp only [St.put]
    refine hK8 _ ?_
    refine bl rfl (fun h => by cases h) (fun _ => ?_)
    have hst : ¬ (r.pl = p ∧ r.kind ≠ 2) := by
     first
      | exact fun h => h3 h.1
      | exact fun h => h.2 (ff hc)
    refine bn ?_
    refine hK6 _ ?_
    refine aq ?_
    first | refine ae rfl (bx rfl rfl rfl (by omega)) ?_ | refine ae rfl (cp rfl rfl rfl) ?_
    refine ae rfl (ar rfl (by constructor)) ?_
    refine am ?_
    dsimp only [St.put]
    exact ⟨k + 1, by omega, ⟨by omega, mg (p := fun r : bh => ¬ (r.pl = p ∧ r.kind ≠ 2)) hr hst hI.2⟩, ⟨⟨rfl, rfl⟩, zF, zB, zN, zX⟩⟩
  ·replace hc := of_decide_eq_false hc
   have hnone : il c.rs p (ii t p) = ii t p := ua fun r hr => hI.2 r (by rw [dd (by omega)]; exact hr)
   refine co ?_
   refine hK2 _ ?_
   refine aj fun K10 hK10 => ?_
   refine fw [(0, none), (1, none), (3, none), (4, none), (2, none), (5, none), (6, none), (7, none)] (fun i => [6].contains i) (fun i => [2, 6].contains i) (fun i => [0, 3, 5, 7].contains i) [] (by kernel_rfl) (by kernel_rfl) ?_
   refine ak rfl rfl rfl rfl (ar rfl (by constructor)) ?_
   try dsimp only [St.put]
   first | refine af rfl rfl rfl rfl (aw rfl rfl) ?_ | refine af rfl rfl rfl rfl (ah rfl rfl (Enc.len _)) ?_ | refine af rfl rfl rfl rfl (ah rfl rfl rfl) ?_ | refine af rfl rfl rfl rfl (a7 rfl rfl zG (by simp) (by first | rfl | assumption)) ?_ | refine af rfl rfl rfl rfl (az rfl rfl zG (by simp) (by rfl)) ?_ | refine af rfl rfl rfl rfl (a8 rfl rfl zG (by simp) (by simp)) ?_ | refine af rfl rfl rfl rfl (ai rfl rfl zG (by simp) (ay (by assumption) rfl)) ?_ | refine af rfl rfl rfl rfl (ai rfl rfl zG (by simp) (by assumption)) ?_ | refine af rfl rfl rfl rfl (a9 rfl rfl zG (by simp) rfl (by assumption) rfl (by decide)) ?_ | refine af rfl rfl rfl rfl (ba rfl rfl zG (by rfl)) ?_
   first | refine ak rfl rfl rfl rfl (bg rfl rfl rfl) ?_ | refine ak rfl rfl rfl rfl (bi rfl rfl) ?_
   try dsimp only [St.put]
   first | refine af rfl rfl rfl rfl (aw rfl rfl) ?_ | refine af rfl rfl rfl rfl (ah rfl rfl (Enc.len _)) ?_ | refine af rfl rfl rfl rfl (ah rfl rfl rfl) ?_ | refine af rfl rfl rfl rfl (a7 rfl rfl zG (by simp) (by first | rfl | assumption)) ?_ | refine af rfl rfl rfl rfl (az rfl rfl zG (by simp) (by rfl)) ?_ | refine af rfl rfl rfl rfl (a8 rfl rfl zG (by simp) (by simp)) ?_ | refine af rfl rfl rfl rfl (ai rfl rfl zG (by simp) (ay (by assumption) rfl)) ?_ | refine af rfl rfl rfl rfl (ai rfl rfl zG (by simp) (by assumption)) ?_ | refine af rfl rfl rfl rfl (a9 rfl rfl zG (by simp) rfl (by assumption) rfl (by decide)) ?_ | refine af rfl rfl rfl rfl (ba rfl rfl zG (by rfl)) ?_
   refine ie ?_
   try dsimp only [St.put]
   refine ge rfl rfl rfl (br rfl rfl rfl (hLn) ⟨zD, ?_⟩)
   try dsimp only [St.put]
   refine c0 rfl rfl rfl rfl (bf (k := kw) rfl rfl rfl hkw (bm hlw) (Enc.len _)) ?_
   try dsimp only [St.put]
   refine ez rfl rfl rfl rfl (SStep.e' (aw (D := fun _ => True) (c := .v (.string (ii t p))) (cs := []) rfl rfl) ?_)
   refine c0 rfl rfl rfl rfl (ax rfl (by constructor)) ?_
   refine ib ?_
   dsimp only [St.put]
   refine hK10 _ ?_
   refine bk ?_
   refine bo rfl (by constructor) zN zS ?_
   exact vs hnone.symm
theorem wt (n : Nat) (t : bd) (c : CopyD) (p : PlaceD) : gx n gi Tryd.prog 10 [dn t, val c, val p] (.tup [.v (.string (j0 t c p)), .v (.int .i64 (ix t c p))]) := fun G nx hF hnx => by
 refine je (G) (nx) Tryd.func10 rfl (.tup (cv .v (cv .v de))) zN (fun hlt => zH) ?_
 simp only [Tryd.ntmps10, List.length_cons, List.length_nil, Nat.reduceAdd, Nat.reduceSub]
 refine b9 fun hlt => ?_
 dsimp only at hlt
 refine aj fun K1 hK1 => ?_
 refine aq ?_
 try dsimp only [St.put]
 refine av rfl (cw rfl rfl (by simp) ?_)
 try dsimp only [St.put]
 refine av rfl (cw rfl rfl (by simp) ?_)
 try dsimp only [St.put]
 refine av rfl (cw rfl rfl (by simp) ?_)
 refine ae rfl (ax rfl (by constructor)) ?_
 refine ae rfl (ax rfl (by constructor)) ?_
 refine am ?_
 dsimp only [St.put]
 refine hK1 _ ?_
 refine aj fun K2 hK2 => ?_
 refine aq ?_
 try dsimp only [St.put]
 first | refine aa rfl (aw rfl rfl) ?_ | refine aa rfl (ah rfl rfl (Enc.len _)) ?_ | refine aa rfl (ah rfl rfl rfl) ?_ | refine aa rfl (a7 rfl rfl zG trivial (by first | rfl | assumption)) ?_ | refine aa rfl (az rfl rfl zG trivial (by rfl)) ?_ | refine aa rfl (a8 rfl rfl zG trivial (by simp)) ?_ | refine aa rfl (ai rfl rfl zG trivial (ay (by assumption) rfl)) ?_ | refine aa rfl (ai rfl rfl zG trivial (by assumption)) ?_ | refine aa rfl (a9 rfl rfl zG trivial rfl (by assumption) rfl (by decide)) ?_ | refine aa rfl (ba rfl rfl zG (by rfl)) ?_
 try dsimp only [St.put]
 first | refine aa rfl (aw rfl rfl) ?_ | refine aa rfl (ah rfl rfl (Enc.len _)) ?_ | refine aa rfl (ah rfl rfl rfl) ?_ | refine aa rfl (a7 rfl rfl zG trivial (by first | rfl | assumption)) ?_ | refine aa rfl (az rfl rfl zG trivial (by rfl)) ?_ | refine aa rfl (a8 rfl rfl zG trivial (by simp)) ?_ | refine aa rfl (ai rfl rfl zG trivial (ay (by assumption) rfl)) ?_ | refine aa rfl (ai rfl rfl zG trivial (by assumption)) ?_ | refine aa rfl (a9 rfl rfl zG trivial rfl (by assumption) rfl (by decide)) ?_ | refine aa rfl (ba rfl rfl zG (by rfl)) ?_
 try dsimp only [St.put]
 refine av rfl (gq rfl rfl rfl (qr n t c) zG (by dsimp only; omega) ?_)
 refine ae rfl (ar rfl (by constructor)) ?_
 refine ae rfl (da rfl rfl rfl) ?_
 refine ae rfl (da rfl rfl rfl) ?_
 refine ae rfl (ax rfl (by constructor)) ?_
 refine ae rfl (ax rfl (by constructor)) ?_
 refine am ?_
 dsimp only [St.put]
 refine hK2 _ ?_
 refine aj fun K3 hK3 => ?_
 refine aj fun K4 hK4 => ?_
 refine aq ?_
 refine ae rfl (ar rfl (by constructor)) ?_
 refine ae rfl (em rfl rfl rfl) ?_
 refine am ?_
 dsimp only [St.put]
 refine hK4 _ ?_
 refine bl rfl (fun hc => ?_) (fun hc => ?_)
 ·have h0 : ec t c ≠ 0 := gn hc
  have hE : ix t c p = ec t c := by simp [ix, h0]
  have hV : j0 t c p = ByteArray.empty := by simp [j0, hE, h0]
  refine aj fun K5 hK5 => ?_
  refine aq ?_
  refine ae rfl (ar rfl (by constructor)) ?_
  refine ae rfl (ax rfl (by constructor)) ?_
  refine ae rfl (ax rfl (by constructor)) ?_
  refine am ?_
  dsimp only [St.put]
  refine hK5 _ ?_
  refine bk ?_
  refine j4 rfl (by constructor) (by constructor) zN zS ?_ ?_
  ·exact vs hV.symm
  ·exact vi hE.symm
 ·have h0 : ec t c = 0 := ff hc
  obtain ⟨htx, _⟩ := copyEr_zero.1 h0
  rw [show ju t c = .elem [lst t] by simp [ju, h0]]
  refine bn ?_
  refine hK3 _ ?_
  refine aj fun K6 hK6 => ?_
  refine aj fun K7 hK7 => ?_
  refine aq ?_
  refine ae rfl (ar rfl (by constructor)) ?_
  try dsimp only [St.put]
  first | refine aa rfl (aw rfl rfl) ?_ | refine aa rfl (ah rfl rfl (Enc.len _)) ?_ | refine aa rfl (ah rfl rfl rfl) ?_ | refine aa rfl (a7 rfl rfl zG trivial (by first | rfl | assumption)) ?_ | refine aa rfl (az rfl rfl zG trivial (by rfl)) ?_ | refine aa rfl (a8 rfl rfl zG trivial (by simp)) ?_ | refine aa rfl (ai rfl rfl zG trivial (ay (by assumption) rfl)) ?_ | refine aa rfl (ai rfl rfl zG trivial (by assumption)) ?_ | refine aa rfl (a9 rfl rfl zG trivial rfl (by assumption) rfl (by decide)) ?_ | refine aa rfl (ba rfl rfl zG (by rfl)) ?_
  try dsimp only [St.put]
  refine av rfl (br rfl rfl rfl (uco t p htx) ?_)
  refine ae rfl (dt rfl rfl) ?_
  refine am ?_
  dsimp only [St.put]
  refine hK7 _ ?_
  refine bl rfl (fun hc => ?_) (fun hc => ?_)
  ·have h1 : fp t p = false := by simpa using hc
   have hE : ix t c p = 12 := by simp [ix, h0, h1]
   have hV : j0 t c p = ByteArray.empty := by simp [j0, hE]
   refine aj fun K8 hK8 => ?_
   refine aq ?_
   refine ae rfl (ax rfl (by constructor)) ?_
   refine ae rfl (ax rfl (by constructor)) ?_
   refine am ?_
   dsimp only [St.put]
   refine hK8 _ ?_
   refine bk ?_
   refine j4 rfl (by constructor) (by constructor) zN zS ?_ ?_
   ·exact vs hV.symm
   ·exact vi hE.symm
  ·have h1 : fp t p = true := by simpa using hc
   have hE : ix t c p = 0 := by simp [ix, h0, h1]
   have hV : j0 t c p = il c.rs p (ii t p) := by simp [j0, hE]
   refine bn ?_
   refine hK6 _ ?_
   refine aj fun K9 hK9 => ?_
   refine aq ?_
   refine ae rfl (ar rfl (by constructor)) ?_
   try dsimp only [St.put]
   first | refine aa rfl (aw rfl rfl) ?_ | refine aa rfl (ah rfl rfl (Enc.len _)) ?_ | refine aa rfl (ah rfl rfl rfl) ?_ | refine aa rfl (a7 rfl rfl zG trivial (by first | rfl | assumption)) ?_ | refine aa rfl (az rfl rfl zG trivial (by rfl)) ?_ | refine aa rfl (a8 rfl rfl zG trivial (by simp)) ?_ | refine aa rfl (ai rfl rfl zG trivial (ay (by assumption) rfl)) ?_ | refine aa rfl (ai rfl rfl zG trivial (by assumption)) ?_ | refine aa rfl (a9 rfl rfl zG trivial rfl (by assumption) rfl (by decide)) ?_ | refine aa rfl (ba rfl rfl zG (by rfl)) ?_
   try dsimp only [St.put]
   first | refine aa rfl (aw rfl rfl) ?_ | refine aa rfl (ah rfl rfl (Enc.len _)) ?_ | refine aa rfl (ah rfl rfl rfl) ?_ | refine aa rfl (a7 rfl rfl zG trivial (by first | rfl | assumption)) ?_ | refine aa rfl (az rfl rfl zG trivial (by rfl)) ?_ | refine aa rfl (a8 rfl rfl zG trivial (by simp)) ?_ | refine aa rfl (ai rfl rfl zG trivial (ay (by assumption) rfl)) ?_ | refine aa rfl (ai rfl rfl zG trivial (by assumption)) ?_ | refine aa rfl (a9 rfl rfl zG trivial rfl (by assumption) rfl (by decide)) ?_ | refine aa rfl (ba rfl rfl zG (by rfl)) ?_
   try dsimp only [St.put]
   refine av rfl (br rfl rfl rfl (yk t c p htx h1) ?_)
   refine ae rfl (ax rfl (by constructor)) ?_
   refine ae rfl (ax rfl (by constructor)) ?_
   refine am ?_
   dsimp only [St.put]
   refine hK9 _ ?_
   refine bk ?_
   refine j4 rfl (by constructor) (by constructor) zN zS ?_ ?_
   ·exact vs hV.symm
   ·exact vi hE.symm
theorem ufy (n : Nat) (xs : List CopyD) (p : CopyD → Bool) (k : Nat) (caps : List C) [Fun Tryd.prog k] (hp : ∀ x ∈ xs, gx n gi Tryd.prog k (val x :: caps) (.v (.bool (p x)))) : gx n gi Tryd.prog 45 [lst xs, .fn (.func k) caps] (.v (.int .i64 (idxOf p xs))) := fun G nx hF hnx => by
 refine je (G) (nx) Tryd.func45 rfl (.v) zN (fun hlt => zH) ?_
 simp only [Tryd.ntmps45, List.length_cons, List.length_nil, Nat.reduceAdd, Nat.reduceSub]
 refine b9 fun hlt => ?_
 dsimp only at hlt
 refine fj 0 (fun hf => ?_)
 replace hf := (fit_lst.1 hf).1
 refine aj fun K1 hK1 => ?_
 refine aq ?_
 refine ae rfl (ax rfl (by constructor)) ?_
 refine am ?_
 dsimp only [St.put]
 refine hK1 _ ?_
 refine aj fun K2 hK2 => ?_
 refine aj fun K3 hK3 => ?_
 refine aq ?_
 refine ae rfl (ar rfl (by constructor)) ?_
 first | refine ae rfl (bj rfl rfl (List.length_map _)) ?_ | refine ae rfl (bj rfl rfl rfl) ?_ | refine ae rfl (b8 rfl rfl) ?_ | refine ae rfl (cd rfl rfl) ?_ | refine ae rfl (cb rfl rfl) ?_ | refine ae rfl (ca rfl rfl (by omega)) ?_
 refine ae rfl (ar rfl (by constructor)) ?_
 refine am ?_
 dsimp only [St.put]
 refine hK3 _ ?_
 refine bq ?_
 refine cg 9 ?_
 refine zQ ?_
 refine cn (G) zX ?_
 dsimp only
 refine cz (X := Nat) (fun k => k ≤ xs.length ∧ ∀ y ∈ xs.take k, p y = false) (fun k => xs.length - k) (fun k => [(4, .any), (5, .any), (8, .v (.int .i64 (k : Int)))]) (fun k G' => G') 0 rfl ?_ ?_ (fun _ _ h => h) ?_ ?_ ?_
 ·exact ⟨by simp, by simp⟩
 ·exact zF
 ·rintro k hI
  exact zL
 ·exact fun _ _ _ _ h => .inl h
 ·rintro k hI
  dsimp only at hI ⊢
  refine aj fun K4 hK4 => ?_
  refine aq ?_
  refine ae rfl (cj rfl rfl rfl) ?_
  refine am ?_
  dsimp only [St.put]
  refine hK4 _ ?_
  refine aj fun K5 hK5 => ?_
  refine bl rfl (fun hc => ?_) (fun hc => ?_)
  ·replace hc := of_decide_eq_true hc
   obtain ⟨x, hx⟩ : ∃ x, xs[k]? = some x := cm (by omega)
   refine bn ?_
   refine hK5 _ ?_
   refine aj fun K6 hK6 => ?_
   refine bq ?_
   refine aj fun K7 hK7 => ?_
   refine aq ?_
   refine ae rfl (ar rfl (by constructor)) ?_
   refine ae rfl (ax rfl (by constructor)) ?_
   refine am ?_
   dsimp only [St.put]
   refine hK7 _ ?_
   refine aj fun K8 hK8 => ?_
   refine aq ?_
   refine ae rfl (ar rfl (by constructor)) ?_
   refine ae rfl (ar rfl (by constructor)) ?_
   refine ae rfl (ar rfl (by constructor)) ?_
   try dsimp only [St.put]
   first | refine ae rfl (bf rfl rfl rfl rfl (bm (by assumption)) (Enc.len _)) ?_ | refine ae rfl (bf rfl rfl rfl rfl (by assumption) rfl) ?_ | refine ae rfl (cr rfl rfl rfl (by first | exact ct _ | exact rfl) (by omega)) ?_ | refine ae rfl (bf rfl rfl rfl (by omega) (bm (by assumption)) (Enc.len _)) ?_
   try dsimp only [St.put]
   first | refine aa rfl (aw rfl rfl) ?_ | refine aa rfl (ah rfl rfl (Enc.len _)) ?_ | refine aa rfl (ah rfl rfl rfl) ?_ | refine aa rfl (a7 rfl rfl zG trivial (by first | rfl | assumption)) ?_ | refine aa rfl (az rfl rfl zG trivial (by rfl)) ?_ | refine aa rfl (a8 rfl rfl zG trivial (by simp)) ?_ | refine aa rfl (ai rfl rfl zG trivial (ay (by assumption) rfl)) ?_ | refine aa rfl (ai rfl rfl zG trivial (by assumption)) ?_ | refine aa rfl (a9 rfl rfl zG trivial rfl (by assumption) rfl (by decide)) ?_ | refine aa rfl (ba rfl rfl zG (by rfl)) ?_
   try dsimp only [St.put]
   refine av rfl (gq rfl rfl rfl (hp x (dv hx)) zG (by dsimp only; omega) ?_)
   refine am ?_
   dsimp only [St.put]
   refine hK8 _ ?_
   refine bl rfl (fun hc => ?_) (fun hc => ?_)
   ·skip
    refine aj fun K9 hK9 => ?_
    refine aq ?_
    refine ae rfl (ar rfl (by constructor)) ?_
    refine ae rfl (ax rfl (by constructor)) ?_
    refine am ?_
    dsimp only [St.put]
    refine hK9 _ ?_
    refine bk ?_
    refine bo rfl (by constructor) zN zS ?_
    exact vi (m6 hx hc hI.2).symm
   ·skip
    refine bn ?_
    refine hK6 _ ?_
    refine aq ?_
    first | refine ae rfl (bx rfl rfl rfl (by omega)) ?_ | refine ae rfl (cp rfl rfl rfl) ?_
    refine ae rfl (ar rfl (by constructor)) ?_
    refine am ?_
    dsimp only [St.put]
    exact ⟨k + 1, by omega, ⟨by omega, mg (p := fun y => p y = false) hx (by simpa using hc) hI.2⟩, ⟨⟨rfl, rfl⟩, zF, zB, zN, zX⟩⟩
  ·try replace hc := of_decide_eq_false hc
   refine co ?_
   refine hK2 _ ?_
   refine aj fun K10 hK10 => ?_
   refine aq ?_
   refine ae rfl (ax rfl (by constructor)) ?_
   refine am ?_
   dsimp only [St.put]
   refine hK10 _ ?_
   refine bk ?_
   refine bo rfl (by constructor) zN zS ?_
   exact vi (by
    rw [m7]
    have := hI.2
    rwa [dd (by omega)] at this)
theorem uf6 (n : Nat) (xs : List CopyD) (p : CopyD → Bool) (k : Nat) (caps : List C) [Fun Tryd.prog k] (hp : ∀ x ∈ xs, gx n gi Tryd.prog k (val x :: caps) (.v (.bool (p x)))) : gx n gi Tryd.prog 27 [lst xs, .fn (.func k) caps] (.v (.bool (xs.any p))) := fun G nx hF hnx => by
 refine je (G) (nx) Tryd.func27 rfl (.v) zN (fun hlt => zH) ?_
 simp only [Tryd.ntmps27, List.length_cons, List.length_nil, Nat.reduceAdd, Nat.reduceSub]
 refine b9 fun hlt => ?_
 dsimp only at hlt
 refine aj fun K1 hK1 => ?_
 refine aq ?_
 refine ae rfl (ax rfl (by constructor)) ?_
 refine am ?_
 dsimp only [St.put]
 refine hK1 _ ?_
 refine aj fun K2 hK2 => ?_
 refine aq ?_
 refine ae rfl (ar rfl (by constructor)) ?_
 refine ae rfl (ar rfl (by constructor)) ?_
 try dsimp only [St.put]
 refine av rfl (gq rfl rfl rfl (ufy n xs p k caps hp) zG (by dsimp only; omega) ?_)
 refine ae rfl (mf rfl rfl rfl) ?_
 refine ae rfl (ax rfl (by constructor)) ?_
 refine am ?_
 dsimp only [St.put]
 refine hK2 _ ?_
 refine bk ?_
 refine bo rfl (by constructor) zN zS ?_
 exact vb m8
theorem ufz (xs : List CopyD) (p : CopyD → Bool) (k : Nat) (caps : List C) [Fun Tryd.prog k] (hp : ∀ x ∈ xs, Pure Tryd.prog k (val x :: caps) (.v (.bool (p x)))) : Pure Tryd.prog 45 [lst xs, .fn (.func k) caps] (.v (.int .i64 (idxOf p xs))) := by
 refine cx Tryd.func45 rfl (fun m => .v) fun G nx => ?_
 simp only [Tryd.ntmps45, List.length_cons, List.length_nil, Nat.reduceAdd, Nat.reduceSub]
 refine b9 fun hlt => ?_
 dsimp only at hlt
 refine fj 0 (fun hf => ?_)
 replace hf := (fit_lst.1 hf).1
 refine aj fun K1 hK1 => ?_
 refine aq ?_
 refine ae rfl (ax rfl (by constructor)) ?_
 refine am ?_
 dsimp only [St.put]
 refine hK1 _ ?_
 refine aj fun K2 hK2 => ?_
 refine aj fun K3 hK3 => ?_
 refine aq ?_
 refine ae rfl (ar rfl (by constructor)) ?_
 first | refine ae rfl (bj rfl rfl (List.length_map _)) ?_ | refine ae rfl (bj rfl rfl rfl) ?_ | refine ae rfl (b8 rfl rfl) ?_ | refine ae rfl (cd rfl rfl) ?_ | refine ae rfl (cb rfl rfl) ?_ | refine ae rfl (ca rfl rfl (by omega)) ?_
 refine ae rfl (ar rfl (by constructor)) ?_
 refine am ?_
 dsimp only [St.put]
 refine hK3 _ ?_
 refine bq ?_
 refine cg 9 ?_
 refine zQ ?_
 refine cn (G) zX ?_
 dsimp only
 refine cz (X := Nat) (fun k => k ≤ xs.length ∧ ∀ y ∈ xs.take k, p y = false) (fun k => xs.length - k) (fun k => [(4, .any), (5, .any), (8, .v (.int .i64 (k : Int)))]) (fun k G' => G') 0 rfl ?_ ?_ (fun _ _ h => h) ?_ ?_ ?_
 ·exact ⟨by simp, by simp⟩
 ·exact zF
 ·rintro k hI
  exact zL
 ·exact fun _ _ _ _ h => .inl h
 ·rintro k hI
  dsimp only at hI ⊢
  refine aj fun K4 hK4 => ?_
  refine aq ?_
  refine ae rfl (cj rfl rfl rfl) ?_
  refine am ?_
  dsimp only [St.put]
  refine hK4 _ ?_
  refine aj fun K5 hK5 => ?_
  refine bl rfl (fun hc => ?_) (fun hc => ?_)
  ·replace hc := of_decide_eq_true hc
   obtain ⟨x, hx⟩ : ∃ x, xs[k]? = some x := cm (by omega)
   refine bn ?_
   refine hK5 _ ?_
   refine aj fun K6 hK6 => ?_
   refine bq ?_
   refine aj fun K7 hK7 => ?_
   refine aq ?_
   refine ae rfl (ar rfl (by constructor)) ?_
   refine ae rfl (ax rfl (by constructor)) ?_
   refine am ?_
   dsimp only [St.put]
   refine hK7 _ ?_
   refine aj fun K8 hK8 => ?_
   refine aq ?_
   refine ae rfl (ar rfl (by constructor)) ?_
   refine ae rfl (ar rfl (by constructor)) ?_
   refine ae rfl (ar rfl (by constructor)) ?_
   try dsimp only [St.put]
   first | refine ae rfl (bf rfl rfl rfl rfl (bm (by assumption)) (Enc.len _)) ?_ | refine ae rfl (bf rfl rfl rfl rfl (by assumption) rfl) ?_ | refine ae rfl (cr rfl rfl rfl (by first | exact ct _ | exact rfl) (by omega)) ?_ | refine ae rfl (bf rfl rfl rfl (by omega) (bm (by assumption)) (Enc.len _)) ?_
   try dsimp only [St.put]
   first | refine aa rfl (aw rfl rfl) ?_ | refine aa rfl (ah rfl rfl (Enc.len _)) ?_ | refine aa rfl (ah rfl rfl rfl) ?_ | refine aa rfl (a7 rfl rfl zG trivial (by first | rfl | assumption)) ?_ | refine aa rfl (az rfl rfl zG trivial (by rfl)) ?_ | refine aa rfl (a8 rfl rfl zG trivial (by simp)) ?_ | refine aa rfl (ai rfl rfl zG trivial (ay (by assumption) rfl)) ?_ | refine aa rfl (ai rfl rfl zG trivial (by assumption)) ?_ | refine aa rfl (a9 rfl rfl zG trivial rfl (by assumption) rfl (by decide)) ?_ | refine aa rfl (ba rfl rfl zG (by rfl)) ?_
   try dsimp only [St.put]
   refine av rfl (br rfl rfl rfl (hp x (dv hx)) ?_)
   refine am ?_
   dsimp only [St.put]
   refine hK8 _ ?_
   refine bl rfl (fun hc => ?_) (fun hc => ?_)
   ·skip
    refine aj fun K9 hK9 => ?_
    refine aq ?_
    refine ae rfl (ar rfl (by constructor)) ?_
    refine ae rfl (ax rfl (by constructor)) ?_
    refine am ?_
    dsimp only [St.put]
    refine hK9 _ ?_
    refine bk ?_
    refine bo rfl (by constructor) zN zS ?_
    exact vi (m6 hx hc hI.2).symm
   ·skip
    refine bn ?_
    refine hK6 _ ?_
    refine aq ?_
    first | refine ae rfl (bx rfl rfl rfl (by omega)) ?_ | refine ae rfl (cp rfl rfl rfl) ?_
    refine ae rfl (ar rfl (by constructor)) ?_
    refine am ?_
    dsimp only [St.put]
    exact ⟨k + 1, by omega, ⟨by omega, mg (p := fun y => p y = false) hx (by simpa using hc) hI.2⟩, ⟨⟨rfl, rfl⟩, zF, zB, zN, zX⟩⟩
  ·try replace hc := of_decide_eq_false hc
   refine co ?_
   refine hK2 _ ?_
   refine aj fun K10 hK10 => ?_
   refine aq ?_
   refine ae rfl (ax rfl (by constructor)) ?_
   refine am ?_
   dsimp only [St.put]
   refine hK10 _ ?_
   refine bk ?_
   refine bo rfl (by constructor) zN zS ?_
   exact vi (by
    rw [m7]
    have := hI.2
    rwa [dd (by omega)] at this)
theorem uf7 (xs : List CopyD) (p : CopyD → Bool) (k : Nat) (caps : List C) [Fun Tryd.prog k] (hp : ∀ x ∈ xs, Pure Tryd.prog k (val x :: caps) (.v (.bool (p x)))) : Pure Tryd.prog 27 [lst xs, .fn (.func k) caps] (.v (.bool (xs.any p))) := by
 refine cx Tryd.func27 rfl (fun m => .v) fun G nx => ?_
 simp only [Tryd.ntmps27, List.length_cons, List.length_nil, Nat.reduceAdd, Nat.reduceSub]
 refine b9 fun hlt => ?_
 dsimp only at hlt
 refine aj fun K1 hK1 => ?_
 refine aq ?_
 refine ae rfl (ax rfl (by constructor)) ?_
 refine am ?_
 dsimp only [St.put]
 refine hK1 _ ?_
 refine aj fun K2 hK2 => ?_
 refine aq ?_
 refine ae rfl (ar rfl (by constructor)) ?_
 refine ae rfl (ar rfl (by constructor)) ?_
 try dsimp only [St.put]
 refine av rfl (br rfl rfl rfl (ufz xs p k caps hp) ?_)
 refine ae rfl (mf rfl rfl rfl) ?_
 refine ae rfl (ax rfl (by constructor)) ?_
 refine am ?_
 dsimp only [St.put]
 refine hK2 _ ?_
 refine bk ?_
 refine bo rfl (by constructor) zN zS ?_
 exact vb m8
theorem uea (n : Nat) (t : bd) (c : CopyD) (ht : ck t = true) : gx n gi Tryd.prog 28 [val c, .elem [.elem [lst t]]] (.v (.bool (!eo t c))) := fun G nx hF hnx => by
 refine je (G) (nx) Tryd.func28 rfl (.v) zN (fun hlt => zH) ?_
 simp only [Tryd.ntmps28, List.length_cons, List.length_nil, Nat.reduceAdd, Nat.reduceSub]
 refine b9 fun hlt => ?_
 dsimp only at hlt
 refine aj fun K1 hK1 => ?_
 refine aq ?_
 try dsimp only [St.put]
 refine av rfl (cw rfl rfl (by simp) ?_)
 refine ae rfl (ax rfl (by constructor)) ?_
 refine am ?_
 dsimp only [St.put]
 refine hK1 _ ?_
 refine aj fun K2 hK2 => ?_
 refine aq ?_
 try dsimp only [St.put]
 first | refine aa rfl (aw rfl rfl) ?_ | refine aa rfl (ah rfl rfl (Enc.len _)) ?_ | refine aa rfl (ah rfl rfl rfl) ?_ | refine aa rfl (a7 rfl rfl zG trivial (by first | rfl | assumption)) ?_ | refine aa rfl (az rfl rfl zG trivial (by rfl)) ?_ | refine aa rfl (a8 rfl rfl zG trivial (by simp)) ?_ | refine aa rfl (ai rfl rfl zG trivial (ay (by assumption) rfl)) ?_ | refine aa rfl (ai rfl rfl zG trivial (by assumption)) ?_ | refine aa rfl (a9 rfl rfl zG trivial rfl (by assumption) rfl (by decide)) ?_ | refine aa rfl (ba rfl rfl zG (by rfl)) ?_
 try dsimp only [St.put]
 first | refine aa rfl (aw rfl rfl) ?_ | refine aa rfl (ah rfl rfl (Enc.len _)) ?_ | refine aa rfl (ah rfl rfl rfl) ?_ | refine aa rfl (a7 rfl rfl zG trivial (by first | rfl | assumption)) ?_ | refine aa rfl (az rfl rfl zG trivial (by rfl)) ?_ | refine aa rfl (a8 rfl rfl zG trivial (by simp)) ?_ | refine aa rfl (ai rfl rfl zG trivial (ay (by assumption) rfl)) ?_ | refine aa rfl (ai rfl rfl zG trivial (by assumption)) ?_ | refine aa rfl (a9 rfl rfl zG trivial rfl (by assumption) rfl (by decide)) ?_ | refine aa rfl (ba rfl rfl zG (by rfl)) ?_
 try dsimp only [St.put]
 refine av rfl (gq rfl rfl rfl (yl n t c ht) zG (by dsimp only; omega) ?_)
 refine ae rfl (dt rfl rfl) ?_
 refine ae rfl (ax rfl (by constructor)) ?_
 refine am ?_
 dsimp only [St.put]
 refine hK2 _ ?_
 refine bk ?_
 refine bo rfl (by constructor) zN zS ?_
 rfl
theorem ud9 (t : bd) (c : CopyD) (x : PW) (ht : ck t = true) (hx : x ∈ dq t) : Pure Tryd.prog 31 [val c, .elem [.elem [lst t]], .elem (cells x.1), .elem [.v (.string x.2)]] (.v (.bool (!decide (il c.rs x.1 x.2 = x.2)))) := by
 refine cx Tryd.func31 rfl (fun m => .v) fun G nx => ?_
 simp only [Tryd.ntmps31, List.length_cons, List.length_nil, Nat.reduceAdd, Nat.reduceSub]
 refine b9 fun hlt => ?_
 dsimp only at hlt
 have hp : fp t x.1 = true := allP_mem.1 (List.mem_map.2 ⟨x, hx, rfl⟩)
 have hS := yk t c x.1 ht hp
 rw [y6 hx] at hS
 refine aj fun K1 hK1 => ?_
 refine aq ?_
 try dsimp only [St.put]
 refine av rfl (cw rfl rfl (by simp) ?_)
 refine ae rfl (ax rfl (by constructor)) ?_
 refine am ?_
 dsimp only [St.put]
 refine hK1 _ ?_
 refine aj fun K2 hK2 => ?_
 refine fw [(0, none), (1, none), (2, none), (4, none), (3, none), (5, none), (6, none)] (fun i => [].contains i) (fun i => [3].contains i) (fun i => [5, 6].contains i) [] (by kernel_rfl) (by kernel_rfl) ?_
 try dsimp only [St.put]
 first | refine af rfl rfl rfl rfl (aw rfl rfl) ?_ | refine af rfl rfl rfl rfl (ah rfl rfl (Enc.len _)) ?_ | refine af rfl rfl rfl rfl (ah rfl rfl rfl) ?_ | refine af rfl rfl rfl rfl (a7 rfl rfl zG (by simp) (by first | rfl | assumption)) ?_ | refine af rfl rfl rfl rfl (az rfl rfl zG (by simp) (by rfl)) ?_ | refine af rfl rfl rfl rfl (a8 rfl rfl zG (by simp) (by simp)) ?_ | refine af rfl rfl rfl rfl (ai rfl rfl zG (by simp) (ay (by assumption) rfl)) ?_ | refine af rfl rfl rfl rfl (ai rfl rfl zG (by simp) (by assumption)) ?_ | refine af rfl rfl rfl rfl (a9 rfl rfl zG (by simp) rfl (by assumption) rfl (by decide)) ?_ | refine af rfl rfl rfl rfl (ba rfl rfl zG (by rfl)) ?_
 try dsimp only [St.put]
 first | refine af rfl rfl rfl rfl (aw rfl rfl) ?_ | refine af rfl rfl rfl rfl (ah rfl rfl (Enc.len _)) ?_ | refine af rfl rfl rfl rfl (ah rfl rfl rfl) ?_ | refine af rfl rfl rfl rfl (a7 rfl rfl zG (by simp) (by first | rfl | assumption)) ?_ | refine af rfl rfl rfl rfl (az rfl rfl zG (by simp) (by rfl)) ?_ | refine af rfl rfl rfl rfl (a8 rfl rfl zG (by simp) (by simp)) ?_ | refine af rfl rfl rfl rfl (ai rfl rfl zG (by simp) (ay (by assumption) rfl)) ?_ | refine af rfl rfl rfl rfl (ai rfl rfl zG (by simp) (by assumption)) ?_ | refine af rfl rfl rfl rfl (a9 rfl rfl zG (by simp) rfl (by assumption) rfl (by decide)) ?_ | refine af rfl rfl rfl rfl (ba rfl rfl zG (by rfl)) ?_
 try dsimp only [St.put]
 first | refine af rfl rfl rfl rfl (aw rfl rfl) ?_ | refine af rfl rfl rfl rfl (ah rfl rfl (Enc.len _)) ?_ | refine af rfl rfl rfl rfl (ah rfl rfl rfl) ?_ | refine af rfl rfl rfl rfl (a7 rfl rfl zG (by simp) (by first | rfl | assumption)) ?_ | refine af rfl rfl rfl rfl (az rfl rfl zG (by simp) (by rfl)) ?_ | refine af rfl rfl rfl rfl (a8 rfl rfl zG (by simp) (by simp)) ?_ | refine af rfl rfl rfl rfl (ai rfl rfl zG (by simp) (ay (by assumption) rfl)) ?_ | refine af rfl rfl rfl rfl (ai rfl rfl zG (by simp) (by assumption)) ?_ | refine af rfl rfl rfl rfl (a9 rfl rfl zG (by simp) rfl (by assumption) rfl (by decide)) ?_ | refine af rfl rfl rfl rfl (ba rfl rfl zG (by rfl)) ?_
 try dsimp only [St.put]
 first | refine af rfl rfl rfl rfl (aw rfl rfl) ?_ | refine af rfl rfl rfl rfl (ah rfl rfl (Enc.len _)) ?_ | refine af rfl rfl rfl rfl (ah rfl rfl rfl) ?_ | refine af rfl rfl rfl rfl (a7 rfl rfl zG (by simp) (by first | rfl | assumption)) ?_ | refine af rfl rfl rfl rfl (az rfl rfl zG (by simp) (by rfl)) ?_ | refine af rfl rfl rfl rfl (a8 rfl rfl zG (by simp) (by simp)) ?_ | refine af rfl rfl rfl rfl (ai rfl rfl zG (by simp) (ay (by assumption) rfl)) ?_ | refine af rfl rfl rfl rfl (ai rfl rfl zG (by simp) (by assumption)) ?_ | refine af rfl rfl rfl rfl (a9 rfl rfl zG (by simp) rfl (by assumption) rfl (by decide)) ?_ | refine af rfl rfl rfl rfl (ba rfl rfl zG (by rfl)) ?_
 refine ie ?_
 try dsimp only [St.put]
 refine ge rfl rfl rfl (br rfl rfl rfl (hS) ⟨zD, ?_⟩)
 refine c0 rfl rfl rfl rfl (me rfl rfl rfl) ?_
 refine c0 rfl rfl rfl rfl (ax rfl (by constructor)) ?_
 refine ib ?_
 dsimp only [St.put]
 refine hK2 _ ?_
 refine bk ?_
 refine bo rfl (by constructor) zN zS ?_
 rfl
theorem ucq (n : Nat) (t : bd) (cs : List CopyD) (htx : ck t = false) : gx n gi Tryd.prog 12 [dn t, lst cs] (.tup [lst ([] : List PlaceD), .v (.int .i64 10)]) := fun G nx hF hnx => by
 refine je (G) (nx) Tryd.func12 rfl (.tup (cv (ce _ _) (cv .v de))) zN (fun hlt => zH) ?_
 simp only [Tryd.ntmps12, List.length_cons, List.length_nil, Nat.reduceAdd, Nat.reduceSub]
 refine b9 fun hlt => ?_
 dsimp only at hlt
 refine aj fun K1 hK1 => ?_
 refine aq ?_
 try dsimp only [St.put]
 refine av rfl (cw rfl rfl (by simp) ?_)
 try dsimp only [St.put]
 refine av rfl (cw rfl rfl (by simp) ?_)
 refine ae rfl (ax rfl (by constructor)) ?_
 refine ae rfl (ax rfl (by constructor)) ?_
 refine am ?_
 dsimp only [St.put]
 refine hK1 _ ?_
 refine aj fun K2 hK2 => ?_
 refine aq ?_
 try dsimp only [St.put]
 first | refine aa rfl (aw rfl rfl) ?_ | refine aa rfl (ah rfl rfl (Enc.len _)) ?_ | refine aa rfl (ah rfl rfl rfl) ?_ | refine aa rfl (a7 rfl rfl zG trivial (by first | rfl | assumption)) ?_ | refine aa rfl (az rfl rfl zG trivial (by rfl)) ?_ | refine aa rfl (a8 rfl rfl zG trivial (by simp)) ?_ | refine aa rfl (ai rfl rfl zG trivial (ay (by assumption) rfl)) ?_ | refine aa rfl (ai rfl rfl zG trivial (by assumption)) ?_ | refine aa rfl (a9 rfl rfl zG trivial rfl (by assumption) rfl (by decide)) ?_ | refine aa rfl (ba rfl rfl zG (by rfl)) ?_
 try dsimp only [St.put]
 refine av rfl (br rfl rfl rfl (ucm t htx) ?_)
 refine ae rfl (ar rfl (by constructor)) ?_
 refine ae rfl (da rfl rfl rfl) ?_
 refine ae rfl (da rfl rfl rfl) ?_
 try dsimp only [St.put]
 refine av rfl (di rfl ?_)
 try dsimp only [St.put]
 first | refine av rfl (c8 rfl rfl rfl zG rfl rfl (by rfl) ?_) | refine av rfl (dh rfl rfl rfl zG (by constructor) rfl zO ?_)
 refine ae rfl (ax rfl (by constructor)) ?_
 refine am ?_
 dsimp only [St.put]
 refine hK2 _ ?_
 refine ep (i := 6) rfl zG zC ?_
 dsimp only
 refine aj fun K3 hK3 => ?_
 refine aj fun K4 hK4 => ?_
 refine aq ?_
 refine ae rfl (ar rfl (by constructor)) ?_
 refine ae rfl (du (c := true) (em rfl rfl rfl) (ubq (by decide))) ?_
 refine am ?_
 dsimp only [St.put]
 refine hK4 _ ?_
 refine bl rfl (fun _ => ?_) (fun h => by cases h)
 refine aj fun K5 hK5 => ?_
 refine aq ?_
 refine ae rfl (ar rfl (by constructor)) ?_
 refine ae rfl (ax rfl (by constructor)) ?_
 refine ae rfl (ax rfl (by constructor)) ?_
 refine am ?_
 dsimp only [St.put]
 refine hK5 _ ?_
 refine bk ?_
 refine i1 rfl (ed (by constructor)) (ed (by constructor)) zN zS ?_ ?_
 ·exact zW
 ·exact zW
set_option maxHeartbeats 2000000 in
theorem ucp (n : Nat) (t : bd) (cs : List CopyD) (htx : ck t = true) : gx n gi Tryd.prog 12 [dn t, lst cs] (.tup [lst (gk t cs), .v (.int .i64 (f9 t cs))]) := fun G nx hF hnx => by
 refine je (G) (nx) Tryd.func12 rfl (.tup (cv (ce _ _) (cv .v de))) zN (fun hlt => zH) ?_
 simp only [Tryd.ntmps12, List.length_cons, List.length_nil, Nat.reduceAdd, Nat.reduceSub]
 refine b9 fun hlt => ?_
 dsimp only at hlt
 have hlen := tf htx
 refine aj fun K1 hK1 => ?_
 refine aq ?_
 try dsimp only [St.put]
 refine av rfl (cw rfl rfl (by simp) ?_)
 try dsimp only [St.put]
 refine av rfl (cw rfl rfl (by simp) ?_)
 refine ae rfl (ax rfl (by constructor)) ?_
 refine ae rfl (ax rfl (by constructor)) ?_
 refine am ?_
 dsimp only [St.put]
 refine hK1 _ ?_
 refine aj fun K2 hK2 => ?_
 refine aq ?_
 try dsimp only [St.put]
 first | refine aa rfl (aw rfl rfl) ?_ | refine aa rfl (ah rfl rfl (Enc.len _)) ?_ | refine aa rfl (ah rfl rfl rfl) ?_ | refine aa rfl (a7 rfl rfl zG trivial (by first | rfl | assumption)) ?_ | refine aa rfl (az rfl rfl zG trivial (by rfl)) ?_ | refine aa rfl (a8 rfl rfl zG trivial (by simp)) ?_ | refine aa rfl (ai rfl rfl zG trivial (ay (by assumption) rfl)) ?_ | refine aa rfl (ai rfl rfl zG trivial (by assumption)) ?_ | refine aa rfl (a9 rfl rfl zG trivial rfl (by assumption) rfl (by decide)) ?_ | refine aa rfl (ba rfl rfl zG (by rfl)) ?_
 try dsimp only [St.put]
 refine av rfl (br rfl rfl rfl (ucl t htx) ?_)
 refine ae rfl (ar rfl (by constructor)) ?_
 refine ae rfl (da rfl rfl rfl) ?_
 refine ae rfl (da rfl rfl rfl) ?_
 try dsimp only [St.put]
 refine av rfl (di rfl ?_)
 try dsimp only [St.put]
 first | refine av rfl (c8 rfl rfl rfl zG rfl rfl (by rfl) ?_) | refine av rfl (dh rfl rfl rfl zG (by constructor) rfl zO ?_)
 refine ae rfl (ax rfl (by constructor)) ?_
 refine am ?_
 dsimp only [St.put]
 refine hK2 _ ?_
 refine ep (i := 6) rfl zG zC ?_
 dsimp only
 refine aj fun K3 hK3 => ?_
 refine aj fun K4 hK4 => ?_
 refine aq ?_
 refine ae rfl (ar rfl (by constructor)) ?_
 refine ae rfl (du (c := false) (em rfl rfl rfl) (ubr rfl)) ?_
 refine am ?_
 dsimp only [St.put]
 refine hK4 _ ?_
 refine bl rfl (fun h => by cases h) (fun _ => ?_)
 refine bn ?_
 refine hK3 _ ?_
 refine aj fun K5 hK5 => ?_
 refine aj fun K6 hK6 => ?_
 refine aq ?_
 try dsimp only [St.put]
 first | refine aa rfl (aw rfl rfl) ?_ | refine aa rfl (ah rfl rfl (Enc.len _)) ?_ | refine aa rfl (ah rfl rfl rfl) ?_ | refine aa rfl (a7 rfl rfl zG trivial (by first | rfl | assumption)) ?_ | refine aa rfl (az rfl rfl zG trivial (by rfl)) ?_ | refine aa rfl (a8 rfl rfl zG trivial (by simp)) ?_ | refine aa rfl (ai rfl rfl zG trivial (ay (by assumption) rfl)) ?_ | refine aa rfl (ai rfl rfl zG trivial (by assumption)) ?_ | refine aa rfl (a9 rfl rfl zG trivial rfl (by assumption) rfl (by decide)) ?_ | refine aa rfl (ba rfl rfl zG (by rfl)) ?_
 first | refine ae rfl (bj rfl rfl (List.length_map _)) ?_ | refine ae rfl (bj rfl rfl rfl) ?_ | refine ae rfl (b8 rfl rfl) ?_ | refine ae rfl (cd rfl rfl) ?_ | refine ae rfl (cb rfl rfl) ?_ | refine ae rfl (ca rfl rfl (by omega)) ?_
 refine ae rfl (g7 rfl rfl rfl) ?_
 refine am ?_
 dsimp only [St.put]
 refine hK6 _ ?_
 refine bl rfl (fun hc => ?_) (fun hc => ?_)
 ·replace hc := of_decide_eq_true hc
  have hE : f9 t cs = 4 := by simp [f9, htx, show ¬ cs.length ≤ 5 by omega]
  refine aj fun K7 hK7 => ?_
  refine aq ?_
  refine ae rfl (ax rfl (by constructor)) ?_
  refine ae rfl (ax rfl (by constructor)) ?_
  refine am ?_
  dsimp only [St.put]
  refine hK7 _ ?_
  refine bk ?_
  refine i1 rfl (ed (by constructor)) (ed (by constructor)) zN zS ?_ ?_
  ·rw [show gk t cs = [] by simp [gk, hE]]
   exact zW
  ·rw [hE]; exact zW
 ·replace hc := of_decide_eq_false hc
  have hl5 : cs.length ≤ 5 := by omega
  refine bn ?_
  refine hK5 _ ?_
  refine aj fun K8 hK8 => ?_
  refine aj fun K9 hK9 => ?_
  refine aq ?_
  try dsimp only [St.put]
  first | refine aa rfl (aw rfl rfl) ?_ | refine aa rfl (ah rfl rfl (Enc.len _)) ?_ | refine aa rfl (ah rfl rfl rfl) ?_ | refine aa rfl (a7 rfl rfl zG trivial (by first | rfl | assumption)) ?_ | refine aa rfl (az rfl rfl zG trivial (by rfl)) ?_ | refine aa rfl (a8 rfl rfl zG trivial (by simp)) ?_ | refine aa rfl (ai rfl rfl zG trivial (ay (by assumption) rfl)) ?_ | refine aa rfl (ai rfl rfl zG trivial (by assumption)) ?_ | refine aa rfl (a9 rfl rfl zG trivial rfl (by assumption) rfl (by decide)) ?_ | refine aa rfl (ba rfl rfl zG (by rfl)) ?_
  refine ae rfl (pt rfl rfl) ?_
  try dsimp only [St.put]
  refine av rfl (gq rfl rfl rfl (uf6 n cs (fun c => !eo t c) _ _ fun c _ => uea n t c htx) zG (by dsimp only; omega) ?_)
  refine am ?_
  dsimp only [St.put]
  refine hK9 _ ?_
  refine bl rfl (fun hc => ?_) (fun hc => ?_)
  ·have hE : f9 t cs = 11 := by
    have : cs.all (eo t) = false := by
     obtain ⟨c, h1, h2⟩ := List.any_eq_true.1 hc
     exact List.all_eq_false.2 ⟨c, h1, by simpa using h2⟩
    simp [f9, htx, hl5, this]
   refine aj fun K10 hK10 => ?_
   refine aq ?_
   refine ae rfl (ax rfl (by constructor)) ?_
   refine ae rfl (ax rfl (by constructor)) ?_
   refine am ?_
   dsimp only [St.put]
   refine hK10 _ ?_
   refine bk ?_
   refine i1 rfl (ed (by constructor)) (ed (by constructor)) zN zS ?_ ?_
   ·rw [show gk t cs = [] by simp [gk, hE]]
    exact zW
   ·rw [hE]; exact zW
  ·have hE : f9 t cs = 0 := by
    have : cs.all (eo t) = true := List.all_eq_true.2 fun c h1 => by
     have := List.any_eq_false.1 hc c h1
     simpa using this
    simp [f9, htx, hl5, this]
   refine bn ?_
   refine hK8 _ ?_
   refine aj fun K11 hK11 => ?_
   refine aq ?_
   try dsimp only [St.put]
   refine av rfl (di rfl ?_)
   refine am ?_
   dsimp only [St.put]
   refine hK11 _ ?_
   refine kz (nx + 1) 0 _ _ 29 3 zG rfl (by decide) ?_
   dsimp only [List.set_cons_zero, List.set_cons_succ]
   refine aj fun K12 hK12 => ?_
   refine aj fun K13 hK13 => ?_
   refine aq ?_
   try dsimp only [St.put]
   first | refine aa rfl (aw rfl rfl) ?_ | refine aa rfl (ah rfl rfl (Enc.len _)) ?_ | refine aa rfl (ah rfl rfl rfl) ?_ | refine aa rfl (a7 rfl rfl zG trivial (by first | rfl | assumption)) ?_ | refine aa rfl (az rfl rfl zG trivial (by rfl)) ?_ | refine aa rfl (a8 rfl rfl zG trivial (by simp)) ?_ | refine aa rfl (ai rfl rfl zG trivial (ay (by assumption) rfl)) ?_ | refine aa rfl (ai rfl rfl zG trivial (by assumption)) ?_ | refine aa rfl (a9 rfl rfl zG trivial rfl (by assumption) rfl (by decide)) ?_ | refine aa rfl (ba rfl rfl zG (by rfl)) ?_
   try dsimp only [St.put]
   refine av rfl (sv rfl rfl rfl (uct t _ _) ?_)
   refine am ?_
   dsimp only [St.put]
   refine hK13 _ ?_
   refine bq ?_
   refine cg 27 ?_
   refine zQ ?_
   refine cn ((bc (bc G (nx + 1) (.box (lq [] cs) [.list ((er [] cs).map cells) (.tip (nx + 1 + 1))])) (nx + 1 + 1) (.tip (er [] cs).length 29 3))) zX ?_
   dsimp only
   refine ue0 (clP) [27, 28] (fun zs => (bc (bc G (nx + 1) (.box (lq zs cs) [.list ((er zs cs).map cells) (.tip (nx + 1 + 1))])) (nx + 1 + 1) (.tip (er zs cs).length 29 3))) (fun _ _ (_ : Unit) => False) (fun _ => fun _ => none) (fun x => [(28, .v (.string x.2)), (27, .agg [.v (.int .i64 x.1.ch), .v (.int .i64 x.1.ln), .v (.int .i64 x.1.wd)])]) (ue9 t) rfl rfl (fun _ => rfl) (ufk htx) ?_ ?_ ?_ (fun _ _ _ h => h.elim) (fun lr pre x hx hlen hpre => ?_) (fun _ _ _ _ h => h.elim) (?_)
   ·intro pre x
    rfl
   ·exact fun n o h => h
   ·intro zs
    exact zH
   ·have hdl := x8 pre cs
    refine aj fun K14 hK14 => ?_
    refine aq ?_
    try dsimp only [St.put]
    refine av rfl (di rfl ?_)
    try dsimp only [St.put]
    first | refine av rfl (c8 rfl rfl rfl zG rfl rfl (by rfl) ?_) | refine av rfl (dh rfl rfl rfl zG (by constructor) rfl zO ?_)
    refine am ?_
    dsimp only [St.put]
    refine hK14 _ ?_
    refine ep (i := 9) rfl zG zC ?_
    dsimp only
    refine aq ?_
    try dsimp only [St.put]
    refine av rfl (di rfl ?_)
    try dsimp only [St.put]
    first | refine av rfl (c8 rfl rfl rfl zG rfl rfl (by rfl) ?_) | refine av rfl (dh rfl rfl rfl zG (by constructor) rfl zO ?_)
    refine am ?_
    dsimp only [St.put]
    show AW _ _ _ _ _
    refine ep (i := 10) rfl zG zC ?_
    dsimp only
    refine bq ?_
    refine aj fun K15 hK15 => ?_
    refine aq ?_
    try dsimp only [St.put]
    first | refine aa rfl (aw rfl rfl) ?_ | refine aa rfl (ah rfl rfl (Enc.len _)) ?_ | refine aa rfl (ah rfl rfl rfl) ?_ | refine aa rfl (a7 rfl rfl zG trivial (by first | rfl | assumption)) ?_ | refine aa rfl (az rfl rfl zG trivial (by rfl)) ?_ | refine aa rfl (a8 rfl rfl zG trivial (by simp)) ?_ | refine aa rfl (ai rfl rfl zG trivial (ay (by assumption) rfl)) ?_ | refine aa rfl (ai rfl rfl zG trivial (by assumption)) ?_ | refine aa rfl (a9 rfl rfl zG trivial rfl (by assumption) rfl (by decide)) ?_ | refine aa rfl (ba rfl rfl zG (by rfl)) ?_
    refine ae rfl (pt rfl rfl) ?_
    try dsimp only [St.put]
    refine av rfl (br rfl rfl rfl (uf7 cs (fun c => !decide (il c.rs x.1 x.2 = x.2)) _ _ fun c _ => ud9 t c x htx hx) ?_)
    refine am ?_
    dsimp only [St.put]
    refine hK15 _ ?_
    refine bl rfl (fun hc => ?_) (fun hc => ?_)
    ·obtain ⟨hd1, hd2⟩ := ud7 (l := pre) (show g9 cs x = true from hc)
     refine aq ?_
     try dsimp only [St.put]
     first | refine aa rfl (aw rfl rfl) ?_ | refine aa rfl (ah rfl rfl (Enc.len _)) ?_ | refine aa rfl (ah rfl rfl rfl) ?_ | refine aa rfl (a7 rfl rfl zG trivial (by first | rfl | assumption)) ?_ | refine aa rfl (az rfl rfl zG trivial (by rfl)) ?_ | refine aa rfl (a8 rfl rfl zG trivial (by simp)) ?_ | refine aa rfl (ai rfl rfl zG trivial (ay (by assumption) rfl)) ?_ | refine aa rfl (ai rfl rfl zG trivial (by assumption)) ?_ | refine aa rfl (a9 rfl rfl zG trivial rfl (by assumption) rfl (by decide)) ?_ | refine aa rfl (ba rfl rfl zG (by rfl)) ?_
     try dsimp only [St.put]
     first | refine aa rfl (aw rfl rfl) ?_ | refine aa rfl (ah rfl rfl (Enc.len _)) ?_ | refine aa rfl (ah rfl rfl rfl) ?_ | refine aa rfl (a7 rfl rfl zG trivial (by first | rfl | assumption)) ?_ | refine aa rfl (az rfl rfl zG trivial (by rfl)) ?_ | refine aa rfl (a8 rfl rfl zG trivial (by simp)) ?_ | refine aa rfl (ai rfl rfl zG trivial (ay (by assumption) rfl)) ?_ | refine aa rfl (ai rfl rfl zG trivial (by assumption)) ?_ | refine aa rfl (a9 rfl rfl zG trivial rfl (by assumption) rfl (by decide)) ?_ | refine aa rfl (ba rfl rfl zG (by rfl)) ?_
     try dsimp only [St.put]
     refine av rfl (dx rfl rfl rfl (by decide) (by decide) zR (by decide) ?_)
     try dsimp only [St.put]
     refine av rfl (gr ([x.1]) rfl rfl zG zE rfl rfl zA ?_ zA)
     try dsimp only [St.put]
     first | refine av rfl (c8 rfl rfl rfl zG rfl rfl (by rfl) ?_) | refine av rfl (dh rfl rfl rfl zG (by constructor) rfl zO ?_)
     refine am ?_
     dsimp only [St.put]
     unfold qy
     dsimp only
     rw [hd1, hd2]
     exact zX
    ·obtain ⟨hd1, hd2⟩ := ud8 (l := pre) (show g9 cs x = false from hc)
     refine bn ?_
     unfold qy
     dsimp only
     rw [hd1, hd2]
     exact zX
   ·dsimp only
    refine hK12 _ ?_
    refine aj fun K16 hK16 => ?_
    refine aq ?_
    try dsimp only [St.put]
    first | refine aa rfl (aw rfl rfl) ?_ | refine aa rfl (ah rfl rfl (Enc.len _)) ?_ | refine aa rfl (ah rfl rfl rfl) ?_ | refine aa rfl (a7 rfl rfl zG trivial (by first | rfl | assumption)) ?_ | refine aa rfl (az rfl rfl zG trivial (by rfl)) ?_ | refine aa rfl (a8 rfl rfl zG trivial (by simp)) ?_ | refine aa rfl (ai rfl rfl zG trivial (ay (by assumption) rfl)) ?_ | refine aa rfl (ai rfl rfl zG trivial (by assumption)) ?_ | refine aa rfl (a9 rfl rfl zG trivial rfl (by assumption) rfl (by decide)) ?_ | refine aa rfl (ba rfl rfl zG (by rfl)) ?_
    refine ae rfl (ax rfl (by constructor)) ?_
    refine ae rfl (ax rfl (by constructor)) ?_
    refine am ?_
    dsimp only [St.put]
    refine hK16 _ ?_
    refine bk ?_
    refine i1 rfl (ed (by constructor)) (ed (by constructor)) zN zS ?_ ?_
    ·rw [show gk t cs = er (dq t) cs by simp [gk, hE]]
     exact zW
    ·rw [hE]; exact zW
theorem wu (n : Nat) (t : bd) (cs : List CopyD) : gx n gi Tryd.prog 12 [dn t, lst cs] (.tup [lst (gk t cs), .v (.int .i64 (f9 t cs))]) := by
 cases htx : ck t
 ·have hE : f9 t cs = 10 := by simp [f9, htx]
  rw [show gk t cs = [] by simp [gk, hE], hE]
  exact ucq n t cs htx
 ·exact ucp n t cs htx
end Go.Proofs.YthboenlglkmnjaaDoor
namespace Go.AB
open Go Go.RowKit
open Go.AB.Enc (cells)
open Go.PB (Chap bd PlaceD bh CopyD bw)
def iu (t : bd) : List PlaceD := (dq t).map (·.1)
def jy (t : bd) (k : Nat) (ls : List (List ByteArray)) (n : Nat) : List PlaceD := iu (t.take k) ++ (iq k (ls.take n)).map (·.1)
def jx (t : bd) (k : Nat) (ls : List (List ByteArray)) (n : Nat) (l : List ByteArray) (w : Nat) : List PlaceD := jy t k ls n ++ (iy k n (l.take w)).map (·.1)
theorem ufg (t : bd) (k : Nat) (ls : List (List ByteArray)) : iu (t.take k) = jy t k ls 0 := by simp [jy, iq]
theorem ufc (t : bd) (k : Nat) (ls : List (List ByteArray)) (n : Nat) (l : List ByteArray) : jy t k ls n = jx t k ls n l 0 := by simp [jx, iy]
theorem ufh {t : bd} {k n : Nat} {c : Chap} (hk : t[k]? = some c) (hn : c.lines.length ≤ n) : jy t k c.lines n = iu (t.take (k + 1)) := by
 unfold jy iu
 rw [List.take_of_length_le hn, te hk, List.map_append]
theorem uff {t : bd} {k n w : Nat} {ls : List (List ByteArray)} {l : List ByteArray} (hn : ls[n]? = some l) (hw : l.length ≤ w) : jx t k ls n l w = jy t k ls (n + 1) := by
 unfold jx jy
 rw [List.take_of_length_le hw, s8 k hn, List.map_append, List.append_assoc]
theorem ufd {t : bd} {k n w : Nat} {ls : List (List ByteArray)} {l : List ByteArray} (hw : w < l.length) : jx t k ls n l w ++ [(⟨k, n, w⟩ : PlaceD)] = jx t k ls n l (w + 1) := by
 unfold jx
 rw [sg k n (List.getElem?_eq_getElem hw), List.map_append, List.append_assoc]; rfl
theorem ufa {t : bd} (ht : ck t = true) : (iu t).length ≤ 600 := by rw [iu, List.length_map]; exact tf ht
theorem ufe {t : bd} (ht : ck t = true) {k n : Nat} {c : Chap} {l : List ByteArray} (hk : t[k]? = some c) (hn : c.lines[n]? = some l) (w : Nat) : (jx t k c.lines n l w).length ≤ 600 := by
 have h1 := (tx hk hn w).length_le
 have h2 := tf ht
 simp only [List.length_append] at h1
 simp only [jx, jy, iu, List.length_append, List.length_map]
 omega
theorem ua8 {t : bd} {p : PlaceD} (hp : fp t p = true) : ∃ (k n w : Nat) (c : Chap) (l : List ByteArray), p = ⟨k, n, w⟩ ∧ t[k]? = some c ∧ c.lines[n]? = some l ∧ l[w]? = some (ii t p) := by
 obtain ⟨l, hw, h1, h2⟩ := placeB_true.1 hp
 obtain ⟨k, n, c, hkn, hk, hn⟩ := nn hw
 refine ⟨k, n, p.wd.toNat, c, l, ?_, hk, hn, ?_⟩
 ·have e1 : p.ch = (k : Int) := congrArg Prod.fst hkn
  have e2 : p.ln = (n : Int) := congrArg Prod.snd hkn
  obtain ⟨a, b, d⟩ := p
  dsimp only at e1 e2 h1 ⊢
  subst e1; subst e2
  rw [Int.toNat_of_nonneg h1]
 ·unfold ii
  rw [hw, Option.getD_some, List.getElem?_eq_getElem (by omega)]
  rfl
theorem ufl {t : bd} {k : Nat} {x : PW} (hx : (dq t)[k]? = some x) : fp t x.1 = true ∧ ii t x.1 = x.2 := by
 have hm := List.mem_of_getElem? hx
 exact ⟨allP_mem.1 (List.mem_map.2 ⟨x, hm, rfl⟩), y6 hm⟩
theorem ub4 {α : Type} {l : List α} {k : Nat} {x : α} {p : α → Prop} (hx : l[k]? = some x) (hp : p x) (h : ∀ y ∈ l.take k, p y) : ∀ y ∈ l.take (k + 1), p y := fun y hy => by
 rw [List.take_add_one, hx] at hy
 simp only [Option.toList_some, List.mem_append, List.mem_singleton] at hy
 rcases hy with hy | rfl
 ·exact h y hy
 ·exact hp
theorem ufb {t : bd} {k : Nat} {x : PW} (hx : (dq t)[k]? = some x) : (iu t)[k]? = some x.1 := by rw [iu, List.getElem?_map, hx]; rfl
/-! ### A word in its place -/
end Go.AB
namespace Go.Proofs.YthboenlglkmnjaaDoor
set_option maxRecDepth 10000
open Go.RowKit Go.AB
open Go.AB.Enc (cells)
open Go.PB (Chap bd PlaceD bh CopyD bw)
theorem uav (t : bd) (ht : ck t = true) : Pure Tryd.prog 34 [dn t] (lst (iu t)) := by
 refine cx Tryd.func34 rfl (fun m => (ce _ _)) fun G nx => ?_
 simp only [Tryd.ntmps34, List.length_cons, List.length_nil, Nat.reduceAdd, Nat.reduceSub]
 refine b9 fun hlt => ?_
 dsimp only at hlt
 obtain ⟨hl1, hl2, hl3⟩ := i3 ht
 refine aj fun K1 hK1 => ?_
 refine aq ?_
 try dsimp only [St.put]
 refine av rfl (cw rfl rfl (by simp) ?_)
 refine ae rfl (ax rfl (by constructor)) ?_
 refine am ?_
 dsimp only [St.put]
 refine hK1 _ ?_
 refine aj fun K2 hK2 => ?_
 refine aq ?_
 refine ae rfl (ax rfl (by constructor)) ?_
 refine am ?_
 dsimp only [St.put]
 refine hK2 _ ?_
 refine qx 3 29 3 rfl (by decide) ?_
 dsimp only [List.set_cons_zero, List.set_cons_succ]
 refine aj fun K3 hK3 => ?_
 refine aj fun K4 hK4 => ?_
 refine aq ?_
 refine ae rfl (ax rfl (by constructor)) ?_
 refine am ?_
 dsimp only [St.put]
 refine hK4 _ ?_
 refine bq ?_
 refine cg 7 ?_
 refine zQ ?_
 refine cn (bc G nx (.tip 0 29 3)) zX ?_
 dsimp only
 refine cz (X := Nat) (fun k => k ≤ t.length) (fun k => t.length - k) (fun k => [(3, .list ((iu (t.take k)).map cells) (.tip nx)), (4, .v (.int .i64 (k : Int))), (5, .any), (6, .any)]) (fun k G' => (bc G nx (.tip ((iu (t.take k))).length 29 3))) 0 rfl ?_ ?_ ?_ ?_ ?_ ?_
 ·exact Nat.zero_le _
 ·exact zF
 ·exact zX
 ·rintro k hI
  exact zL
 ·rintro k hI
  exact zH
 ·rintro k hI
  dsimp only at hI ⊢
  refine aj fun K5 hK5 => ?_
  refine aj fun K6 hK6 => ?_
  refine aq ?_
  refine ae rfl (ar rfl (by constructor)) ?_
  first | refine ae rfl (bg rfl rfl rfl) ?_ | refine ae rfl (bi rfl rfl) ?_
  try dsimp only [St.put]
  first | refine aa rfl (aw rfl rfl) ?_ | refine aa rfl (ah rfl rfl (Enc.len _)) ?_ | refine aa rfl (ah rfl rfl rfl) ?_ | refine aa rfl (a7 rfl rfl zG trivial (by first | rfl | assumption)) ?_ | refine aa rfl (az rfl rfl zG trivial (by rfl)) ?_ | refine aa rfl (a8 rfl rfl zG trivial (by simp)) ?_ | refine aa rfl (ai rfl rfl zG trivial (ay (by assumption) rfl)) ?_ | refine aa rfl (ai rfl rfl zG trivial (by assumption)) ?_ | refine aa rfl (a9 rfl rfl zG trivial rfl (by assumption) rfl (by decide)) ?_ | refine aa rfl (ba rfl rfl zG (by rfl)) ?_
  first | refine ae rfl (bj rfl rfl (List.length_map _)) ?_ | refine ae rfl (bj rfl rfl rfl) ?_ | refine ae rfl (b8 rfl rfl) ?_ | refine ae rfl (cd rfl rfl) ?_ | refine ae rfl (cb rfl rfl) ?_ | refine ae rfl (ca rfl rfl (by omega)) ?_
  refine ae rfl (cj rfl rfl rfl) ?_
  refine am ?_
  dsimp only [St.put]
  refine hK6 _ ?_
  refine bl rfl (fun hc => ?_) (fun hc => ?_)
  ·replace hc := of_decide_eq_true hc
   obtain ⟨c, hk⟩ : ∃ x, t[k]? = some x := cm (by omega)
   have hcl := hl3 c (dv hk)
   refine bn ?_
   refine hK5 _ ?_
   refine aj fun K7 hK7 => ?_
   refine bq ?_
   refine aj fun K8 hK8 => ?_
   refine aq ?_
   refine ae rfl (ax rfl (by constructor)) ?_
   refine am ?_
   dsimp only [St.put]
   rw [ufg t k c.lines]
   refine hK8 _ ?_
   refine bq ?_
   refine cg 7 ?_
   refine zQ ?_
   refine cn ((bc G nx (.tip ((jy t k c.lines 0)).length 29 3))) zX ?_
   dsimp only
   refine cz (X := Nat) (fun n => n ≤ c.lines.length) (fun n => c.lines.length - n) (fun n => [(3, .list ((jy t k c.lines n).map cells) (.tip nx)), (5, .v (.int .i64 (n : Int))), (6, .any)]) (fun n G' => (bc G nx (.tip ((jy t k c.lines n)).length 29 3))) 0 rfl ?_ ?_ ?_ ?_ ?_ ?_
   ·exact Nat.zero_le _
   ·exact zF
   ·exact zX
   ·rintro n hI
    exact zL
   ·rintro n hI
    exact zH
   ·rintro n hJ
    dsimp only at hJ ⊢
    refine aj fun K9 hK9 => ?_
    refine aj fun K10 hK10 => ?_
    refine aq ?_
    refine ae rfl (ar rfl (by constructor)) ?_
    first | refine ae rfl (bg rfl rfl rfl) ?_ | refine ae rfl (bi rfl rfl) ?_
    try dsimp only [St.put]
    first | refine aa rfl (aw rfl rfl) ?_ | refine aa rfl (ah rfl rfl (Enc.len _)) ?_ | refine aa rfl (ah rfl rfl rfl) ?_ | refine aa rfl (a7 rfl rfl zG trivial (by first | rfl | assumption)) ?_ | refine aa rfl (az rfl rfl zG trivial (by rfl)) ?_ | refine aa rfl (a8 rfl rfl zG trivial (by simp)) ?_ | refine aa rfl (ai rfl rfl zG trivial (ay (by assumption) rfl)) ?_ | refine aa rfl (ai rfl rfl zG trivial (by assumption)) ?_ | refine aa rfl (a9 rfl rfl zG trivial rfl (by assumption) rfl (by decide)) ?_ | refine aa rfl (ba rfl rfl zG (by rfl)) ?_
    refine ae rfl (ar rfl (by constructor)) ?_
    try dsimp only [St.put]
    first | refine ae rfl (bf rfl rfl rfl rfl (bm (by assumption)) (Enc.len _)) ?_ | refine ae rfl (bf rfl rfl rfl rfl (by assumption) rfl) ?_ | refine ae rfl (cr rfl rfl rfl (by first | exact ct _ | exact rfl) (by omega)) ?_ | refine ae rfl (bf rfl rfl rfl (by omega) (bm (by assumption)) (Enc.len _)) ?_
    first | refine ae rfl (bg rfl rfl rfl) ?_ | refine ae rfl (bi rfl rfl) ?_
    try dsimp only [St.put]
    first | refine aa rfl (aw rfl rfl) ?_ | refine aa rfl (ah rfl rfl (Enc.len _)) ?_ | refine aa rfl (ah rfl rfl rfl) ?_ | refine aa rfl (a7 rfl rfl zG trivial (by first | rfl | assumption)) ?_ | refine aa rfl (az rfl rfl zG trivial (by rfl)) ?_ | refine aa rfl (a8 rfl rfl zG trivial (by simp)) ?_ | refine aa rfl (ai rfl rfl zG trivial (ay (by assumption) rfl)) ?_ | refine aa rfl (ai rfl rfl zG trivial (by assumption)) ?_ | refine aa rfl (a9 rfl rfl zG trivial rfl (by assumption) rfl (by decide)) ?_ | refine aa rfl (ba rfl rfl zG (by rfl)) ?_
    first | refine ae rfl (bj rfl rfl (List.length_map _)) ?_ | refine ae rfl (bj rfl rfl rfl) ?_ | refine ae rfl (b8 rfl rfl) ?_ | refine ae rfl (cd rfl rfl) ?_ | refine ae rfl (cb rfl rfl) ?_ | refine ae rfl (ca rfl rfl (by omega)) ?_
    refine ae rfl (cj rfl rfl rfl) ?_
    refine am ?_
    dsimp only [St.put]
    refine hK10 _ ?_
    refine bl rfl (fun hc => ?_) (fun hc => ?_)
    ·replace hc := of_decide_eq_true hc
     obtain ⟨l, hn⟩ : ∃ x, c.lines[n]? = some x := cm (by omega)
     have hll := hcl.2.2 l (dv hn)
     refine bn ?_
     refine hK9 _ ?_
     refine aj fun K11 hK11 => ?_
     refine bq ?_
     refine aj fun K12 hK12 => ?_
     refine aq ?_
     refine ae rfl (ax rfl (by constructor)) ?_
     refine am ?_
     dsimp only [St.put]
     rw [ufc t k c.lines n l]
     refine hK12 _ ?_
     refine bq ?_
     refine cg 7 ?_
     refine zQ ?_
     refine cn ((bc G nx (.tip ((jx t k c.lines n l 0)).length 29 3))) zX ?_
     dsimp only
     refine cz (X := Nat) (fun w => w ≤ l.length) (fun w => l.length - w) (fun w => [(3, .list ((jx t k c.lines n l w).map cells) (.tip nx)), (6, .v (.int .i64 (w : Int)))]) (fun w G' => (bc G nx (.tip ((jx t k c.lines n l w)).length 29 3))) 0 rfl ?_ ?_ ?_ ?_ ?_ ?_
     ·exact Nat.zero_le _
     ·exact zF
     ·exact zX
     ·rintro w hI
      exact zL
     ·rintro w hI
      exact zH
     ·rintro w hW
      dsimp only at hW ⊢
      refine aj fun K13 hK13 => ?_
      refine aj fun K14 hK14 => ?_
      refine aq ?_
      refine ae rfl (ar rfl (by constructor)) ?_
      first | refine ae rfl (bg rfl rfl rfl) ?_ | refine ae rfl (bi rfl rfl) ?_
      try dsimp only [St.put]
      first | refine aa rfl (aw rfl rfl) ?_ | refine aa rfl (ah rfl rfl (Enc.len _)) ?_ | refine aa rfl (ah rfl rfl rfl) ?_ | refine aa rfl (a7 rfl rfl zG trivial (by first | rfl | assumption)) ?_ | refine aa rfl (az rfl rfl zG trivial (by rfl)) ?_ | refine aa rfl (a8 rfl rfl zG trivial (by simp)) ?_ | refine aa rfl (ai rfl rfl zG trivial (ay (by assumption) rfl)) ?_ | refine aa rfl (ai rfl rfl zG trivial (by assumption)) ?_ | refine aa rfl (a9 rfl rfl zG trivial rfl (by assumption) rfl (by decide)) ?_ | refine aa rfl (ba rfl rfl zG (by rfl)) ?_
      refine ae rfl (ar rfl (by constructor)) ?_
      try dsimp only [St.put]
      first | refine ae rfl (bf rfl rfl rfl rfl (bm (by assumption)) (Enc.len _)) ?_ | refine ae rfl (bf rfl rfl rfl rfl (by assumption) rfl) ?_ | refine ae rfl (cr rfl rfl rfl (by first | exact ct _ | exact rfl) (by omega)) ?_ | refine ae rfl (bf rfl rfl rfl (by omega) (bm (by assumption)) (Enc.len _)) ?_
      first | refine ae rfl (bg rfl rfl rfl) ?_ | refine ae rfl (bi rfl rfl) ?_
      try dsimp only [St.put]
      first | refine aa rfl (aw rfl rfl) ?_ | refine aa rfl (ah rfl rfl (Enc.len _)) ?_ | refine aa rfl (ah rfl rfl rfl) ?_ | refine aa rfl (a7 rfl rfl zG trivial (by first | rfl | assumption)) ?_ | refine aa rfl (az rfl rfl zG trivial (by rfl)) ?_ | refine aa rfl (a8 rfl rfl zG trivial (by simp)) ?_ | refine aa rfl (ai rfl rfl zG trivial (ay (by assumption) rfl)) ?_ | refine aa rfl (ai rfl rfl zG trivial (by assumption)) ?_ | refine aa rfl (a9 rfl rfl zG trivial rfl (by assumption) rfl (by decide)) ?_ | refine aa rfl (ba rfl rfl zG (by rfl)) ?_
      refine ae rfl (ar rfl (by constructor)) ?_
      try dsimp only [St.put]
      first | refine ae rfl (bf rfl rfl rfl rfl (bm (by assumption)) (Enc.len _)) ?_ | refine ae rfl (bf rfl rfl rfl rfl (by assumption) rfl) ?_ | refine ae rfl (cr rfl rfl rfl (by first | exact ct _ | exact rfl) (by omega)) ?_ | refine ae rfl (bf rfl rfl rfl (by omega) (bm (by assumption)) (Enc.len _)) ?_
      try dsimp only [St.put]
      first | refine aa rfl (aw rfl rfl) ?_ | refine aa rfl (ah rfl rfl (Enc.len _)) ?_ | refine aa rfl (ah rfl rfl rfl) ?_ | refine aa rfl (a7 rfl rfl zG trivial (by first | rfl | assumption)) ?_ | refine aa rfl (az rfl rfl zG trivial (by rfl)) ?_ | refine aa rfl (a8 rfl rfl zG trivial (by simp)) ?_ | refine aa rfl (ai rfl rfl zG trivial (ay (by assumption) rfl)) ?_ | refine aa rfl (ai rfl rfl zG trivial (by assumption)) ?_ | refine aa rfl (a9 rfl rfl zG trivial rfl (by assumption) rfl (by decide)) ?_ | refine aa rfl (ba rfl rfl zG (by rfl)) ?_
      first | refine ae rfl (bj rfl rfl (List.length_map _)) ?_ | refine ae rfl (bj rfl rfl rfl) ?_ | refine ae rfl (b8 rfl rfl) ?_ | refine ae rfl (cd rfl rfl) ?_ | refine ae rfl (cb rfl rfl) ?_ | refine ae rfl (ca rfl rfl (by omega)) ?_
      refine ae rfl (cj rfl rfl rfl) ?_
      refine am ?_
      dsimp only [St.put]
      refine hK14 _ ?_
      refine bl rfl (fun hc => ?_) (fun hc => ?_)
      ·replace hc := of_decide_eq_true hc
       have hlen := ufe ht hk hn w
       refine bn ?_
       refine hK13 _ ?_
       refine aj fun K15 hK15 => ?_
       refine bq ?_
       refine aq ?_
       refine ae rfl (ar rfl (by constructor)) ?_
       refine ae rfl (ar rfl (by constructor)) ?_
       refine ae rfl (ar rfl (by constructor)) ?_
       refine ae rfl (ar rfl (by constructor)) ?_
       refine ae rfl (jo rfl rfl) ?_
       try dsimp only [St.put]
       refine av rfl (dx rfl rfl rfl (by decide) (by decide) zR (by decide) ?_)
       try dsimp only [St.put]
       refine av rfl (gr ([(⟨k, n, w⟩ : PlaceD)]) rfl rfl zG zE rfl rfl zA ?_ zA)
       refine ae rfl (ax rfl (by constructor)) ?_
       refine am ?_
       dsimp only [St.put]
       refine hK15 _ ?_
       refine aq ?_
       refine ae rfl (ar rfl (by constructor)) ?_
       first | refine ae rfl (bx rfl rfl rfl (by omega)) ?_ | refine ae rfl (cp rfl rfl rfl) ?_
       refine ae rfl (ax rfl (by constructor)) ?_
       refine am ?_
       dsimp only [St.put]
       rw [ufd (w := w) (by omega)]
       exact ⟨w + 1, by omega, by omega, ⟨⟨rfl, rfl⟩, zF, zB, zN, zX⟩⟩
      ·try replace hc := of_decide_eq_false hc
       refine co ?_
       refine hK11 _ ?_
       refine aq ?_
       refine ae rfl (ar rfl (by constructor)) ?_
       first | refine ae rfl (bx rfl rfl rfl (by omega)) ?_ | refine ae rfl (cp rfl rfl rfl) ?_
       refine ae rfl (ax rfl (by constructor)) ?_
       refine am ?_
       dsimp only [St.put]
       rw [uff (k := k) (w := w) hn (by omega)]
       exact ⟨n + 1, by omega, by omega, ⟨⟨rfl, rfl⟩, zF, zB, zN, zX⟩⟩
    ·try replace hc := of_decide_eq_false hc
     refine co ?_
     refine hK7 _ ?_
     refine aq ?_
     refine ae rfl (ar rfl (by constructor)) ?_
     first | refine ae rfl (bx rfl rfl rfl (by omega)) ?_ | refine ae rfl (cp rfl rfl rfl) ?_
     refine ae rfl (ax rfl (by constructor)) ?_
     refine am ?_
     dsimp only [St.put]
     rw [ufh (n := n) hk (by omega)]
     exact ⟨k + 1, by omega, by omega, ⟨⟨rfl, rfl⟩, zF, zB, zN, zX⟩⟩
  ·try replace hc := of_decide_eq_false hc
   refine co ?_
   refine hK3 _ ?_
   refine aj fun K16 hK16 => ?_
   refine aq ?_
   refine ae rfl (ar rfl (by constructor)) ?_
   refine ae rfl (ax rfl (by constructor)) ?_
   refine am ?_
   dsimp only [St.put]
   rw [dd (show t.length ≤ k by omega)]
   refine hK16 _ ?_
   refine bk ?_
   refine j3 rfl (ed (by constructor)) zN zS ?_
   exact zW
theorem un (t : bd) (p : PlaceD) (ht : ck t = true) (hp : fp t p = true) : Pure Tryd.prog 35 [dn t, val p] (.v (.string (ii t p))) := by
 refine cx Tryd.func35 rfl (fun m => .v) fun G nx => ?_
 simp only [Tryd.ntmps35, List.length_cons, List.length_nil, Nat.reduceAdd, Nat.reduceSub]
 refine b9 fun hlt => ?_
 dsimp only at hlt
 obtain ⟨hl1, hl2, hl3⟩ := i3 ht
 obtain ⟨k, n, w, c, l, hpe, hk, hn, hw⟩ := ua8 hp
 obtain ⟨s, hs⟩ : ∃ s, ii t p = s := ⟨_, rfl⟩
 rw [hs] at hw ⊢
 subst hpe
 have h1 := (List.getElem?_eq_some_iff.1 hk).1
 have h2 := (List.getElem?_eq_some_iff.1 hn).1
 have h3 := (List.getElem?_eq_some_iff.1 hw).1
 refine aj fun K1 hK1 => ?_
 refine aq ?_
 try dsimp only [St.put]
 refine av rfl (cw rfl rfl (by simp) ?_)
 try dsimp only [St.put]
 refine av rfl (cw rfl rfl (by simp) ?_)
 refine ae rfl (ax rfl (by constructor)) ?_
 refine am ?_
 dsimp only [St.put]
 refine hK1 _ ?_
 refine aj fun K2 hK2 => ?_
 refine fw [(0, none), (1, none), (2, none), (3, none), (4, none), (5, none), (6, none), (7, none), (8, none), (9, none), (10, none), (11, none), (12, none), (13, none), (14, none), (15, none)] (fun i => [].contains i) (fun i => [].contains i) (fun i => [0, 2, 4, 5, 7, 9, 11, 13, 15].contains i) [] (by kernel_rfl) (by kernel_rfl) ?_
 first | refine ak rfl rfl rfl rfl (bg rfl rfl rfl) ?_ | refine ak rfl rfl rfl rfl (bi rfl rfl) ?_
 try dsimp only [St.put]
 first | refine af rfl rfl rfl rfl (aw rfl rfl) ?_ | refine af rfl rfl rfl rfl (ah rfl rfl (Enc.len _)) ?_ | refine af rfl rfl rfl rfl (ah rfl rfl rfl) ?_ | refine af rfl rfl rfl rfl (a7 rfl rfl zG (by simp) (by first | rfl | assumption)) ?_ | refine af rfl rfl rfl rfl (az rfl rfl zG (by simp) (by rfl)) ?_ | refine af rfl rfl rfl rfl (a8 rfl rfl zG (by simp) (by simp)) ?_ | refine af rfl rfl rfl rfl (ai rfl rfl zG (by simp) (ay (by assumption) rfl)) ?_ | refine af rfl rfl rfl rfl (ai rfl rfl zG (by simp) (by assumption)) ?_ | refine af rfl rfl rfl rfl (a9 rfl rfl zG (by simp) rfl (by assumption) rfl (by decide)) ?_ | refine af rfl rfl rfl rfl (ba rfl rfl zG (by rfl)) ?_
 first | refine ak rfl rfl rfl rfl (bg rfl rfl rfl) ?_ | refine ak rfl rfl rfl rfl (bi rfl rfl) ?_
 try dsimp only [St.put]
 first | refine af rfl rfl rfl rfl (aw rfl rfl) ?_ | refine af rfl rfl rfl rfl (ah rfl rfl (Enc.len _)) ?_ | refine af rfl rfl rfl rfl (ah rfl rfl rfl) ?_ | refine af rfl rfl rfl rfl (a7 rfl rfl zG (by simp) (by first | rfl | assumption)) ?_ | refine af rfl rfl rfl rfl (az rfl rfl zG (by simp) (by rfl)) ?_ | refine af rfl rfl rfl rfl (a8 rfl rfl zG (by simp) (by simp)) ?_ | refine af rfl rfl rfl rfl (ai rfl rfl zG (by simp) (ay (by assumption) rfl)) ?_ | refine af rfl rfl rfl rfl (ai rfl rfl zG (by simp) (by assumption)) ?_ | refine af rfl rfl rfl rfl (a9 rfl rfl zG (by simp) rfl (by assumption) rfl (by decide)) ?_ | refine af rfl rfl rfl rfl (ba rfl rfl zG (by rfl)) ?_
 try dsimp only [St.put]
 first | refine ak rfl rfl rfl rfl (bf rfl rfl rfl rfl (bm (by assumption)) (Enc.len _)) ?_ | refine ak rfl rfl rfl rfl (bf rfl rfl rfl rfl (by assumption) rfl) ?_ | refine ak rfl rfl rfl rfl (cr rfl rfl rfl (by first | exact ct _ | exact rfl) (by omega)) ?_ | refine ak rfl rfl rfl rfl (bf rfl rfl rfl (by omega) (bm (by assumption)) (Enc.len _)) ?_
 first | refine ak rfl rfl rfl rfl (bg rfl rfl rfl) ?_ | refine ak rfl rfl rfl rfl (bi rfl rfl) ?_
 try dsimp only [St.put]
 first | refine af rfl rfl rfl rfl (aw rfl rfl) ?_ | refine af rfl rfl rfl rfl (ah rfl rfl (Enc.len _)) ?_ | refine af rfl rfl rfl rfl (ah rfl rfl rfl) ?_ | refine af rfl rfl rfl rfl (a7 rfl rfl zG (by simp) (by first | rfl | assumption)) ?_ | refine af rfl rfl rfl rfl (az rfl rfl zG (by simp) (by rfl)) ?_ | refine af rfl rfl rfl rfl (a8 rfl rfl zG (by simp) (by simp)) ?_ | refine af rfl rfl rfl rfl (ai rfl rfl zG (by simp) (ay (by assumption) rfl)) ?_ | refine af rfl rfl rfl rfl (ai rfl rfl zG (by simp) (by assumption)) ?_ | refine af rfl rfl rfl rfl (a9 rfl rfl zG (by simp) rfl (by assumption) rfl (by decide)) ?_ | refine af rfl rfl rfl rfl (ba rfl rfl zG (by rfl)) ?_
 first | refine ak rfl rfl rfl rfl (bg rfl rfl rfl) ?_ | refine ak rfl rfl rfl rfl (bi rfl rfl) ?_
 try dsimp only [St.put]
 first | refine af rfl rfl rfl rfl (aw rfl rfl) ?_ | refine af rfl rfl rfl rfl (ah rfl rfl (Enc.len _)) ?_ | refine af rfl rfl rfl rfl (ah rfl rfl rfl) ?_ | refine af rfl rfl rfl rfl (a7 rfl rfl zG (by simp) (by first | rfl | assumption)) ?_ | refine af rfl rfl rfl rfl (az rfl rfl zG (by simp) (by rfl)) ?_ | refine af rfl rfl rfl rfl (a8 rfl rfl zG (by simp) (by simp)) ?_ | refine af rfl rfl rfl rfl (ai rfl rfl zG (by simp) (ay (by assumption) rfl)) ?_ | refine af rfl rfl rfl rfl (ai rfl rfl zG (by simp) (by assumption)) ?_ | refine af rfl rfl rfl rfl (a9 rfl rfl zG (by simp) rfl (by assumption) rfl (by decide)) ?_ | refine af rfl rfl rfl rfl (ba rfl rfl zG (by rfl)) ?_
 try dsimp only [St.put]
 first | refine ak rfl rfl rfl rfl (bf rfl rfl rfl rfl (bm (by assumption)) (Enc.len _)) ?_ | refine ak rfl rfl rfl rfl (bf rfl rfl rfl rfl (by assumption) rfl) ?_ | refine ak rfl rfl rfl rfl (cr rfl rfl rfl (by first | exact ct _ | exact rfl) (by omega)) ?_ | refine ak rfl rfl rfl rfl (bf rfl rfl rfl (by omega) (bm (by assumption)) (Enc.len _)) ?_
 try dsimp only [St.put]
 first | refine af rfl rfl rfl rfl (aw rfl rfl) ?_ | refine af rfl rfl rfl rfl (ah rfl rfl (Enc.len _)) ?_ | refine af rfl rfl rfl rfl (ah rfl rfl rfl) ?_ | refine af rfl rfl rfl rfl (a7 rfl rfl zG (by simp) (by first | rfl | assumption)) ?_ | refine af rfl rfl rfl rfl (az rfl rfl zG (by simp) (by rfl)) ?_ | refine af rfl rfl rfl rfl (a8 rfl rfl zG (by simp) (by simp)) ?_ | refine af rfl rfl rfl rfl (ai rfl rfl zG (by simp) (ay (by assumption) rfl)) ?_ | refine af rfl rfl rfl rfl (ai rfl rfl zG (by simp) (by assumption)) ?_ | refine af rfl rfl rfl rfl (a9 rfl rfl zG (by simp) rfl (by assumption) rfl (by decide)) ?_ | refine af rfl rfl rfl rfl (ba rfl rfl zG (by rfl)) ?_
 first | refine ak rfl rfl rfl rfl (bg rfl rfl rfl) ?_ | refine ak rfl rfl rfl rfl (bi rfl rfl) ?_
 try dsimp only [St.put]
 first | refine af rfl rfl rfl rfl (aw rfl rfl) ?_ | refine af rfl rfl rfl rfl (ah rfl rfl (Enc.len _)) ?_ | refine af rfl rfl rfl rfl (ah rfl rfl rfl) ?_ | refine af rfl rfl rfl rfl (a7 rfl rfl zG (by simp) (by first | rfl | assumption)) ?_ | refine af rfl rfl rfl rfl (az rfl rfl zG (by simp) (by rfl)) ?_ | refine af rfl rfl rfl rfl (a8 rfl rfl zG (by simp) (by simp)) ?_ | refine af rfl rfl rfl rfl (ai rfl rfl zG (by simp) (ay (by assumption) rfl)) ?_ | refine af rfl rfl rfl rfl (ai rfl rfl zG (by simp) (by assumption)) ?_ | refine af rfl rfl rfl rfl (a9 rfl rfl zG (by simp) rfl (by assumption) rfl (by decide)) ?_ | refine af rfl rfl rfl rfl (ba rfl rfl zG (by rfl)) ?_
 try dsimp only [St.put]
 first | refine ak rfl rfl rfl rfl (bf rfl rfl rfl rfl (bm (by assumption)) (Enc.len _)) ?_ | refine ak rfl rfl rfl rfl (bf rfl rfl rfl rfl (by assumption) rfl) ?_ | refine ak rfl rfl rfl rfl (cr rfl rfl rfl (by first | exact ct _ | exact rfl) (by omega)) ?_ | refine ak rfl rfl rfl rfl (bf rfl rfl rfl (by omega) (bm (by assumption)) (Enc.len _)) ?_
 try dsimp only [St.put]
 first | refine af rfl rfl rfl rfl (aw rfl rfl) ?_ | refine af rfl rfl rfl rfl (ah rfl rfl (Enc.len _)) ?_ | refine af rfl rfl rfl rfl (ah rfl rfl rfl) ?_ | refine af rfl rfl rfl rfl (a7 rfl rfl zG (by simp) (by first | rfl | assumption)) ?_ | refine af rfl rfl rfl rfl (az rfl rfl zG (by simp) (by rfl)) ?_ | refine af rfl rfl rfl rfl (a8 rfl rfl zG (by simp) (by simp)) ?_ | refine af rfl rfl rfl rfl (ai rfl rfl zG (by simp) (ay (by assumption) rfl)) ?_ | refine af rfl rfl rfl rfl (ai rfl rfl zG (by simp) (by assumption)) ?_ | refine af rfl rfl rfl rfl (a9 rfl rfl zG (by simp) rfl (by assumption) rfl (by decide)) ?_ | refine af rfl rfl rfl rfl (ba rfl rfl zG (by rfl)) ?_
 refine ak rfl rfl rfl rfl (ax rfl (by constructor)) ?_
 refine dc ?_
 dsimp only [St.put]
 refine hK2 _ ?_
 refine bk ?_
 refine bo rfl (by constructor) zN zS ?_
 rfl
end Go.Proofs.YthboenlglkmnjaaDoor
