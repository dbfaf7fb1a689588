/-
  What the walks through the program rest on: values, states, steps, calls (RkTotal, RgSets, QpRef, QqRef, RlChief, SaAlive, PkGuess, SbFacts, SdSums, QsTwin, QsRef, AbNamedY, QtTwin, PnPages, SmMiss, OpenL, OpenW, OpenS, Trod).
-/
import Derived.Test.YtbbdginipiljdaaDoorPartD
import Derived.Test.YtbbdginipiljdaaDoorPartC
import Derived.Test.YtbbdginipiljdaaDoorPartB
import Derived.Test.YtbbdginipiljdaaDoorRows
import Derived.LaidMore
import Derived.RowKitVeiled
import Derived.Carry
namespace Go.AB
open Go Go.RowKit
open Go.AB.Enc (cells)
open Go.PB (av ai PlaceD az bf ba bh am ah ck bk c4 c6)
theorem rt {p : ah} {e : Int} (h : eb p e = 0) : e = 0 ∧ gj p = true := by
 by_cases h0 : e = 0
 ·subst h0
  rw [pm] at h
  cases ht : gj p
  ·rw [ht] at h; cases h
  exact ⟨rfl, rfl⟩
 rw [udo h0] at h; exact absurd h h0
end Go.AB
namespace Go.Proofs.YtbbdginipiljdaaDoor
set_option maxRecDepth 10000
open Go Go.RowKit Go.AB
open Go.AB.Enc (cells)
open Go.PB (av ai PlaceD az bf ba bh am ah ck bk c4 c6)
theorem ufv {p : ah} {n : Int} (h : eg p n = 0) : ey p ∧ pgC p n = .elem (km p) := ⟨(ld (qp h).1).1, tm h⟩
theorem pv {p : ah} (h : cc p = 0) : ey p ∧ jt p = .elem (km p) := ⟨(ld h).1, v8 h⟩
theorem tn (n : Nat) (p : ah) (c : C) (e : Int) (h : e = 0 → ey p ∧ c = .elem (km p)) (hE : eb p e = 0) : fk n fg Tryd.prog 53 [c, .v (.int .i64 e)] (.tup [val (ga p (cv p) (dc p)), .v (.int .i64 0)]) := by
 have := ucb n p c e h
 rwa [hE, decide_eq_true rfl, cond_true] at this
theorem tp (n : Nat) (p : ah) (c : C) (e : Int) (h : e = 0 → ey p ∧ c = .elem (km p)) (hE : eb p e ≠ 0) : fk n fg Tryd.prog 53 [c, .v (.int .i64 e)] (.tup [.agg [.list [] .nil, .list [] .nil, .list [] .nil], .v (.int .i64 (eb p e))]) := by
 have := ucb n p c e h
 rwa [decide_eq_false hE, cond_false] at this
theorem ucc (n : Nat) (p : ah) (m : Int) : fk n fg Tryd.prog 32 [val p, .v (.int .i64 m)] (.tup [val (oo p m), .v (.int .i64 (eb p (eg p m)))]) := fun G nx hF hnx => by
 refine iv (G) (nx) Tryd.func32 rfl (.tup (ca (eh _ _) (ca .v c5))) zN (fun hlt => zH) ?_
 simp only [Tryd.ntmps32, List.length_cons, List.length_nil, Nat.reduceAdd, Nat.reduceSub]
 refine bu fun hlt => ?_
 dsimp only at hlt
 refine yS fun _ K1 => ?_
 refine yR ?_
 try dsimp only [St.put]
 refine yB rfl rfl rfl ?_
 try dsimp only [St.put]
 refine ae rfl (cz rfl ?_)
 refine yA rfl rfl ?_
 refine yN ?_
 dsimp only [St.put]
 refine K1 _ ?_
 refine yS fun _ K2 => ?_
 by_cases hL : eb p (eg p m) = 0
 ·refine yR ?_
  refine yE rfl rfl rfl ?_
  refine yM rfl rfl ?_
  try dsimp only [St.put]
  refine ae rfl (dx rfl rfl rfl (rj n p m) zG (by dsimp only [St.put]; omega) ?_)
  refine yX rfl rfl rfl rfl ?_
  refine yX rfl rfl rfl rfl ?_
  try dsimp only [St.put]
  refine ae rfl (dx rfl rfl rfl (tn n p (pgC p m) (eg p m) ufv hL) zG (by dsimp only [St.put]; omega) ?_)
  refine yM rfl rfl ?_
  refine yX rfl rfl rfl rfl ?_
  refine yX rfl rfl rfl rfl ?_
  try dsimp only [St.put]
  refine ae rfl (cz rfl ?_)
  try dsimp only [St.put]
  refine ae rfl (co rfl rfl rfl zG rfl rfl (by rfl) ?_)
  refine yA rfl rfl ?_
  refine yN ?_
  dsimp only [St.put]
  refine K2 _ ?_
  refine yS fun _ K3 => ?_
  refine yS fun _ K4 => ?_
  refine yR ?_
  refine yM rfl rfl ?_
  refine aa rfl (ez rfl rfl rfl) ?_
  refine yN ?_
  dsimp only [St.put]
  refine K4 _ ?_
  refine ar rfl (fun hc => ?_) (fun hc => ?_)
  ·exact absurd hc (by decide)
  obtain ⟨h0, hTB⟩ := rt hL
  obtain ⟨hc0, j, x, rfl, hx, hpo⟩ := qp h0
  obtain ⟨hok, _⟩ := ld hc0
  have hV : oo p (j : Int) = ⟨0, (bv p).alone (cv p) (dc p) j⟩ := by unfold oo; rw [hL, p7, Int.toNat_natCast]
  refine ax ?_
  refine K3 _ ?_
  refine yS fun _ K5 => ?_
  refine yR ?_
  try dsimp only [St.put]
  refine bi rfl (ij rfl rfl zG trivial (by rfl)) ?_
  refine yM rfl rfl ?_
  try dsimp only [St.put]
  refine ae rfl (ay rfl rfl rfl (uce p (cv p) (dc p) j x hok hx) ?_)
  refine aa rfl (gz rfl rfl) ?_
  try dsimp only [St.put]
  refine ae rfl (co rfl rfl rfl zG rfl rfl (by rfl) ?_)
  refine yA rfl rfl ?_
  refine yN ?_
  dsimp only [St.put]
  refine K5 _ ?_
  refine aq ?_
  refine ie rfl (jr rfl zG (by rfl) zC rfl) (ed (by constructor)) zN zS ?_ ?_
  ·rw [hV]; exact zW
  rw [hL]; exact zW
 refine yR ?_
 refine yE rfl rfl rfl ?_
 refine yM rfl rfl ?_
 try dsimp only [St.put]
 refine ae rfl (dx rfl rfl rfl (rj n p m) zG (by dsimp only [St.put]; omega) ?_)
 refine yX rfl rfl rfl rfl ?_
 refine yX rfl rfl rfl rfl ?_
 try dsimp only [St.put]
 refine ae rfl (dx rfl rfl rfl (tp n p (pgC p m) (eg p m) ufv hL) zG (by dsimp only [St.put]; omega) ?_)
 refine yM rfl rfl ?_
 refine yX rfl rfl rfl rfl ?_
 refine yX rfl rfl rfl rfl ?_
 try dsimp only [St.put]
 refine ae rfl (cz rfl ?_)
 try dsimp only [St.put]
 refine ae rfl (co rfl rfl rfl zG rfl rfl (by rfl) ?_)
 refine yA rfl rfl ?_
 refine yN ?_
 dsimp only [St.put]
 refine K2 _ ?_
 refine yS fun _ K6 => ?_
 refine yS fun _ K7 => ?_
 refine yR ?_
 refine yM rfl rfl ?_
 refine aa rfl (ez rfl rfl rfl) ?_
 refine yN ?_
 dsimp only [St.put]
 refine K7 _ ?_
 refine ar rfl (fun hc => ?_) (fun hc => ?_)
 ·have hV : oo p m = ⟨0, 0⟩ := by unfold oo; rw [lz hL]
  refine yS fun _ K8 => ?_
  refine yR ?_
  refine aa rfl (gz rfl rfl) ?_
  refine yM rfl rfl ?_
  try dsimp only [St.put]
  refine ae rfl (co rfl rfl rfl zG rfl rfl (by rfl) ?_)
  refine yA rfl rfl ?_
  refine yN ?_
  dsimp only [St.put]
  refine K8 _ ?_
  refine aq ?_
  refine ie rfl (jr rfl zG (by rfl) zC rfl) (ed (by constructor)) zN zS ?_ ?_
  ·rw [hV]; exact zW
  exact zW
 exact absurd (il hc) hL
theorem ri (n : Nat) (p : ah) : fk n fg Tryd.prog 31 [val p] (.tup [val (l4 p), .v (.int .i64 (eb p (cc p)))]) := fun G nx hF hnx => by
 refine iv (G) (nx) Tryd.func31 rfl (.tup (ca (eh _ _) (ca .v c5))) zN (fun hlt => zH) ?_
 simp only [Tryd.ntmps31, List.length_cons, List.length_nil, Nat.reduceAdd, Nat.reduceSub]
 refine bu fun hlt => ?_
 dsimp only at hlt
 refine yS fun _ K1 => ?_
 refine yR ?_
 try dsimp only [St.put]
 refine yB rfl rfl rfl ?_
 try dsimp only [St.put]
 refine ae rfl (cz rfl ?_)
 refine yA rfl rfl ?_
 refine yN ?_
 dsimp only [St.put]
 refine K1 _ ?_
 refine yS fun _ K2 => ?_
 by_cases hL : eb p (cc p) = 0
 ·refine yR ?_
  refine yE rfl rfl rfl ?_
  try dsimp only [St.put]
  refine ae rfl (dx rfl rfl rfl (ot n p) zG (by dsimp only [St.put]; omega) ?_)
  refine yX rfl rfl rfl rfl ?_
  refine yX rfl rfl rfl rfl ?_
  try dsimp only [St.put]
  refine ae rfl (dx rfl rfl rfl (tn n p (jt p) (cc p) pv hL) zG (by dsimp only [St.put]; omega) ?_)
  refine yM rfl rfl ?_
  refine yX rfl rfl rfl rfl ?_
  refine yX rfl rfl rfl rfl ?_
  try dsimp only [St.put]
  refine ae rfl (cz rfl ?_)
  try dsimp only [St.put]
  refine ae rfl (co rfl rfl rfl zG rfl rfl (by rfl) ?_)
  refine yA rfl rfl ?_
  refine yN ?_
  dsimp only [St.put]
  refine K2 _ ?_
  refine yS fun _ K3 => ?_
  refine yS fun _ K4 => ?_
  refine yR ?_
  refine yM rfl rfl ?_
  refine aa rfl (ez rfl rfl rfl) ?_
  refine yN ?_
  dsimp only [St.put]
  refine K4 _ ?_
  refine ar rfl (fun hc => ?_) (fun hc => ?_)
  ·exact absurd hc (by decide)
  obtain ⟨h0, hTB⟩ := rt hL
  obtain ⟨hok, _⟩ := ld h0
  have hV : l4 p = ⟨0, (bv p).most (cv p) (dc p)⟩ := by unfold l4; rw [hL, p7]; rfl
  refine ax ?_
  refine K3 _ ?_
  refine yS fun _ K5 => ?_
  refine yR ?_
  try dsimp only [St.put]
  refine bi rfl (ij rfl rfl zG trivial (by rfl)) ?_
  try dsimp only [St.put]
  refine ae rfl (ay rfl rfl rfl (tq p (cv p) (dc p) hok (uu hok)) ?_)
  refine aa rfl (gz rfl rfl) ?_
  try dsimp only [St.put]
  refine ae rfl (co rfl rfl rfl zG rfl rfl (by rfl) ?_)
  refine yA rfl rfl ?_
  refine yN ?_
  dsimp only [St.put]
  refine K5 _ ?_
  refine aq ?_
  refine ie rfl (jr rfl zG (by rfl) zC rfl) (ed (by constructor)) zN zS ?_ ?_
  ·rw [hV]; exact zW
  rw [hL]; exact zW
 refine yR ?_
 refine yE rfl rfl rfl ?_
 try dsimp only [St.put]
 refine ae rfl (dx rfl rfl rfl (ot n p) zG (by dsimp only [St.put]; omega) ?_)
 refine yX rfl rfl rfl rfl ?_
 refine yX rfl rfl rfl rfl ?_
 try dsimp only [St.put]
 refine ae rfl (dx rfl rfl rfl (tp n p (jt p) (cc p) pv hL) zG (by dsimp only [St.put]; omega) ?_)
 refine yM rfl rfl ?_
 refine yX rfl rfl rfl rfl ?_
 refine yX rfl rfl rfl rfl ?_
 try dsimp only [St.put]
 refine ae rfl (cz rfl ?_)
 try dsimp only [St.put]
 refine ae rfl (co rfl rfl rfl zG rfl rfl (by rfl) ?_)
 refine yA rfl rfl ?_
 refine yN ?_
 dsimp only [St.put]
 refine K2 _ ?_
 refine yS fun _ K6 => ?_
 refine yS fun _ K7 => ?_
 refine yR ?_
 refine yM rfl rfl ?_
 refine aa rfl (ez rfl rfl rfl) ?_
 refine yN ?_
 dsimp only [St.put]
 refine K7 _ ?_
 refine ar rfl (fun hc => ?_) (fun hc => ?_)
 ·have hV : l4 p = ⟨0, 0⟩ := by unfold l4; rw [lz hL]
  refine yS fun _ K8 => ?_
  refine yR ?_
  refine aa rfl (gz rfl rfl) ?_
  refine yM rfl rfl ?_
  try dsimp only [St.put]
  refine ae rfl (co rfl rfl rfl zG rfl rfl (by rfl) ?_)
  refine yA rfl rfl ?_
  refine yN ?_
  dsimp only [St.put]
  refine K8 _ ?_
  refine aq ?_
  refine ie rfl (jr rfl zG (by rfl) zC rfl) (ed (by constructor)) zN zS ?_ ?_
  ·rw [hV]; exact zW
  exact zW
 exact absurd (il hc) hL
set_option maxHeartbeats 1000000 in
theorem ujf (n0 : Nat) (p : ah) : fk n0 fg Tryd.prog 37 [val p] (.tup [lst (p9 p), .v (.int .i64 (eb p (cc p)))]) := fun G nx hF hnx => by
 refine iv (G) (nx) Tryd.func37 rfl (.tup (ca (bp _ _) (ca .v c5))) zN (fun hlt => zH) ?_
 simp only [Tryd.ntmps37, List.length_cons, List.length_nil, Nat.reduceAdd, Nat.reduceSub]
 refine bu fun hlt => ?_
 dsimp only at hlt
 refine yS fun _ K1 => ?_
 refine yR ?_
 try dsimp only [St.put]
 refine yB rfl rfl rfl ?_
 refine yA rfl rfl ?_
 refine yA rfl rfl ?_
 refine yN ?_
 dsimp only [St.put]
 refine K1 _ ?_
 refine yS fun _ K2 => ?_
 by_cases hL : eb p (cc p) = 0
 ·refine yR ?_
  refine yE rfl rfl rfl ?_
  try dsimp only [St.put]
  refine ae rfl (dx rfl rfl rfl (ot n0 p) zG (by dsimp only [St.put]; omega) ?_)
  refine yX rfl rfl rfl rfl ?_
  refine yX rfl rfl rfl rfl ?_
  try dsimp only [St.put]
  refine ae rfl (dx rfl rfl rfl (tn n0 p (jt p) (cc p) pv hL) zG (by dsimp only [St.put]; omega) ?_)
  refine yM rfl rfl ?_
  refine yX rfl rfl rfl rfl ?_
  refine yX rfl rfl rfl rfl ?_
  try dsimp only [St.put]
  refine ae rfl (cz rfl ?_)
  try dsimp only [St.put]
  refine ae rfl (co rfl rfl rfl zG rfl rfl (by rfl) ?_)
  refine yA rfl rfl ?_
  refine yN ?_
  dsimp only [St.put]
  refine K2 _ ?_
  refine yS fun _ K3 => ?_
  refine yS fun _ K4 => ?_
  refine yR ?_
  refine yM rfl rfl ?_
  refine aa rfl (ez rfl rfl rfl) ?_
  refine yN ?_
  dsimp only [St.put]
  refine K4 _ ?_
  refine ar rfl (fun hc => ?_) (fun hc => ?_)
  ·exact absurd hc (by decide)
  obtain ⟨h0, hTB⟩ := rt hL
  obtain ⟨hok, _⟩ := ld h0
  have hnp := hok.np
  have hV : p9 p = cr p.pages.length (jk p) := by unfold p9; rw [hL, p7]
  refine ax ?_
  refine K3 _ ?_
  refine yS fun _ K5 => ?_
  refine yR ?_
  refine yA rfl rfl ?_
  refine yN ?_
  dsimp only [St.put]
  refine K5 _ ?_
  refine qo 6 3 1 rfl (by decide) ?_
  dsimp only [List.set_cons_zero, List.set_cons_succ]
  refine yS fun _ K6 => ?_
  refine yS fun _ K7 => ?_
  refine yR ?_
  refine yF rfl rfl rfl rfl ?_
  refine yL rfl rfl rfl ?_
  refine aa rfl (bn rfl rfl (List.length_map _)) ?_
  refine yM rfl rfl ?_
  refine yN ?_
  dsimp only [St.put]
  refine K7 _ ?_
  refine bj ?_
  refine cp 25 ?_
  refine zQ ?_
  refine dl ((ak (ak G nx (.box (0 + 1) (cells (ga p (rmR p 0) (rmC p 0))))) (nx + 1) (.tip (cr 0 (jk p)).length 3 1))) zX ?_
  dsimp only
  refine dj (X := Nat) (fun i => i ≤ p.pages.length) (fun i => p.pages.length - i) (fun i => [(6, .list ((cr i (jk p)).map cells) (.tip (nx + 1))), (7, .any), (8, .any), (9, .any), (24, .v (.int .i64 (i : Int)))]) (fun i G' => (ak (ak G nx (.box (i + 1) (cells (ga p (rmR p i) (rmC p i))))) (nx + 1) (.tip (cr i (jk p)).length 3 1))) 0 rfl ?_ ?_ ?_ ?_ ?_ ?_
  ·exact Nat.zero_le _
  ·exact zF
  ·exact zX
  ·rintro i hI
   exact zL
  ·rintro i hI
   exact zH
  rintro i hI
  dsimp only at hI ⊢
  refine yS fun _ K8 => ?_
  refine yR ?_
  refine aa rfl (cn rfl rfl rfl) ?_
  refine yN ?_
  dsimp only [St.put]
  refine K8 _ ?_
  refine yS fun _ K9 => ?_
  refine ar rfl (fun hc => ?_) (fun hc => ?_)
  ·replace hc := of_decide_eq_true hc
   have hi : i < p.pages.length := by omega
   obtain ⟨x, hx⟩ : ∃ x, p.pages[i]? = some x := dh hi
   have hB := ubs hok hTB (Nat.le_of_lt hi)
   have hP := uar hok hTB hi
   have hab := uns hB i
   have hmb := uc6 hB
   have hln := jm i (jk p)
   have hPn := hP.nn
   refine ax ?_
   refine K9 _ ?_
   refine yS fun _ K10 => ?_
   refine bj ?_
   refine yS fun _ K11 => ?_
   refine yR ?_
   refine yM rfl rfl ?_
   refine yA rfl rfl ?_
   refine yN ?_
   dsimp only [St.put]
   refine K11 _ ?_
   refine yS fun _ K12 => ?_
   refine gm [(0, none), (2, none), (3, none), (1, none), (4, none), (5, none), (6, none)] (fun i => [4].contains i) (fun i => [1, 4].contains i) (fun i => [3, 5, 6].contains i) [nx] (by kernel_rfl) (by kernel_rfl) ?_
   try dsimp only [St.put]
   refine aw rfl rfl rfl rfl (ij rfl rfl zG (by simp) (by rfl)) ?_
   try dsimp only [St.put]
   refine aw rfl rfl rfl rfl (ij rfl rfl zG (by simp) (by rfl)) ?_
   refine xM rfl rfl rfl rfl rfl ?_
   refine iz ?_
   try dsimp only [St.put]
   refine i0 rfl rfl rfl (ay rfl rfl rfl (tq p _ _ hok hB) ⟨zD, ?_⟩)
   try dsimp only [St.put]
   refine gn rfl rfl rfl rfl (ay rfl rfl rfl (uce p (rmR p i) (rmC p i) i x hok hx) ?_)
   refine ec rfl rfl rfl rfl (dn rfl (by constructor)) ?_
   refine ec rfl rfl rfl rfl (dn rfl (by constructor)) ?_
   refine iy ?_
   dsimp only [St.put]
   refine K12 _ ?_
   refine yS fun _ K13 => ?_
   refine bj ?_
   refine cp 25 ?_
   refine zQ ?_
   refine dj (X := Int) (fun n => FromTop p (rmR p i) (rmC p i) i n) (fun n => n.toNat) (fun n => [(9, .v (.int .i64 n))]) (fun n G' => G') ((bv p).alone (rmR p i) (rmC p i) i) rfl ?_ ?_ (fun _ _ h => h) ?_ ?_ ?_
   ·exact FromTop.start hP
   ·exact zF
   ·rintro n hI
    exact zL
   ·exact fun _ _ _ _ h => .inl h
   rintro n hF2
   dsimp only at hF2 ⊢
   have hF1 := hF2.1
   have hF3 := hF2.2.1
   have hBl := uah hB (by omega) hF2.2.1
   have hmb2 := uc6 hBl
   refine yS fun _ K14 => ?_
   refine yS fun _ K15 => ?_
   refine yR ?_
   refine yM rfl rfl ?_
   try dsimp only [St.put]
   refine bi rfl (ij rfl rfl zG trivial (by rfl)) ?_
   refine yM rfl rfl ?_
   refine yM rfl rfl ?_
   try dsimp only [St.put]
   refine ae rfl (ay rfl rfl rfl (yy p (rmR p i) (rmC p i) i x n hok hx (by have := hF2.1; have := hF2.2.1; omega) hB.r) ?_)
   try dsimp only [St.put]
   refine ae rfl (ay rfl rfl rfl (tq p _ _ hok (uah hB (by have := hF2.1; omega) hF2.2.1)) ?_)
   refine aa rfl (cg rfl rfl rfl (by omega)) ?_
   refine yM rfl rfl ?_
   refine aa rfl (cn rfl rfl rfl) ?_
   refine yN ?_
   dsimp only [St.put]
   refine K15 _ ?_
   refine ar rfl (fun hc => ?_) (fun hc => ?_)
   ·replace hc := of_decide_eq_true hc
    have hnot : ¬ (bv p).most (rmR p i) (rmC p i) ≤ n + (bv p).most ((bv p).lessR (rmR p i) i n) (ei (rmC p i) i) := by omega
    refine ax ?_
    refine K14 _ ?_
    refine bj ?_
    refine yR ?_
    refine yM rfl rfl ?_
    refine aa rfl (gy rfl rfl rfl (by omega)) ?_
    refine yA rfl rfl ?_
    refine yN ?_
    dsimp only [St.put]
    have hd := FromTop.down hP hF2 hnot
    have hd1 := hd.1
    exact ⟨n - 1, by omega, hd, ⟨⟨rfl, rfl⟩, zF, zB, zN, zX⟩⟩
   replace hc := of_decide_eq_false hc
   have hnw := FromTop.stop hP hF2 (by omega)
   rw [← uas] at hnw
   subst hnw
   refine dg ?_
   refine K13 _ ?_
   refine yS fun _ K16 => ?_
   refine yR ?_
   try dsimp only [St.put]
   refine bi rfl (ij rfl rfl zG trivial (by rfl)) ?_
   refine yM rfl rfl ?_
   refine yM rfl rfl ?_
   try dsimp only [St.put]
   refine ae rfl (ay rfl rfl rfl (yy p (rmR p i) (rmC p i) i x (jk p i) hok hx (by have := hF2.1; have := hF2.2.1; omega) hB.r) ?_)
   try dsimp only [St.put]
   refine ae rfl (co rfl rfl rfl zG rfl rfl (by rfl) ?_)
   refine yN ?_
   dsimp only [St.put]
   refine K16 _ ?_
   refine yR ?_
   refine yM rfl rfl ?_
   refine yM rfl rfl ?_
   try dsimp only [St.put]
   refine ae rfl (du rfl rfl rfl (by decide) (by decide) zR (by decide) ?_)
   try dsimp only [St.put]
   refine ae rfl (kb ([jk p i]) rfl rfl zG zE rfl rfl zA ?_ zA)
   refine yA rfl rfl ?_
   refine yN ?_
   dsimp only [St.put]
   refine K10 _ ?_
   refine yR ?_
   refine aa rfl (cg rfl rfl rfl (by omega)) ?_
   refine yM rfl rfl ?_
   refine yN ?_
   dsimp only [St.put]
   have e := x9 i (jk p)
   rw [← e]
   exact ⟨i + 1, by omega, by omega, ⟨⟨rfl, rfl⟩, zF, zB, zN, zX⟩⟩
  replace hc := of_decide_eq_false hc
  obtain rfl : i = p.pages.length := by omega
  refine dg ?_
  refine K6 _ ?_
  refine yS fun _ K17 => ?_
  refine yR ?_
  refine yM rfl rfl ?_
  refine yA rfl rfl ?_
  refine yA rfl rfl ?_
  refine yN ?_
  dsimp only [St.put]
  refine K17 _ ?_
  refine aq ?_
  refine ie rfl (ed (by constructor)) (ed (by constructor)) zN zS ?_ ?_
  ·rw [hV]; exact zW
  rw [hL]; exact zW
 refine yR ?_
 refine yE rfl rfl rfl ?_
 try dsimp only [St.put]
 refine ae rfl (dx rfl rfl rfl (ot n0 p) zG (by dsimp only [St.put]; omega) ?_)
 refine yX rfl rfl rfl rfl ?_
 refine yX rfl rfl rfl rfl ?_
 try dsimp only [St.put]
 refine ae rfl (dx rfl rfl rfl (tp n0 p (jt p) (cc p) pv hL) zG (by dsimp only [St.put]; omega) ?_)
 refine yM rfl rfl ?_
 refine yX rfl rfl rfl rfl ?_
 refine yX rfl rfl rfl rfl ?_
 try dsimp only [St.put]
 refine ae rfl (cz rfl ?_)
 try dsimp only [St.put]
 refine ae rfl (co rfl rfl rfl zG rfl rfl (by rfl) ?_)
 refine yA rfl rfl ?_
 refine yN ?_
 dsimp only [St.put]
 refine K2 _ ?_
 refine yS fun _ K18 => ?_
 refine yS fun _ K19 => ?_
 refine yR ?_
 refine yM rfl rfl ?_
 refine aa rfl (ez rfl rfl rfl) ?_
 refine yN ?_
 dsimp only [St.put]
 refine K19 _ ?_
 refine ar rfl (fun hc => ?_) (fun hc => ?_)
 ·have hV : p9 p = [] := by unfold p9; rw [lz hL]
  refine yS fun _ K20 => ?_
  refine yR ?_
  refine yM rfl rfl ?_
  refine yA rfl rfl ?_
  refine yA rfl rfl ?_
  refine yN ?_
  dsimp only [St.put]
  refine K20 _ ?_
  refine aq ?_
  refine ie rfl (ed (by constructor)) (ed (by constructor)) zN zS ?_ ?_
  ·rw [hV]; exact zW
  exact zW
 exact absurd (il hc) hL
end Go.Proofs.YtbbdginipiljdaaDoor
namespace Go.Proofs.YtbbdginipiljdaaDoor
set_option maxRecDepth 10000
open Go Go.RowKit Go.AB
open Go.AB.Enc (cells)
open Go.PB (av ai PlaceD az bf ba bh am ah ck bk c4 c6)
set_option maxHeartbeats 1000000 in
theorem uh7 (nF : Nat) (n : Nat) (hb : n ≤ 8) : xq nF fg Tryd.prog 85 [.elem [.v (.int .i64 (n : Int))]] (2 ^ n) (fun s => [.v (.int .i64 (s : Int)), lst (e8 n s)]) := by
 refine udv Tryd.func85 rfl rfl fun I hN hcl ok hG hn => ?_
 simp only [Tryd.ntmps85, List.length_cons, List.length_nil, Nat.reduceAdd, Nat.reduceSub]
 have h256 : 2 ^ n ≤ 2 ^ 8 := Nat.pow_le_pow_right (by omega) hb
 refine k8 2 ?_
 refine zQ ?_
 refine pp ?_
 dsimp only [FC.st]
 refine bu fun hlt => ?_
 dsimp only at hlt
 refine c7 ?_
 try dsimp only [St.put]
 first | refine bi rfl (bq rfl rfl) ?_ | refine bi rfl (dz rfl rfl (Enc.len _)) ?_ | refine bi rfl (dz rfl rfl rfl) ?_ | refine bi rfl (em rfl rfl zG trivial (by first | rfl | assumption)) ?_ | refine bi rfl (ij rfl rfl zG trivial (by rfl)) ?_ | refine bi rfl (qb rfl rfl zG trivial (by simp)) ?_ | refine bi rfl (jp rfl rfl zG trivial (nw (by assumption) rfl)) ?_ | refine bi rfl (jp rfl rfl zG trivial (by assumption)) ?_ | refine bi rfl (rb rfl rfl zG trivial rfl (by assumption) rfl (by decide)) ?_ | refine bi rfl (m9 rfl rfl zG (by rfl)) ?_
 refine aa rfl (ucw (n := n) rfl rfl rfl (by omega)) ?_
 refine aa rfl (br rfl (by constructor)) ?_
 refine cx ?_
 dsimp only [St.put]
 show j5 _ _ _ _ _ _ _
 refine pq ok rfl ⟨rfl, rfl, zK, zN, zS, zK⟩ ?_
 refine r5 ?_
 refine k8 9 ?_
 refine zQ ?_
 refine zx (X := Nat) (fun s => s ≤ 2 ^ n) (fun s => 2 ^ n - s) (fun s => [(3, .any), (4, .any), (5, .any), (8, .v (.int .i64 (s : Int)))]) (fun s => s) 0 rfl ?_ ?_ ?_ ?_ ?_
 ·exact Nat.zero_le _
 ·exact zF
 ·rfl
 ·rintro s hI
  exact zL
 ·rintro s hI
  dsimp only at hI ⊢
  refine k8 9 ?_
  refine zQ ?_
  refine pp ?_
  dsimp only [FC.st]
  refine bu fun hlt => ?_
  dsimp only at hlt
  refine c7 ?_
  refine aa rfl (cn rfl rfl rfl) ?_
  refine cx ?_
  dsimp only [St.put]
  show j5 _ _ _ _ _ _ _
  refine pq ok rfl ⟨rfl, rfl, zK, zN, zS, zK⟩ ?_
  refine po fun K1 hK1 => ?_
  refine uj rfl (fun hc => ?_) (fun hc => ?_)
  ·replace hc := of_decide_eq_true hc
   have hs : s < 2 ^ n := by omega
   refine ui ?_
   refine hK1 _ _ ?_
   refine po fun K2 hK2 => ?_
   refine r5 ?_
   refine k8 9 ?_
   refine zQ ?_
   refine pp ?_
   dsimp only [FC.st]
   refine bu fun hlt => ?_
   dsimp only at hlt
   refine c7 ?_
   refine aa rfl (br rfl (by constructor)) ?_
   refine aa rfl (dn rfl (by constructor)) ?_
   refine cx ?_
   dsimp only [St.put]
   show j5 _ _ _ _ _ _ _
   refine w7 ?_
   refine c7 ?_
   refine aa rfl (dn rfl (by constructor)) ?_
   refine cx ?_
   dsimp only [St.put]
   show j5 _ _ _ _ _ _ _
   refine w7 ?_
   refine qo 4 3 1 rfl (by decide) ?_
   dsimp only [List.set_cons_zero, List.set_cons_succ]
   refine di fun K3 hK3 => ?_
   refine c7 ?_
   try dsimp only [St.put]
   first | refine bi rfl (bq rfl rfl) ?_ | refine bi rfl (dz rfl rfl (Enc.len _)) ?_ | refine bi rfl (dz rfl rfl rfl) ?_ | refine bi rfl (em rfl rfl zG trivial (by first | rfl | assumption)) ?_ | refine bi rfl (ij rfl rfl zG trivial (by rfl)) ?_ | refine bi rfl (qb rfl rfl zG trivial (by simp)) ?_ | refine bi rfl (jp rfl rfl zG trivial (nw (by assumption) rfl)) ?_ | refine bi rfl (jp rfl rfl zG trivial (by assumption)) ?_ | refine bi rfl (rb rfl rfl zG trivial rfl (by assumption) rfl (by decide)) ?_ | refine bi rfl (m9 rfl rfl zG (by rfl)) ?_
   refine aa rfl (br rfl (by constructor)) ?_
   refine cx ?_
   dsimp only [St.put]
   refine hK3 _ ?_
   refine bj ?_
   refine cp 13 ?_
   refine zQ ?_
   refine dl ((ak (I.G s) I.nx (.tip (e8 0 s).length 3 1))) zX ?_
   dsimp only
   refine dj (X := Nat) (fun k => k ≤ n) (fun k => n - k) (fun k => [(4, .list ((e8 k s).map cells) (.tip I.nx)), (5, .any), (12, .v (.int .i64 (k : Int)))]) (fun k G' => (ak (I.G s) I.nx (.tip (e8 k s).length 3 1))) 0 rfl ?_ ?_ ?_ ?_ ?_ ?_
   ·exact Nat.zero_le _
   ·exact zF
   ·exact zX
   ·rintro k hI
    exact zL
   ·rintro k hI
    exact zH
   ·rintro k hK
    dsimp only at hK ⊢
    refine di fun K4 hK4 => ?_
    refine c7 ?_
    refine aa rfl (cn rfl rfl rfl) ?_
    refine cx ?_
    dsimp only [St.put]
    refine hK4 _ ?_
    refine di fun K5 hK5 => ?_
    refine ar rfl (fun hc => ?_) (fun hc => ?_)
    ·replace hc := of_decide_eq_true hc
     have hml := tz k s
     refine ax ?_
     refine hK5 _ ?_
     refine di fun K6 hK6 => ?_
     refine bj ?_
     refine di fun K7 hK7 => ?_
     refine c7 ?_
     refine aa rfl (br rfl (by constructor)) ?_
     refine aa rfl (dn rfl (by constructor)) ?_
     refine cx ?_
     dsimp only [St.put]
     refine hK7 _ ?_
     refine di fun K8 hK8 => ?_
     refine c7 ?_
     refine aa rfl (br rfl (by constructor)) ?_
     refine aa rfl (br rfl (by constructor)) ?_
     refine aa rfl (ze (m := s) (n := k) rfl rfl rfl (by show k ≤ 64; omega) (by show (s : Int) ≤ 9223372036854775807; omega) (by decide)) ?_
     refine aa rfl (zh (m := s / 2 ^ k) rfl rfl rfl (Nat.lt_of_le_of_lt (Nat.div_le_self _ _) (by show s < 2 ^ 64; omega)) (by decide)) ?_
     refine aa rfl (ff rfl rfl rfl) ?_
     refine cx ?_
     dsimp only [St.put]
     refine hK8 _ ?_
     refine ar rfl (fun hc => ?_) (fun hc => ?_)
     ·have hb1 : s.testBit k = true := bit_eq.1 (of_decide_eq_true hc)
      refine c7 ?_
      refine aa rfl (br rfl (by constructor)) ?_
      refine aa rfl (br rfl (by constructor)) ?_
      try dsimp only [St.put]
      refine ae rfl (du rfl rfl rfl (by decide) (by decide) zR (by decide) ?_)
      try dsimp only [St.put]
      refine ae rfl (kb ([(k : Int)]) rfl rfl zG zE rfl rfl zA ?_ zA)
      refine aa rfl (dn rfl (by constructor)) ?_
      refine cx ?_
      dsimp only [St.put]
      refine hK6 _ ?_
      refine c7 ?_
      first | refine aa rfl (cg rfl rfl rfl (by omega)) ?_ | refine aa rfl (rn rfl rfl rfl) ?_
      refine aa rfl (br rfl (by constructor)) ?_
      refine cx ?_
      dsimp only [St.put]
      have e := udd k s
      first
      | (have q : s.testBit k = true := hb1
         rw [q, cond_true] at e
         rw [← e]
         exact ⟨k + 1, by omega, by omega, ⟨⟨rfl, rfl⟩, zF, zB, zN, zX⟩⟩)
      | (have q : s.testBit k = false := hb0
         rw [q, cond_false, List.append_nil] at e
         rw [← e]
         exact ⟨k + 1, by omega, by omega, ⟨⟨rfl, rfl⟩, zF, zB, zN, zX⟩⟩)
     ·have hb0 : s.testBit k = false := by
       have := of_decide_eq_false hc
       rw [bit_eq, Bool.not_eq_true] at this
       exact this
      refine ax ?_
      refine hK6 _ ?_
      refine c7 ?_
      first | refine aa rfl (cg rfl rfl rfl (by omega)) ?_ | refine aa rfl (rn rfl rfl rfl) ?_
      refine aa rfl (br rfl (by constructor)) ?_
      refine cx ?_
      dsimp only [St.put]
      have e := udd k s
      first
      | (have q : s.testBit k = true := hb1
         rw [q, cond_true] at e
         rw [← e]
         exact ⟨k + 1, by omega, by omega, ⟨⟨rfl, rfl⟩, zF, zB, zN, zX⟩⟩)
      | (have q : s.testBit k = false := hb0
         rw [q, cond_false, List.append_nil] at e
         rw [← e]
         exact ⟨k + 1, by omega, by omega, ⟨⟨rfl, rfl⟩, zF, zB, zN, zX⟩⟩)
    ·replace hc := of_decide_eq_false hc
     obtain rfl : k = n := by omega
     refine xk 4 (lst (e8 k s)) rfl Wk.tok ?_
     refine dg ?_
     show j5 _ _ _ _ _ _ _
     refine pq ok rfl ⟨rfl, rfl, zK, zN, zS, zK⟩ ?_
     refine po fun K9 hK9 => ?_
     refine ud2 ?_
     refine qk rfl (br rfl (by constructor)) ?_
     refine qk rfl (br rfl (by constructor)) ?_
     refine qk rfl (br rfl (by constructor)) ?_
     try dsimp only [St.put]
     refine ud5 ok (by rw [hN]; exact hs) rfl rfl rfl rfl (by rw [hcl]; rfl) ?_
     refine qk rfl (d9 rfl rfl) ?_
     refine ud6 ?_
     dsimp only [St.put]
     refine hK9 _ _ ?_
     refine uj rfl (fun h => by cases h) (fun _ => ?_)
     refine ui ?_
     refine hK2 _ _ ?_
     refine k8 9 ?_
     refine zQ ?_
     refine zw ok rfl ?_
     dsimp only [FC.st]
     refine bu fun hlt => ?_
     dsimp only at hlt
     refine c7 ?_
     first | refine aa rfl (cg rfl rfl rfl (by omega)) ?_ | refine aa rfl (rn rfl rfl rfl) ?_
     refine aa rfl (br rfl (by constructor)) ?_
     refine cx ?_
     dsimp only [St.put]
     refine ⟨⟨rfl, rfl, zK, zN, zS, zK⟩, ?_⟩
     exact ⟨s + 1, by omega, by omega, rfl, ⟨⟨rfl, rfl⟩, zF, zB, zN, zX⟩⟩
  ·replace hc := of_decide_eq_false hc
   obtain rfl : s = 2 ^ n := by omega
   refine zy ?_
   exact ⟨.inl rfl, rfl⟩
end Go.Proofs.YtbbdginipiljdaaDoor
namespace Go.AB
open Go Go.RowKit
open Go.AB.Enc (cells)
open Go.PB (av ai PlaceD az bf ba bh am ah ck bk c4 c6)
theorem uni {so : Nat → Bool} {n k : Nat} : ((fe so n k).getD []).length ≤ n := by
 rcases xj so n k with ⟨h, _⟩ | ⟨b, h, k⟩
 ·rw [h]; exact Nat.zero_le _
 rw [h]
 obtain ⟨s, _, _, rfl⟩ := k.get
 exact tz n s
theorem ung {so : Nat → Bool} {n k : Nat} (h : so k = false) : fe so n (k + 1) = fe so n k := by
 cases hb : fe so n k with
 | none => rw [ufi hb, h]; rfl
 | some b => rw [uaf hb, h]; rfl
theorem unj {so : Nat → Bool} {n k : Nat} (hb : fe so n k = none) (h : so k = true) : fe so n (k + 1) = some (e8 n k) := by rw [ufi hb, h]; rfl
theorem unh {so : Nat → Bool} {n k : Nat} {b : List Int} (hb : fe so n k = some b) (h : so k = true) : fe so n (k + 1) = bif iw (e8 n k) b then some (e8 n k) else some b := by rw [uaf hb, h]; rfl
theorem ua0 {α : Type} {l : List α} {k : Nat} {x : α} (h : l[k]? = some x) : l.take (k + 1) = l.take k ++ [x] := by rw [List.take_add_one, h]; rfl
theorem ugw (p : ah) (l : List Int) (z : Int) : n5 p (l ++ [z]) = n5 p l ++ bif decide (z < (p.firsts.length : Int)) then [z] else [] := by
 unfold n5
 rw [List.filter_append]
 cases h : decide (z < (p.firsts.length : Int)) <;> simp [h]
theorem ugt (p : ah) (l : List Int) (z : Int) : m7 p (l ++ [z]) = m7 p l ++ bif decide (z < (p.firsts.length : Int)) then [] else [z - (p.firsts.length : Int)] := by
 unfold m7
 rw [List.filter_append, List.map_append]
 cases h : decide (z < (p.firsts.length : Int)) <;> simp [h]
theorem ugx (p : ah) (l : List Int) : (n5 p l).length ≤ l.length := List.length_filter_le _ _
theorem ugu (p : ah) (l : List Int) : (m7 p l).length ≤ l.length := by
 unfold m7
 rw [List.length_map]
 exact List.length_filter_le _ _
theorem ugv {p : ah} {z : Int} (h : z ∈ ia p) : 0 ≤ z ∧ z < (ce p : Int) := by
 unfold ia n1 at h
 rcases xj (qw p) (ce p) (2 ^ ce p) with ⟨q, _⟩ | ⟨b, q, k⟩
 ·rw [q] at h; cases h
 rw [q] at h
 obtain ⟨s, _, _, rfl⟩ := k.get
 obtain ⟨i, rfl, hi, _⟩ := membersL_mem.1 h
 omega
end Go.AB
namespace Go.Proofs.YtbbdginipiljdaaDoor
set_option maxRecDepth 10000
open Go.RowKit Go.AB
open Go.AB.Enc (cells)
open Go.PB (av ai PlaceD az bf ba bh am ah ck bk c4 c6)
end Go.Proofs.YtbbdginipiljdaaDoor
namespace Go.AB
open Go Go.RowKit
open Go.AB.Enc (cells)
open Go.PB (av ai PlaceD az bf ba bh am ah ck bk c4 c6)
theorem unf {so : Nat → Bool} {n k : Nat} {b : List Int} (hb : fe so n k = some b) (h : iw (e8 n k) b = false) : fe so n (k + 1) = some b := by rw [uaf hb, h, Bool.and_false]; rfl
theorem ufn {p : ah} {R C : Nat → Int} (h : Bd p R C) (l : List Int) : Bd p R (lg C l) := ⟨h.r, fun j => by
 have := h.c j
 unfold lg
 cases decide ((j : Int) ∈ l)
 ·exact this
 exact ⟨Int.le_refl _, by show (0 : Int) ≤ 1000000; omega⟩, h.nr, h.np⟩
theorem um1 {p : ah} {m : Int} (h : cc p ≠ 0) : ja p m = cc p := by unfold ja; rw [decide_eq_false h]; rfl
theorem um0 {p : ah} {m : Int} (h : cc p = 0) (hm : m < 0) : ja p m = 2 := by unfold ja; rw [decide_eq_true h, decide_eq_true hm]; rfl
theorem um2 {p : ah} {m : Int} (h : cc p = 0) (hm : ¬ m < 0) (ht : gj p = false) : ja p m = 8 := by unfold ja; rw [decide_eq_true h, decide_eq_false hm, ht]; rfl
theorem umz {p : ah} {m : Int} (h : cc p = 0) (hm : ¬ m < 0) (ht : gj p = true) : ja p m = 0 := by unfold ja; rw [decide_eq_true h, decide_eq_false hm, ht]; rfl
end Go.AB
namespace Go.Proofs.YtbbdginipiljdaaDoor
set_option maxRecDepth 10000
open Go.RowKit Go.AB
open Go.AB.Enc (cells)
open Go.PB (av ai PlaceD az bf ba bh am ah ck bk c4 c6)
end Go.Proofs.YtbbdginipiljdaaDoor
namespace Go.AB
open Go Go.RowKit
open Go.AB.Enc (cells)
open Go.PB (av ai PlaceD az bf ba bh am ah ck bk c4 c6)
/-- whether a set is taken, and how often one was -/
def li (so : Nat → Bool) (n k : Nat) : Bool := so k && match fe so n k with
 | none => true
 | some b => iw (e8 n k) b
def mg (so : Nat → Bool) (n : Nat) : Nat → Nat
 | 0 => 0
 | k + 1 => mg so n k + (li so n k).toNat
theorem x5 {so : Nat → Bool} {n k : Nat} (h : li so n k = true) : fe so n (k + 1) = some (e8 n k) ∧ mg so n (k + 1) = mg so n k + 1 := by
 refine ⟨?_, by show mg so n k + (li so n k).toNat = _; rw [h]; rfl⟩
 unfold li at h
 rw [Bool.and_eq_true] at h
 cases hb : fe so n k with
 | none => exact unj hb h.1
 | some b =>
  have h2 := h.2
  rw [hb] at h2
  have h3 : iw (e8 n k) b = true := h2
  rw [unh hb h.1, h3]; rfl
theorem x7 {so : Nat → Bool} {n k : Nat} (h : li so n k = false) : fe so n (k + 1) = fe so n k ∧ mg so n (k + 1) = mg so n k := by
 refine ⟨?_, by show mg so n k + (li so n k).toNat = _; rw [h]; rfl⟩
 unfold li at h
 cases hs : so k
 ·exact ung hs
 rw [hs, Bool.true_and] at h
 cases hb : fe so n k with
 | none => rw [hb] at h; cases h
 | some b =>
  rw [hb] at h
  have h3 : iw (e8 n k) b = false := h
  rw [unf hb h3]
theorem uhd {so : Nat → Bool} {n k : Nat} (h : so k = false) : li so n k = false := by unfold li; rw [h]; rfl
theorem uhe {so : Nat → Bool} {n k : Nat} (h : so k = true) (hb : fe so n k = none) : li so n k = true := by unfold li; rw [h, hb]; rfl
theorem vf {so : Nat → Bool} {n k : Nat} {b : List Int} (h : so k = true) (hb : fe so n k = some b) : li so n k = iw (e8 n k) b := by unfold li; rw [h, hb]; rfl
end Go.AB
namespace Go.Proofs.YtbbdginipiljdaaDoor
set_option maxRecDepth 10000
open Go Go.RowKit Go.AB
open Go.AB.Enc (cells)
open Go.PB (av ai PlaceD az bf ba bh am ah ck bk c4 c6)
theorem ubf (m : Nat) : Pure Tryd.prog 55 [.v (.int .i64 (m : Int))] (.fn (.func 85) [.elem [.v (.int .i64 (m : Int))]]) := by
 refine cy Tryd.func55 rfl (fun m => (.fn (ca (.elem (ca .v c5)) c5))) fun G nx => ?_
 simp only [Tryd.ntmps55, List.length_cons, List.length_nil, Nat.reduceAdd, Nat.reduceSub]
 refine bu fun hlt => ?_
 dsimp only at hlt
 refine yS fun _ K1 => ?_
 refine yR ?_
 try dsimp only [St.put]
 refine yB rfl rfl rfl ?_
 refine yA rfl rfl ?_
 refine yN ?_
 dsimp only [St.put]
 refine K1 _ ?_
 refine yS fun _ K2 => ?_
 refine yR ?_
 refine aa rfl (qf rfl rfl) ?_
 refine yA rfl rfl ?_
 refine yN ?_
 dsimp only [St.put]
 refine K2 _ ?_
 refine aq ?_
 refine bg rfl (by constructor) zN zS ?_
 rfl
set_option maxHeartbeats 1000000 in
theorem ued (n : Nat) (m : Nat) (so : Nat → Bool) (k0 : FuncId) (caps : List C) [Fun Tryd.prog k0] (hm : m ≤ 8) (hcl : ∀ N, ∀ c ∈ caps, C.low N c) (hso : ∀ s : Nat, s < 2 ^ m → AB.Pure Tryd.prog k0 (.v (.int .i64 (s : Int)) :: lst (e8 m s) :: caps) (.v (.bool (so s)))) : fk n fg Tryd.prog 54 [.fn (.func 85) [.elem [.v (.int .i64 (m : Int))]], .fn (.func k0) caps, .fn (.func 59) []] (lst (n1 so m)) := fun G nx hF hnx => by
 refine iv (G) (nx) Tryd.func54 rfl ((bp _ _)) zN (fun hlt => zH) ?_
 simp only [Tryd.ntmps54, List.length_cons, List.length_nil, Nat.reduceAdd, Nat.reduceSub]
 refine bu fun hlt => ?_
 dsimp only at hlt
 refine yS fun _ K1 => ?_
 refine yR ?_
 try dsimp only [St.put]
 refine yB rfl rfl rfl ?_
 try dsimp only [St.put]
 refine yB rfl rfl rfl ?_
 refine yA rfl rfl ?_
 refine yN ?_
 dsimp only [St.put]
 refine K1 _ ?_
 refine yS fun _ K2 => ?_
 refine yR ?_
 try dsimp only [St.put]
 refine ae rfl (cz rfl ?_)
 refine yN ?_
 dsimp only [St.put]
 refine K2 _ ?_
 refine yS fun _ K3 => ?_
 refine yR ?_
 try dsimp only [St.put]
 refine ae rfl (cz rfl ?_)
 try dsimp only [St.put]
 refine ae rfl (co rfl rfl rfl zG rfl rfl (by rfl) ?_)
 refine yN ?_
 dsimp only [St.put]
 refine K3 _ ?_
 refine yS fun _ K4 => ?_
 refine yS fun _ K5 => ?_
 refine xl nx 0 [lst ([] : List Int)] zG zW ?_
 refine yR ?_
 refine yM rfl rfl ?_
 refine yN ?_
 dsimp only [St.put]
 refine K5 _ ?_
 refine bj ?_
 refine cp 12 ?_
 refine zQ ?_
 refine dl ((ak (ak G nx (.box (mg so m 0) [lst ((fe so m 0).getD [])])) (nx + 1) (.box (1 + mg so m 0) [.v (.bool (fe so m 0).isSome)]))) zX ?_
 dsimp only
 refine ufp [12, 13] (fun k => (ak (ak G nx (.box (mg so m k) [lst ((fe so m k).getD [])])) (nx + 1) (.box (1 + mg so m k) [.v (.bool (fe so m k).isSome)]))) (fun k => [(13, lst (e8 m k)), (12, .v (.int .i64 (k : Int)))]) (uh7 n m hm) (fun k => zG) (by (try dsimp only); omega) rfl rfl (fun _ => rfl) ?_ ?_ ?_ (fun lr k hrk => ?_) ?_
 ·intro k
  rfl
 ·exact zX
 ·intro k
  exact zH
 ·have hbl := uni (so := so) (n := m) (k := k)
  have hml := tz m k
  refine yS fun _ K6 => ?_
  refine yR ?_
  refine yA rfl rfl ?_
  refine yN ?_
  dsimp only [St.put]
  refine K6 _ ?_
  refine yR ?_
  refine yA rfl rfl ?_
  refine yN ?_
  dsimp only [St.put]
  show AW _ _ _ _ _
  refine bj ?_
  refine yS fun _ K7 => ?_
  refine yR ?_
  refine yL rfl rfl rfl ?_
  refine yM rfl rfl ?_
  refine yM rfl rfl ?_
  try dsimp only [St.put]
  refine ae rfl (ay rfl rfl rfl (hso k hrk) ?_)
  refine yM rfl rfl ?_
  refine et (fun hs => ?_) (fun hs => ?_)
  ·have hw : so k = true := hs
   try dsimp only [St.put]
   refine bi rfl (em rfl rfl zG trivial (by first | rfl | assumption)) ?_
   refine aa rfl (d9 rfl rfl) ?_
   refine yM rfl rfl ?_
   refine et (fun hs => ?_) (fun hs => ?_)
   ·have hb0 : fe so m k = none := by simpa using hs
    have htk := x5 (uhe hw hb0)
    refine yK rfl ?_
    refine yK rfl ?_
    refine yK rfl ?_
    refine yK rfl ?_
    refine yK rfl ?_
    refine aa rfl (bw rfl rfl (by constructor)) ?_
    refine aa rfl (bw rfl rfl (by constructor)) ?_
    refine yN ?_
    dsimp only [St.put]
    refine K7 _ ?_
    refine ar rfl (fun _ => ?_) (fun h => by cases h)
    first
    | (have hbf : iw (e8 m k) b = true := (vo _ _).symm.trans hc
       have htk := x5 ((vf hw hb0).trans hbf))
    | skip
    refine yR ?_
    refine yM rfl rfl ?_
    try dsimp only [St.put]
    refine ae rfl (co rfl rfl rfl zG rfl rfl (by rfl) ?_)
    try dsimp only [St.put]
    refine ae rfl (co rfl rfl rfl zG rfl rfl (by rfl) ?_)
    refine yN ?_
    dsimp only [St.put]
    dsimp only [sr, uy]
    first
    | (rw [htk.1, htk.2]
       exact zX)
    | (rw [hke.1, hke.2]
       try rw [hb0]
       exact zX)
   obtain ⟨b, hb0⟩ : ∃ b, fe so m k = some b := by
     cases hb : fe so m k with
     | none => rw [hb] at hs; cases hs
     | some b => exact ⟨b, rfl⟩
   rw [hb0] at hbl
   rw [hb0]
   have hbl2 : b.length ≤ m := hbl
   refine yL rfl rfl rfl ?_
   refine yM rfl rfl ?_
   try dsimp only [St.put]
   refine bi rfl (em rfl rfl zG trivial (by first | rfl | assumption)) ?_
   try dsimp only [St.put]
   refine ae rfl (ay rfl rfl rfl (ujm (e8 m k) b (by omega) (by omega)) ?_)
   refine aa rfl (cn rfl rfl rfl) ?_
   refine aa rfl (cm rfl rfl (by constructor)) ?_
   refine aa rfl (bw rfl rfl (by constructor)) ?_
   refine yN ?_
   dsimp only [St.put]
   refine K7 _ ?_
   refine ar rfl (fun hc => ?_) (fun hc => ?_)
   ·first
    | (have hbf : iw (e8 m k) b = true := (vo _ _).symm.trans hc
       have htk := x5 ((vf hw hb0).trans hbf))
    | skip
    refine yR ?_
    refine yM rfl rfl ?_
    try dsimp only [St.put]
    refine ae rfl (co rfl rfl rfl zG rfl rfl (by rfl) ?_)
    try dsimp only [St.put]
    refine ae rfl (co rfl rfl rfl zG rfl rfl (by rfl) ?_)
    refine yN ?_
    dsimp only [St.put]
    dsimp only [sr, uy]
    first
    | (rw [htk.1, htk.2]
       exact zX)
    | (rw [hke.1, hke.2]
       try rw [hb0]
       exact zX)
   first
   | (have hbf : iw (e8 m k) b = false := (vo _ _).symm.trans hc
      have hke := x7 ((vf hw hb0).trans hbf))
   | skip
   refine ax ?_
   dsimp only [sr, uy]
   first
   | (rw [htk.1, htk.2]
      exact zX)
   | (rw [hke.1, hke.2]
      try rw [hb0]
      exact zX)
  have hw : so k = false := hs
  have hke := x7 (uhd (n := m) hw)
  refine yK rfl ?_
  refine yK rfl ?_
  refine yK rfl ?_
  refine yK rfl ?_
  refine yK rfl ?_
  refine yK rfl ?_
  refine yK rfl ?_
  refine yK rfl ?_
  refine yK rfl ?_
  refine aa rfl (cm rfl rfl (by constructor)) ?_
  refine yN ?_
  dsimp only [St.put]
  refine K7 _ ?_
  refine ar rfl (fun h => by cases h) (fun _ => ?_)
  first
  | (have hbf : iw (e8 m k) b = false := (vo _ _).symm.trans hc
     have hke := x7 ((vf hw hb0).trans hbf))
  | skip
  refine ax ?_
  dsimp only [sr, uy]
  first
  | (rw [htk.1, htk.2]
     exact zX)
  | (rw [hke.1, hke.2]
     try rw [hb0]
     exact zX)
 dsimp only
 refine K4 _ ?_
 refine yS fun _ K8 => ?_
 refine yR ?_
 try dsimp only [St.put]
 refine bi rfl (em rfl rfl zG trivial (by first | rfl | assumption)) ?_
 refine yA rfl rfl ?_
 refine yN ?_
 dsimp only [St.put]
 refine K8 _ ?_
 refine aq ?_
 refine bg rfl (by constructor) zN zS ?_
 rfl
theorem ujk (p : ah) (R C : Nat → Int) (a : Int) (s : Nat) (l : List Int) (h : ey p) (hB : Bd p R C) (hs : s ≤ 1000) : Pure Tryd.prog 67 [.v (.int .i64 (s : Int)), lst l, .elem (cells (ga p R C)), .elem [.v (.int .i64 a)]] (.v (.bool (decide ((bv p).f R C (fun i => s.testBit i) = a)))) := by
 refine cy Tryd.func67 rfl (fun m => .v) fun G nx => ?_
 simp only [Tryd.ntmps67, List.length_cons, List.length_nil, Nat.reduceAdd, Nat.reduceSub]
 refine bu fun hlt => ?_
 dsimp only at hlt
 refine yS fun _ K1 => ?_
 refine yR ?_
 refine yA rfl rfl ?_
 refine yN ?_
 dsimp only [St.put]
 refine K1 _ ?_
 refine yS fun _ K2 => ?_
 refine gm [(0, none), (1, none), (3, none), (2, none), (4, none), (5, none)] (fun i => [].contains i) (fun i => [2].contains i) (fun i => [1, 4, 5].contains i) [] (by kernel_rfl) (by kernel_rfl) ?_
 try dsimp only [St.put]
 refine aw rfl rfl rfl rfl (dz rfl rfl (Enc.len _)) ?_
 refine xM rfl rfl rfl rfl rfl ?_
 try dsimp only [St.put]
 refine aw rfl rfl rfl rfl (bq rfl rfl) ?_
 refine iz ?_
 try dsimp only [St.put]
 refine i0 rfl rfl rfl (ay rfl rfl rfl (ucd p R C s h hB hs) ⟨zD, ?_⟩)
 refine ec rfl rfl rfl rfl (ff rfl rfl rfl) ?_
 refine ec rfl rfl rfl rfl (dn rfl (by constructor)) ?_
 refine iy ?_
 dsimp only [St.put]
 refine K2 _ ?_
 refine aq ?_
 refine bg rfl (by constructor) zN zS ?_
 rfl
theorem uju (p : ah) (m : Int) (s : Int) (l : List Int) (h : ey p) (hl : l.length ≤ 1000) (hm : ∀ z ∈ l, 0 ≤ z ∧ z < (p.pages.length : Int)) : Pure Tryd.prog 56 [.v (.int .i64 s), lst l, .elem (cells (ga p (cv p) (dc p))), .elem [.v (.int .i64 m)]] (.v (.bool (decide (uf3 p l ≤ m)))) := by
 refine cy Tryd.func56 rfl (fun m => .v) fun G nx => ?_
 simp only [Tryd.ntmps56, List.length_cons, List.length_nil, Nat.reduceAdd, Nat.reduceSub]
 refine bu fun hlt => ?_
 dsimp only at hlt
 refine yS fun _ K1 => ?_
 refine yR ?_
 refine yA rfl rfl ?_
 refine yN ?_
 dsimp only [St.put]
 refine K1 _ ?_
 refine yS fun _ K2 => ?_
 refine yR ?_
 refine yE rfl rfl rfl ?_
 try dsimp only [St.put]
 refine ae rfl (cz rfl ?_)
 try dsimp only [St.put]
 refine ae rfl (co rfl rfl rfl zG rfl rfl (by rfl) ?_)
 refine yN ?_
 dsimp only [St.put]
 rw [show cells (ga p (cv p) (dc p)) = cells (ga p (cv p) (lg (dc p) (l.take 0))) by rw [List.take_zero, ugd]]
 refine K2 _ ?_
 refine yS fun _ K3 => ?_
 refine yS fun _ K4 => ?_
 refine yR ?_
 refine yM rfl rfl ?_
 refine aa rfl (bn rfl rfl (List.length_map _)) ?_
 refine yM rfl rfl ?_
 refine yN ?_
 dsimp only [St.put]
 refine K4 _ ?_
 refine bj ?_
 refine cp 14 ?_
 refine zQ ?_
 refine dl ((ak G nx (.box (0 + 1) (cells (ga p (cv p) (lg (dc p) (l.take 0))))))) zX ?_
 dsimp only
 refine dj (X := Nat) (fun k => k ≤ l.length) (fun k => l.length - k) (fun k => [(8, .any), (9, .any), (13, .v (.int .i64 (k : Int)))]) (fun k G' => (ak G nx (.box (k + 1) (cells (ga p (cv p) (lg (dc p) (l.take k))))))) 0 rfl ?_ ?_ ?_ ?_ ?_ ?_
 ·exact Nat.zero_le _
 ·exact zF
 ·exact zX
 ·rintro k hI
  exact zL
 ·rintro k hI
  exact zH
 rintro k hI
 dsimp only at hI ⊢
 refine yS fun _ K5 => ?_
 refine yR ?_
 refine aa rfl (cn rfl rfl rfl) ?_
 refine yN ?_
 dsimp only [St.put]
 refine K5 _ ?_
 refine yS fun _ K6 => ?_
 refine ar rfl (fun hc => ?_) (fun hc => ?_)
 ·replace hc := of_decide_eq_true hc
  obtain ⟨z0, hz0⟩ : ∃ z, l[k]? = some z := dh (by omega)
  have hzb := hm z0 (f4 hz0)
  obtain ⟨j, rfl⟩ : ∃ j : Nat, z0 = (j : Int) := ⟨z0.toNat, by omega⟩
  have hz := hz0
  obtain ⟨x, hx⟩ : ∃ x, p.pages[j]? = some x := dh (by omega)
  have hB := ufn (uu h) (l.take k)
  refine ax ?_
  refine K6 _ ?_
  refine yS fun _ K7 => ?_
  refine bj ?_
  refine yS fun _ K8 => ?_
  refine yR ?_
  refine aa rfl (cb rfl rfl rfl rfl (bx (by assumption)) (Enc.len _)) ?_
  refine yL rfl rfl rfl ?_
  refine yA rfl rfl ?_
  refine yN ?_
  dsimp only [St.put]
  refine K8 _ ?_
  refine yR ?_
  try dsimp only [St.put]
  refine bi rfl (ij rfl rfl zG trivial (by rfl)) ?_
  refine yM rfl rfl ?_
  try dsimp only [St.put]
  refine ae rfl (ay rfl rfl rfl (yy p (cv p) (lg (dc p) (l.take k)) j x 0 h hx (by omega) hB.r) ?_)
  try dsimp only [St.put]
  refine ae rfl (co rfl rfl rfl zG rfl rfl (by rfl) ?_)
  refine yN ?_
  dsimp only [St.put]
  refine K7 _ ?_
  refine yR ?_
  refine aa rfl (cg rfl rfl rfl (by omega)) ?_
  refine yM rfl rfl ?_
  refine yN ?_
  dsimp only [St.put]
  rw [ula, ← ugc, ← ua0 hz]
  exact ⟨k + 1, by omega, by omega, ⟨⟨rfl, rfl⟩, zF, zB, zN, zX⟩⟩
 replace hc := of_decide_eq_false hc
 rw [gq (show l.length ≤ k by omega)]
 refine dg ?_
 refine K3 _ ?_
 refine yS fun _ K9 => ?_
 refine gm [(0, none), (2, none), (1, none), (3, none), (4, none)] (fun i => [].contains i) (fun i => [1].contains i) (fun i => [3, 4].contains i) [nx] (by kernel_rfl) (by kernel_rfl) ?_
 try dsimp only [St.put]
 refine aw rfl rfl rfl rfl (ij rfl rfl zG (by simp) (by rfl)) ?_
 try dsimp only [St.put]
 refine aw rfl rfl rfl rfl (bq rfl rfl) ?_
 refine iz ?_
 try dsimp only [St.put]
 refine i0 rfl rfl rfl (ay rfl rfl rfl (tq p (cv p) (lg (dc p) l) h (ufn (uu h) l)) ⟨zD, ?_⟩)
 refine ec rfl rfl rfl rfl (tw rfl rfl rfl) ?_
 refine ec rfl rfl rfl rfl (dn rfl (by constructor)) ?_
 refine iy ?_
 dsimp only [St.put]
 refine K9 _ ?_
 refine aq ?_
 refine bg rfl (by constructor) zN zS ?_
 rfl
theorem ubu (p : ah) (R Q : Nat → Int) (a : Int) (N : Nat) : ∀ c ∈ [C.elem (cells (ga p R Q)), C.elem [C.v (.int .i64 a)]], C.low N c := ca (fj _ _) (ca (.elem (ca .v c5)) c5)
set_option maxHeartbeats 1000000 in
theorem ujj (n : Nat) (p : ah) : fk n fg Tryd.prog 38 [val p] (.tup [lst (atE (eb p (cc p)) [] (n5 p (ia p))), lst (atE (eb p (cc p)) [] (m7 p (ia p))), .v (.int .i64 (eb p (cc p)))]) := fun G nx hF hnx => by
 refine iv (G) (nx) Tryd.func38 rfl (.tup (ca (bp _ _) (ca (bp _ _) (ca .v c5)))) zN (fun hlt => zH) ?_
 simp only [Tryd.ntmps38, List.length_cons, List.length_nil, Nat.reduceAdd, Nat.reduceSub]
 refine bu fun hlt => ?_
 dsimp only at hlt
 refine yS fun _ K1 => ?_
 refine yR ?_
 try dsimp only [St.put]
 refine yB rfl rfl rfl ?_
 refine yA rfl rfl ?_
 refine yA rfl rfl ?_
 refine yA rfl rfl ?_
 refine yN ?_
 dsimp only [St.put]
 refine K1 _ ?_
 refine yS fun _ K2 => ?_
 by_cases hL : eb p (cc p) = 0
 ·refine yR ?_
  refine yE rfl rfl rfl ?_
  try dsimp only [St.put]
  refine ae rfl (dx rfl rfl rfl (ot n p) zG (by dsimp only [St.put]; omega) ?_)
  refine yX rfl rfl rfl rfl ?_
  refine yX rfl rfl rfl rfl ?_
  try dsimp only [St.put]
  refine ae rfl (dx rfl rfl rfl (tn n p (jt p) (cc p) pv hL) zG (by dsimp only [St.put]; omega) ?_)
  refine yM rfl rfl ?_
  refine yX rfl rfl rfl rfl ?_
  refine yX rfl rfl rfl rfl ?_
  try dsimp only [St.put]
  refine ae rfl (cz rfl ?_)
  try dsimp only [St.put]
  refine ae rfl (co rfl rfl rfl zG rfl rfl (by rfl) ?_)
  refine yA rfl rfl ?_
  refine yN ?_
  dsimp only [St.put]
  refine K2 _ ?_
  refine yS fun _ K3 => ?_
  refine yS fun _ K4 => ?_
  refine yR ?_
  refine yM rfl rfl ?_
  refine aa rfl (ez rfl rfl rfl) ?_
  refine yN ?_
  dsimp only [St.put]
  refine K4 _ ?_
  refine ar rfl (fun hc => ?_) (fun hc => ?_)
  ·exact absurd hc (by decide)
  obtain ⟨h0, hTB⟩ := rt hL
  obtain ⟨hok, _⟩ := ld h0
  have hn1 := hok.nf
  have hn2 := hok.ns
  have hnr : ce p = p.firsts.length + p.seconds.length := rfl
  have hl1 := jm (ce p) (cv p)
  have hB := uu hok
  have h64 : 2 ^ ce p ≤ 2 ^ 6 := Nat.pow_le_pow_right (by omega) (by omega)
  have hwl : (ia p).length ≤ 6 := by
   have := ufj (qw p) (ce p)
   show (n1 (qw p) (ce p)).length ≤ 6
   omega
  refine ax ?_
  refine K3 _ ?_
  refine yS fun _ K5 => ?_
  refine yR ?_
  try dsimp only [St.put]
  refine bi rfl (ij rfl rfl zG trivial (by rfl)) ?_
  try dsimp only [St.put]
  refine ae rfl (ay rfl rfl rfl (tq p (cv p) (dc p) hok hB) ?_)
  try dsimp only [St.put]
  refine ae rfl (cz rfl ?_)
  try dsimp only [St.put]
  refine ae rfl (co rfl rfl rfl zG rfl rfl (by rfl) ?_)
  refine yN ?_
  dsimp only [St.put]
  refine K5 _ ?_
  refine eu (i := 5) rfl zG zC ?_
  refine eu (i := 6) rfl zG zC ?_
  dsimp only
  refine yS fun _ K6 => ?_
  refine yS fun _ K7 => ?_
  refine yR ?_
  refine yF rfl rfl rfl rfl ?_
  refine yL rfl rfl rfl ?_
  refine aa rfl (bn rfl rfl (List.length_map _)) ?_
  try dsimp only [St.put]
  refine ae rfl (ay rfl rfl rfl (ubf (cr (ce p) (cv p)).length) ?_)
  refine aa rfl (qf rfl rfl) ?_
  try dsimp only [St.put]
  refine ae rfl (dx rfl rfl rfl (ued n (cr (ce p) (cv p)).length (qw p) 67 [.elem (cells (ga p (cv p) (dc p))), .elem [.v (.int .i64 ((bv p).most (cv p) (dc p)))]] (by rw [hl1]; omega) (ubu p _ _ _) (fun s hs => ujk p (cv p) (dc p) _ s _ hok hB (by rw [hl1] at hs; omega))) zG (by dsimp only [St.put]; omega) ?_)
  refine aa rfl (bn rfl rfl (List.length_map _)) ?_
  refine yM rfl rfl ?_
  refine yN ?_
  dsimp only [St.put]
  rw [hl1, show n1 (qw p) (ce p) = ia p from rfl]
  refine K7 _ ?_
  refine qo 2 3 1 rfl (by decide) ?_
  refine qo 3 3 1 rfl (by decide) ?_
  dsimp only [List.set_cons_zero, List.set_cons_succ]
  refine bj ?_
  refine cp 30 ?_
  refine zQ ?_
  refine dl ((ak (ak G (nx + 1 + 1) (.tip (n5 p ((ia p).take 0)).length 3 1)) (nx + 1 + 1 + 1) (.tip (m7 p ((ia p).take 0)).length 3 1))) zX ?_
  dsimp only
  refine dj (X := Nat) (fun k => k ≤ (ia p).length) (fun k => (ia p).length - k) (fun k => [(2, .list ((n5 p ((ia p).take k)).map cells) (.tip (nx + 1 + 1))), (3, .list ((m7 p ((ia p).take k)).map cells) (.tip (nx + 1 + 1 + 1))), (8, .any), (29, .v (.int .i64 (k : Int)))]) (fun k G' => (ak (ak G (nx + 1 + 1) (.tip (n5 p ((ia p).take k)).length 3 1)) (nx + 1 + 1 + 1) (.tip (m7 p ((ia p).take k)).length 3 1))) 0 rfl ?_ ?_ ?_ ?_ ?_ ?_
  ·exact Nat.zero_le _
  ·exact zF
  ·exact zX
  ·rintro k hI
   exact zL
  ·rintro k hI
   exact zH
  rintro k hK
  dsimp only at hK ⊢
  refine yS fun _ K8 => ?_
  refine yR ?_
  refine aa rfl (cn rfl rfl rfl) ?_
  refine yN ?_
  dsimp only [St.put]
  refine K8 _ ?_
  refine yS fun _ K9 => ?_
  refine ar rfl (fun hc => ?_) (fun hc => ?_)
  ·replace hc := of_decide_eq_true hc
   obtain ⟨z, hz⟩ : ∃ z, (ia p)[k]? = some z := dh (by omega)
   have hzb := ugv (f4 hz)
   have hF3 := ugw p ((ia p).take k) z
   have hS3 := ugt p ((ia p).take k) z
   rw [← ua0 hz] at hF3 hS3
   have hlF := ugx p ((ia p).take k)
   have hlS := ugu p ((ia p).take k)
   have hlt2 : ((ia p).take k).length ≤ 6 := by rw [List.length_take]; omega
   refine ax ?_
   refine K9 _ ?_
   refine yS fun _ K10 => ?_
   refine bj ?_
   refine yS fun _ K11 => ?_
   refine yR ?_
   refine aa rfl (cb rfl rfl rfl rfl (bx (by assumption)) (Enc.len _)) ?_
   refine yL rfl rfl rfl ?_
   refine yA rfl rfl ?_
   refine yN ?_
   dsimp only [St.put]
   refine K11 _ ?_
   refine yS fun _ K12 => ?_
   refine yR ?_
   refine yM rfl rfl ?_
   refine yF rfl rfl rfl rfl ?_
   refine yL rfl rfl rfl ?_
   refine aa rfl (bn rfl rfl (List.length_map _)) ?_
   refine aa rfl (cn rfl rfl rfl) ?_
   refine yN ?_
   dsimp only [St.put]
   refine K12 _ ?_
   refine ar rfl (fun hc => ?_) (fun hc => ?_)
   ·have hyes := of_decide_eq_true hc
    refine yR ?_
    refine yM rfl rfl ?_
    refine yM rfl rfl ?_
    try dsimp only [St.put]
    refine ae rfl (du rfl rfl rfl (by decide) (by decide) zR (by decide) ?_)
    try dsimp only [St.put]
    refine ae rfl (kb ([z]) rfl rfl zG zE rfl rfl zA ?_ zA)
    refine yA rfl rfl ?_
    refine yN ?_
    dsimp only [St.put]
    refine K10 _ ?_
    refine yR ?_
    refine aa rfl (cg rfl rfl rfl (by omega)) ?_
    refine yM rfl rfl ?_
    refine yN ?_
    dsimp only [St.put]
    first
    | (have hy2 : z < (p.firsts.length : Int) := hyes
       rw [decide_eq_true hy2, cond_true] at hF3 hS3
       rw [List.append_nil] at hS3
       simp only [← hF3]
       rw [← hS3]
       exact ⟨k + 1, by omega, by omega, ⟨⟨rfl, rfl⟩, zF, zB, zN, zX⟩⟩)
    | (have hy2 : ¬ z < (p.firsts.length : Int) := hno
       rw [decide_eq_false hy2, cond_false] at hF3 hS3
       rw [List.append_nil] at hF3
       simp only [← hS3]
       rw [← hF3]
       exact ⟨k + 1, by omega, by omega, ⟨⟨rfl, rfl⟩, zF, zB, zN, zX⟩⟩)
   have hno := of_decide_eq_false hc
   refine yR ?_
   refine yM rfl rfl ?_
   refine yM rfl rfl ?_
   refine yF rfl rfl rfl rfl ?_
   refine yL rfl rfl rfl ?_
   refine aa rfl (bn rfl rfl (List.length_map _)) ?_
   refine aa rfl (gy rfl rfl rfl (by omega)) ?_
   try dsimp only [St.put]
   refine ae rfl (du rfl rfl rfl (by decide) (by decide) zR (by decide) ?_)
   try dsimp only [St.put]
   refine ae rfl (kb ([z - (p.firsts.length : Int)]) rfl rfl zG zE rfl rfl zA ?_ zA)
   refine yA rfl rfl ?_
   refine yN ?_
   dsimp only [St.put]
   refine K10 _ ?_
   refine yR ?_
   refine aa rfl (cg rfl rfl rfl (by omega)) ?_
   refine yM rfl rfl ?_
   refine yN ?_
   dsimp only [St.put]
   first
   | (have hy2 : z < (p.firsts.length : Int) := hyes
      rw [decide_eq_true hy2, cond_true] at hF3 hS3
      rw [List.append_nil] at hS3
      simp only [← hF3]
      rw [← hS3]
      exact ⟨k + 1, by omega, by omega, ⟨⟨rfl, rfl⟩, zF, zB, zN, zX⟩⟩)
   | (have hy2 : ¬ z < (p.firsts.length : Int) := hno
      rw [decide_eq_false hy2, cond_false] at hF3 hS3
      rw [List.append_nil] at hF3
      simp only [← hS3]
      rw [← hF3]
      exact ⟨k + 1, by omega, by omega, ⟨⟨rfl, rfl⟩, zF, zB, zN, zX⟩⟩)
  replace hc := of_decide_eq_false hc
  refine dg ?_
  refine K6 _ ?_
  refine yS fun _ K13 => ?_
  refine yR ?_
  refine yM rfl rfl ?_
  refine yM rfl rfl ?_
  refine yA rfl rfl ?_
  refine yA rfl rfl ?_
  refine yA rfl rfl ?_
  refine yN ?_
  dsimp only [St.put]
  refine K13 _ ?_
  refine aq ?_
  refine uem rfl (ed (by constructor)) (ed (by constructor)) (ed (by constructor)) zN zS ?_ ?_ ?_
  ·rw [hL, p7, gq (show (ia p).length ≤ k by omega)]; exact zW
  ·rw [hL, p7, gq (show (ia p).length ≤ k by omega)]; exact zW
  rw [hL]; exact zW
 refine yR ?_
 refine yE rfl rfl rfl ?_
 try dsimp only [St.put]
 refine ae rfl (dx rfl rfl rfl (ot n p) zG (by dsimp only [St.put]; omega) ?_)
 refine yX rfl rfl rfl rfl ?_
 refine yX rfl rfl rfl rfl ?_
 try dsimp only [St.put]
 refine ae rfl (dx rfl rfl rfl (tp n p (jt p) (cc p) pv hL) zG (by dsimp only [St.put]; omega) ?_)
 refine yM rfl rfl ?_
 refine yX rfl rfl rfl rfl ?_
 refine yX rfl rfl rfl rfl ?_
 try dsimp only [St.put]
 refine ae rfl (cz rfl ?_)
 try dsimp only [St.put]
 refine ae rfl (co rfl rfl rfl zG rfl rfl (by rfl) ?_)
 refine yA rfl rfl ?_
 refine yN ?_
 dsimp only [St.put]
 refine K2 _ ?_
 refine yS fun _ K14 => ?_
 refine yS fun _ K15 => ?_
 refine yR ?_
 refine yM rfl rfl ?_
 refine aa rfl (ez rfl rfl rfl) ?_
 refine yN ?_
 dsimp only [St.put]
 refine K15 _ ?_
 refine ar rfl (fun hc => ?_) (fun hc => ?_)
 ·try replace hc := of_decide_eq_true hc
  refine yS fun _ K16 => ?_
  refine yR ?_
  refine yM rfl rfl ?_
  refine yA rfl rfl ?_
  refine yA rfl rfl ?_
  refine yA rfl rfl ?_
  refine yN ?_
  dsimp only [St.put]
  refine K16 _ ?_
  refine aq ?_
  refine uem rfl (ed (by constructor)) (ed (by constructor)) (ed (by constructor)) zN zS ?_ ?_ ?_
  ·rw [lz hL]; exact zW
  ·rw [lz hL]; exact zW
  exact zW
 exact absurd (il hc) hL
set_option maxHeartbeats 1000000 in
theorem ujt (n : Nat) (p : ah) (m : Int) : fk n fg Tryd.prog 26 [val p, .v (.int .i64 m)] (.tup [lst (kd p m), .v (.int .i64 (ja p m))]) := fun G nx hF hnx => by
 refine iv (G) (nx) Tryd.func26 rfl (.tup (ca (bp _ _) (ca .v c5))) zN (fun hlt => zH) ?_
 simp only [Tryd.ntmps26, List.length_cons, List.length_nil, Nat.reduceAdd, Nat.reduceSub]
 refine bu fun hlt => ?_
 dsimp only at hlt
 refine yS fun _ K1 => ?_
 refine yR ?_
 try dsimp only [St.put]
 refine yB rfl rfl rfl ?_
 try dsimp only [St.put]
 refine yB rfl rfl rfl ?_
 refine yA rfl rfl ?_
 refine yA rfl rfl ?_
 refine yN ?_
 dsimp only [St.put]
 refine K1 _ ?_
 refine yS fun _ K2 => ?_
 refine yR ?_
 refine yE rfl rfl rfl ?_
 try dsimp only [St.put]
 refine ae rfl (dx rfl rfl rfl (ot n p) zG (by dsimp only [St.put]; omega) ?_)
 refine yM rfl rfl ?_
 refine yX rfl rfl rfl rfl ?_
 refine yX rfl rfl rfl rfl ?_
 refine yA rfl rfl ?_
 refine yA rfl rfl ?_
 refine yN ?_
 dsimp only [St.put]
 refine K2 _ ?_
 refine yS fun _ K3 => ?_
 refine yS fun _ K4 => ?_
 refine yR ?_
 refine yM rfl rfl ?_
 refine aa rfl (ez rfl rfl rfl) ?_
 refine yN ?_
 dsimp only [St.put]
 refine K4 _ ?_
 refine ar rfl (fun hc => ?_) (fun hc => ?_)
 ·have h0 : cc p ≠ 0 := j0 hc
  have hE : ja p m = cc p := um1 h0
  have hV : kd p m = [] := by unfold kd; rw [hE, lz h0]
  refine yS fun _ K5 => ?_
  refine yR ?_
  refine yM rfl rfl ?_
  refine yA rfl rfl ?_
  refine yA rfl rfl ?_
  refine yN ?_
  dsimp only [St.put]
  refine K5 _ ?_
  refine aq ?_
  refine ie rfl (ed (by constructor)) (ed (by constructor)) zN zS ?_ ?_
  ·rw [hV]; exact zW
  rw [hE]; exact zW
 have h0 : cc p = 0 := il hc
 obtain ⟨hok, _⟩ := ld h0
 have hnp := hok.np
 refine ax ?_
 refine K3 _ ?_
 refine yS fun _ K6 => ?_
 refine yS fun _ K7 => ?_
 refine yR ?_
 refine yL rfl rfl rfl ?_
 refine aa rfl (cn rfl rfl rfl) ?_
 refine yN ?_
 dsimp only [St.put]
 refine K7 _ ?_
 refine ar rfl (fun hc => ?_) (fun hc => ?_)
 ·have hm : m < 0 := of_decide_eq_true hc
  have hE : ja p m = 2 := um0 h0 hm
  have hV : kd p m = [] := by unfold kd; rw [hE, lz (by decide)]
  refine yS fun _ K8 => ?_
  refine yR ?_
  refine yA rfl rfl ?_
  refine yA rfl rfl ?_
  refine yN ?_
  dsimp only [St.put]
  refine K8 _ ?_
  refine aq ?_
  refine ie rfl (ed (by constructor)) (ed (by constructor)) zN zS ?_ ?_
  ·rw [hV]; exact zW
  rw [hE]; exact zW
 have hm : ¬ m < 0 := of_decide_eq_false hc
 refine ax ?_
 refine K6 _ ?_
 refine yS fun _ K9 => ?_
 by_cases hL : eb p (cc p) = 0
 ·refine yR ?_
  refine yM rfl rfl ?_
  refine yM rfl rfl ?_
  try dsimp only [St.put]
  refine ae rfl (dx rfl rfl rfl (tn n p (jt p) (cc p) pv hL) zG (by dsimp only [St.put]; omega) ?_)
  refine yM rfl rfl ?_
  refine yX rfl rfl rfl rfl ?_
  refine yX rfl rfl rfl rfl ?_
  try dsimp only [St.put]
  refine ae rfl (cz rfl ?_)
  try dsimp only [St.put]
  refine ae rfl (co rfl rfl rfl zG rfl rfl (by rfl) ?_)
  refine yA rfl rfl ?_
  refine yN ?_
  dsimp only [St.put]
  refine K9 _ ?_
  refine eu (i := 8) rfl zG zC ?_
  dsimp only
  refine yS fun _ K10 => ?_
  refine yS fun _ K11 => ?_
  refine yR ?_
  refine yM rfl rfl ?_
  refine aa rfl (ez rfl rfl rfl) ?_
  refine yN ?_
  dsimp only [St.put]
  refine K11 _ ?_
  refine ar rfl (fun hc => ?_) (fun hc => ?_)
  ·exact absurd hc (by decide)
  have hTB := (rt hL).2
  have hE : ja p m = 0 := umz h0 hm hTB
  have hV : kd p m = n1 (ur p m) p.pages.length := by unfold kd; rw [hE, p7]
  refine ax ?_
  refine K10 _ ?_
  refine yS fun _ K12 => ?_
  refine yR ?_
  refine yF rfl rfl rfl rfl ?_
  refine yL rfl rfl rfl ?_
  refine aa rfl (bn rfl rfl (List.length_map _)) ?_
  try dsimp only [St.put]
  refine ae rfl (ay rfl rfl rfl (ubf p.pages.length) ?_)
  refine aa rfl (qf rfl rfl) ?_
  try dsimp only [St.put]
  refine ae rfl (dx rfl rfl rfl (ued n p.pages.length (ur p m) 56 [.elem (cells (ga p (cv p) (dc p))), .elem [.v (.int .i64 m)]] hnp (ubu p _ _ _) (fun s _ => uju p m s _ hok (by have := tz p.pages.length s; omega) (fun z hz => by obtain ⟨i, rfl, hi, _⟩ := membersL_mem.1 hz; omega))) zG (by dsimp only [St.put]; omega) ?_)
  refine yA rfl rfl ?_
  refine yA rfl rfl ?_
  refine yN ?_
  dsimp only [St.put]
  refine K12 _ ?_
  refine aq ?_
  refine ie rfl (ed (by constructor)) (ed (by constructor)) zN zS ?_ ?_
  ·rw [hV]; exact zW
  rw [hE]; exact zW
 refine yR ?_
 refine yM rfl rfl ?_
 refine yM rfl rfl ?_
 try dsimp only [St.put]
 refine ae rfl (dx rfl rfl rfl (tp n p (jt p) (cc p) pv hL) zG (by dsimp only [St.put]; omega) ?_)
 refine yM rfl rfl ?_
 refine yX rfl rfl rfl rfl ?_
 refine yX rfl rfl rfl rfl ?_
 try dsimp only [St.put]
 refine ae rfl (cz rfl ?_)
 try dsimp only [St.put]
 refine ae rfl (co rfl rfl rfl zG rfl rfl (by rfl) ?_)
 refine yA rfl rfl ?_
 refine yN ?_
 dsimp only [St.put]
 refine K9 _ ?_
 refine eu (i := 8) rfl zG zC ?_
 dsimp only
 refine yS fun _ K13 => ?_
 refine yS fun _ K14 => ?_
 refine yR ?_
 refine yM rfl rfl ?_
 refine aa rfl (ez rfl rfl rfl) ?_
 refine yN ?_
 dsimp only [St.put]
 refine K14 _ ?_
 refine ar rfl (fun hc => ?_) (fun hc => ?_)
 ·have hTB : gj p = false := by
   cases h : gj p
   ·rfl
   exact absurd (by rw [h0, pm, h]; rfl) hL
  have hE : ja p m = 8 := um2 h0 hm hTB
  have hV : kd p m = [] := by unfold kd; rw [hE, lz (by decide)]
  have hL8 : eb p (cc p) = 8 := by rw [h0, pm, hTB]; rfl
  refine yS fun _ K15 => ?_
  refine yR ?_
  refine yM rfl rfl ?_
  refine yA rfl rfl ?_
  refine yA rfl rfl ?_
  refine yN ?_
  dsimp only [St.put]
  refine K15 _ ?_
  refine aq ?_
  refine ie rfl (ed (by constructor)) (ed (by constructor)) zN zS ?_ ?_
  ·rw [hV]; exact zW
  rw [hE, hL8]; exact zW
 exact absurd (il hc) hL
end Go.Proofs.YtbbdginipiljdaaDoor
namespace Go.AB
open Go Go.RowKit
open Go.AB.Enc (cells)
open Go.PB (av ai PlaceD az bf ba bh am ah ck bk c4 c6)
def re (p : ah) : Bool := !lp p && decide (cc p = 0)
section
variable {P : Program} {o : Oper} {st : St} {K : St → Prop}
/-- What stands in a slot is known less well, ahead of an operation. -/
theorem e_wk (i : Nat) {c : C} (c' : C) (h0 : st.at i = c) (hw : Wk c c') (h : EStep P o { st with r := (i, c') :: st.r } K) : EStep P o st K := by
 intro E w a hs
 have hp := hs.at i
 rw [h0] at hp
 refine h E w a ⟨hs.d, hs.sz, fun j v hj => ?_, hs.g⟩
 simp only [bl]
 cases hb : Nat.beq i j
 ·exact hs.t j v hj
 have hij := Nat.eq_of_beq_eq_true hb
 subst hij
 have hv : a.tmps.getD i undef = v := by rw [Array.getD_eq_getD_getElem?, hj]; rfl
 rw [hv] at hp
 exact hw.2 _ _ _ hp
end
theorem l6 {α : Type} [Enc α] (l : List α) : ∀ r ∈ l.map cells, r.length = Enc.n α := fun r hr => by
 obtain ⟨y, _, rfl⟩ := List.mem_map.1 hr
 exact Enc.len y
theorem readyP_true {p : ah} : re p = true ↔ lp p = false ∧ cc p = 0 := by simp [re]
end Go.AB
namespace Go.Proofs.YtbbdginipiljdaaDoor
set_option maxRecDepth 10000
open Go Go.RowKit Go.AB
open Go.AB.Enc (cells)
open Go.PB (av ai PlaceD az bf ba bh am ah ck bk c4 c6)
theorem uds (a : List PlaceD) : Pure Tryd.prog 18 [lst a, lst a] (.v (.bool true)) := by
 have := uoj a a
 rwa [decide_eq_true rfl] at this
theorem udt (a : List Int) (ha : a.length ≤ 1000) : Pure Tryd.prog 28 [lst a, lst a] (.v (.bool true)) := by
 have := ubz a a ha
 rwa [decide_eq_true rfl] at this
theorem qj (a b c : Int) : Pure Tryd.prog 65 [.v (.int .i64 a), .v (.int .i64 b), .v (.int .i64 c)] (val (⟨a, b, c⟩ : PlaceD)) := by
 refine cy Tryd.func65 rfl (fun m => (eh _ _)) fun G nx => ?_
 simp only [Tryd.ntmps65, List.length_cons, List.length_nil, Nat.reduceAdd, Nat.reduceSub]
 refine bu fun hlt => ?_
 dsimp only at hlt
 refine yS fun _ K1 => ?_
 refine yR ?_
 try dsimp only [St.put]
 refine ae rfl (cz rfl ?_)
 refine yN ?_
 dsimp only [St.put]
 refine K1 _ ?_
 refine yS fun _ K2 => ?_
 refine yR ?_
 refine yM rfl rfl ?_
 refine yM rfl rfl ?_
 refine yM rfl rfl ?_
 refine aa rfl (gz rfl rfl) ?_
 try dsimp only [St.put]
 refine ae rfl (co rfl rfl rfl zG rfl rfl (by rfl) ?_)
 refine yN ?_
 dsimp only [St.put]
 refine K2 _ ?_
 refine aq ?_
 refine pt rfl (jr rfl zG (by rfl) zC rfl) zN zS ?_
 exact zW
theorem ud (l : List PlaceD) : Pure Tryd.prog 64 [lst l] (lst l) := by
 refine cy Tryd.func64 rfl (fun m => (bp _ _)) fun G nx => ?_
 simp only [Tryd.ntmps64, List.length_cons, List.length_nil, Nat.reduceAdd, Nat.reduceSub]
 refine bu fun hlt => ?_
 dsimp only at hlt
 refine yS fun _ K1 => ?_
 refine yR ?_
 refine yA rfl rfl ?_
 refine yN ?_
 dsimp only [St.put]
 refine K1 _ ?_
 refine yS fun _ K2 => ?_
 refine yR ?_
 refine yM rfl rfl ?_
 refine yA rfl rfl ?_
 refine yN ?_
 dsimp only [St.put]
 refine K2 _ ?_
 refine aq ?_
 refine bg rfl (by constructor) zN zS ?_
 rfl
theorem nk : Pure Tryd.prog 36 [] (val exPr) := by
 refine cy Tryd.func36 rfl (fun m => (eh _ _)) fun G nx => ?_
 simp only [Tryd.ntmps36, List.length_cons, List.length_nil, Nat.reduceAdd, Nat.reduceSub]
 refine bu fun hlt => ?_
 dsimp only at hlt
 refine yS fun _ K1 => ?_
 refine yR ?_
 try dsimp only [St.put]
 refine ae rfl (cz rfl ?_)
 refine yN ?_
 dsimp only [St.put]
 refine K1 _ ?_
 refine yS fun _ K2 => ?_
 refine yR ?_
 try dsimp only [St.put]
 refine ae rfl (du (rows := ([m4, i5, xIs, m5] : List ByteArray).map cells) rfl rfl rfl (by decide) (by decide) (l6 _) (by decide) ?_)
 try dsimp only [St.put]
 refine ae rfl (du (rows := ([m5, m4, i5] : List ByteArray).map cells) rfl rfl rfl (by decide) (by decide) (l6 _) (by decide) ?_)
 try dsimp only [St.put]
 refine ae rfl (du (rows := ([[m4, i5, xIs, m5], [m5, m4, i5]] : List (List ByteArray)).map cells) rfl rfl rfl (by decide) (by decide) (l6 _) (by decide) ?_)
 refine aa rfl (gz (cs := cells (⟨7, [[m4, i5, xIs, m5], [m5, m4, i5]]⟩ : av)) rfl rfl) ?_
 try dsimp only [St.put]
 refine ae rfl (du (rows := ([i5, su, i5] : List ByteArray).map cells) rfl rfl rfl (by decide) (by decide) (l6 _) (by decide) ?_)
 try dsimp only [St.put]
 refine ae rfl (du (rows := ([[i5, su, i5]] : List (List ByteArray)).map cells) rfl rfl rfl (by decide) (by decide) (l6 _) (by decide) ?_)
 refine aa rfl (gz (cs := cells (⟨3, [[i5, su, i5]]⟩ : av)) rfl rfl) ?_
 try dsimp only [St.put]
 refine ae rfl (du (rows := ([⟨7, [[m4, i5, xIs, m5], [m5, m4, i5]]⟩, ⟨3, [[i5, su, i5]]⟩] : List av).map cells) rfl rfl rfl (by decide) (by decide) (l6 _) (by decide) ?_)
 refine aa rfl (gz (cs := [lst exTx]) rfl rfl) ?_
 refine aa rfl (gz (cs := cells (⟨1, 50⟩ : bh)) rfl rfl) ?_
 refine aa rfl (gz (cs := cells (⟨2, 0⟩ : bh)) rfl rfl) ?_
 try dsimp only [St.put]
 refine ae rfl (du (rows := ([⟨1, 50⟩, ⟨2, 0⟩] : List bh).map cells) rfl rfl rfl (by decide) (by decide) (l6 _) (by decide) ?_)
 refine aa rfl (gz (cs := cells (⟨3, 60⟩ : bh)) rfl rfl) ?_
 try dsimp only [St.put]
 refine ae rfl (du (rows := ([⟨3, 60⟩] : List bh).map cells) rfl rfl rfl (by decide) (by decide) (l6 _) (by decide) ?_)
 try dsimp only [St.put]
 refine ae rfl (ay rfl rfl rfl (qj _ _ _) ?_)
 try dsimp only [St.put]
 refine ae rfl (du (rows := ([⟨0, 0, 0⟩] : List PlaceD).map cells) rfl rfl rfl (by decide) (by decide) (l6 _) (by decide) ?_)
 try dsimp only [St.put]
 refine ae rfl (ay rfl rfl rfl (ud [⟨0, 0, 0⟩]) ?_)
 try dsimp only [St.put]
 refine ae rfl (ay rfl rfl rfl (qj _ _ _) ?_)
 try dsimp only [St.put]
 refine ae rfl (ay rfl rfl rfl (qj _ _ _) ?_)
 try dsimp only [St.put]
 refine ae rfl (du (rows := ([⟨0, 0, 0⟩, ⟨0, 0, 3⟩] : List PlaceD).map cells) rfl rfl rfl (by decide) (by decide) (l6 _) (by decide) ?_)
 try dsimp only [St.put]
 refine ae rfl (ay rfl rfl rfl (ud [⟨0, 0, 0⟩, ⟨0, 0, 3⟩]) ?_)
 refine aa rfl (gz (cs := cells (⟨0, 0, 0, 0, [⟨0, 0, 0⟩], [⟨0, 0, 0⟩, ⟨0, 0, 3⟩]⟩ : am)) rfl rfl) ?_
 try dsimp only [St.put]
 refine ae rfl (ay rfl rfl rfl (qj _ _ _) ?_)
 try dsimp only [St.put]
 refine ae rfl (du (rows := ([⟨0, 1, 1⟩] : List PlaceD).map cells) rfl rfl rfl (by decide) (by decide) (l6 _) (by decide) ?_)
 try dsimp only [St.put]
 refine ae rfl (ay rfl rfl rfl (ud [⟨0, 1, 1⟩]) ?_)
 refine aa rfl (gz (cs := [.v (.int .i64 1), .v (.int .i64 2), .v (.int .i64 0), .v (.int .i64 (-1)), lst ([⟨0, 1, 1⟩] : List PlaceD), .list [] .nil]) rfl rfl) ?_
 try dsimp only [St.put]
 refine ae rfl (e_wk 26 (val (⟨1, 2, 0, -1, [⟨0, 1, 1⟩], []⟩ : am)) rfl (by show Wk _ (.agg _); exact zW) ?_)
 dsimp only
 refine du (rows := ([⟨0, 0, 0, 0, [⟨0, 0, 0⟩], [⟨0, 0, 0⟩, ⟨0, 0, 3⟩]⟩, ⟨1, 2, 0, -1, [⟨0, 1, 1⟩], []⟩] : List am).map cells) rfl rfl rfl (by decide) (by decide) (l6 _) (by decide) ?_
 refine aa rfl (gz (cs := [lst exTx, lst exPr.firsts, lst exPr.seconds, lst exPr.pages]) rfl rfl) ?_
 try dsimp only [St.put]
 refine ae rfl (co rfl rfl rfl zG rfl rfl (by rfl) ?_)
 refine yN ?_
 dsimp only [St.put]
 refine K2 _ ?_
 refine aq ?_
 refine pt rfl (jr rfl zG (by rfl) zC rfl) zN zS ?_
 exact zW
theorem ulo (n : Nat) (b : Bool) (r want : Int) : fk n fg Tryd.prog 34 [.v (.bool b), .v (.int .i64 r), .v (.int .i64 want)] (.v (.bool (decide (kj exPr b r = 0) && decide (o5 exPr b r = want)))) := fun G nx hF hnx => by
 refine iv (G) (nx) Tryd.func34 rfl (.v) zN (fun hlt => zH) ?_
 simp only [Tryd.ntmps34, List.length_cons, List.length_nil, Nat.reduceAdd, Nat.reduceSub]
 refine bu fun hlt => ?_
 dsimp only at hlt
 refine yS fun _ K1 => ?_
 refine yR ?_
 refine yA rfl rfl ?_
 refine yN ?_
 dsimp only [St.put]
 refine K1 _ ?_
 refine yS fun _ K2 => ?_
 refine yR ?_
 try dsimp only [St.put]
 refine ae rfl (ay rfl rfl rfl (nk) ?_)
 refine yM rfl rfl ?_
 refine yM rfl rfl ?_
 try dsimp only [St.put]
 refine ae rfl (dx rfl rfl rfl (ujv n exPr b r) zG (by dsimp only [St.put]; omega) ?_)
 refine yM rfl rfl ?_
 refine yX rfl rfl rfl rfl ?_
 refine yX rfl rfl rfl rfl ?_
 refine yA rfl rfl ?_
 refine yA rfl rfl ?_
 refine yN ?_
 dsimp only [St.put]
 refine K2 _ ?_
 refine yS fun _ K3 => ?_
 refine yR ?_
 refine yM rfl rfl ?_
 refine aa rfl (ff rfl rfl rfl) ?_
 refine et (fun hs => ?_) (fun hs => ?_)
 ·have h1 : decide (kj exPr b r = 0) = true := hs
  refine yM rfl rfl ?_
  refine yM rfl rfl ?_
  refine yM rfl rfl ?_
  refine aa rfl (ff rfl rfl rfl) ?_
  refine aa rfl (bw rfl rfl (by constructor)) ?_
  refine yA rfl rfl ?_
  refine yN ?_
  dsimp only [St.put]
  refine K3 _ ?_
  refine aq ?_
  refine bg rfl (by constructor) zN zS ?_
  exact vb (by rw [h1]; rfl)
 have h1 : decide (kj exPr b r = 0) = false := hs
 refine yM rfl rfl ?_
 refine yK rfl ?_
 refine yK rfl ?_
 refine yK rfl ?_
 refine aa rfl (cm rfl rfl (by constructor)) ?_
 refine yA rfl rfl ?_
 refine yN ?_
 dsimp only [St.put]
 refine K3 _ ?_
 refine aq ?_
 refine bg rfl (by constructor) zN zS ?_
 exact vb (by rw [h1]; rfl)
theorem uln (n : Nat) (m : Int) (want : List Int) : fk n fg Tryd.prog 35 [.v (.int .i64 m), lst want] (.v (.bool (decide (ja exPr m = 0) && decide (kd exPr m = want)))) := fun G nx hF hnx => by
 refine iv (G) (nx) Tryd.func35 rfl (.v) zN (fun hlt => zH) ?_
 simp only [Tryd.ntmps35, List.length_cons, List.length_nil, Nat.reduceAdd, Nat.reduceSub]
 refine bu fun hlt => ?_
 dsimp only at hlt
 have hcl : (kd exPr m).length ≤ 1000 := by
  unfold kd atE
  cases decide (ja exPr m = 0)
  ·exact Nat.zero_le _
  have := ufj (ur exPr m) exPr.pages.length
  have e : exPr.pages.length = 2 := rfl
  show (n1 (ur exPr m) exPr.pages.length).length ≤ 1000
  omega
 refine yS fun _ K1 => ?_
 refine yR ?_
 refine yA rfl rfl ?_
 refine yN ?_
 dsimp only [St.put]
 refine K1 _ ?_
 refine yS fun _ K2 => ?_
 refine yR ?_
 try dsimp only [St.put]
 refine ae rfl (ay rfl rfl rfl (nk) ?_)
 refine yM rfl rfl ?_
 try dsimp only [St.put]
 refine ae rfl (dx rfl rfl rfl (ujt n exPr m) zG (by dsimp only [St.put]; omega) ?_)
 refine yM rfl rfl ?_
 refine yX rfl rfl rfl rfl ?_
 refine yX rfl rfl rfl rfl ?_
 refine yA rfl rfl ?_
 refine yA rfl rfl ?_
 refine yN ?_
 dsimp only [St.put]
 refine K2 _ ?_
 refine yS fun _ K3 => ?_
 refine yR ?_
 refine yM rfl rfl ?_
 refine aa rfl (ff rfl rfl rfl) ?_
 refine et (fun hs => ?_) (fun hs => ?_)
 ·have h1 : decide (ja exPr m = 0) = true := hs
  refine yM rfl rfl ?_
  refine yM rfl rfl ?_
  refine yM rfl rfl ?_
  try dsimp only [St.put]
  refine ae rfl (ay rfl rfl rfl (ubz (kd exPr m) want hcl) ?_)
  refine aa rfl (bw rfl rfl (by constructor)) ?_
  refine yA rfl rfl ?_
  refine yN ?_
  dsimp only [St.put]
  refine K3 _ ?_
  refine aq ?_
  refine bg rfl (by constructor) zN zS ?_
  exact vb (by rw [h1]; rfl)
 have h1 : decide (ja exPr m = 0) = false := hs
 refine yM rfl rfl ?_
 refine yK rfl ?_
 refine yK rfl ?_
 refine yK rfl ?_
 refine aa rfl (cm rfl rfl (by constructor)) ?_
 refine yA rfl rfl ?_
 refine yN ?_
 dsimp only [St.put]
 refine K3 _ ?_
 refine aq ?_
 refine bg rfl (by constructor) zN zS ?_
 exact vb (by rw [h1]; rfl)
theorem un5 (n : Nat) : fk n fg Tryd.prog 12 [val exPr, .v (.int .i64 1)] (.tup [.v (.int .i64 6), .v (.int .i64 0)]) := by
 have := ujg n exPr 1
 rwa [xp_words.1, xp_words.2.1] at this
theorem un9 (n : Nat) : fk n fg Tryd.prog 14 [val exPr, .v (.int .i64 0)] (.tup [lst ([⟨0, 0, 0⟩, ⟨0, 0, 3⟩] : List PlaceD), .v (.int .i64 0)]) := by
 have := ujs n exPr 0
 rwa [xp_found.1, xp_words.2.2.2] at this
theorem uoc (n : Nat) : fk n fg Tryd.prog 19 [val exPr, .v (.int .i64 0)] (.tup [lst ([⟨0, 0, 0⟩] : List PlaceD), .v (.int .i64 0)]) := by
 have := ujw n exPr 0
 rwa [xp_found.2, xp_words.2.2.2] at this
theorem un8 (n : Nat) : fk n fg Tryd.prog 23 [val exPr, .v (.int .i64 0)] (.tup [val (⟨2, 2⟩ : bk), .v (.int .i64 0)]) := by
 have := ujr n exPr 0
 rwa [xp_guess.1, xp_guess.2] at this
theorem un7 (n : Nat) : fk n fg Tryd.prog 32 [val exPr, .v (.int .i64 1)] (.tup [val (⟨0, 1⟩ : bk), .v (.int .i64 0)]) := by
 have := ucc n exPr 1
 rwa [xp_remain.1, xp_remain.2.1] at this
theorem un6 (n : Nat) : fk n fg Tryd.prog 31 [val exPr] (.tup [val (⟨0, 1⟩ : bk), .v (.int .i64 0)]) := by
 have := ri n exPr
 rwa [ugf, uz] at this
theorem un4 (n : Nat) : fk n fg Tryd.prog 37 [val exPr] (.tup [lst ([1, 0] : List Int), .v (.int .i64 0)]) := by
 have := ujf n exPr
 rwa [uge, uz] at this
theorem alWhy (n : Nat) : fk n fg Tryd.prog 38 [val exPr] (.tup [lst ([0] : List Int), lst ([] : List Int), .v (.int .i64 0)]) := by
 have := ujj n exPr
 rwa [uz, p7, p7, xp_why.1, xp_why.2] at this
theorem uob (n : Nat) : fk n fg Tryd.prog 34 [.v (.bool false), .v (.int .i64 0), .v (.int .i64 4)] (.v (.bool true)) := by
 have := ulo n false 0 4
 rwa [xp_bound.1, xp_bound.2.1] at this
theorem uoa (n : Nat) : fk n fg Tryd.prog 35 [.v (.int .i64 0), lst ([0, 1] : List Int)] (.v (.bool true)) := by
 have := uln n 0 [0, 1]
 rwa [xp_chief.1, xp_chief.2.1] at this
set_option maxHeartbeats 4000000 in
theorem un3 (n : Nat) : fk n fg Tryd.prog 29 [] (.v (.bool true)) := fun G nx hF hnx => by
 refine iv (G) (nx) Tryd.func29 rfl (.v) zN (fun hlt => zH) ?_
 simp only [Tryd.ntmps29, List.length_cons, List.length_nil, Nat.reduceAdd, Nat.reduceSub]
 refine bu fun hlt => ?_
 dsimp only at hlt
 refine yS fun _ K1 => ?_
 refine yR ?_
 refine yA rfl rfl ?_
 refine yN ?_
 dsimp only [St.put]
 refine K1 _ ?_
 refine yS fun _ K2 => ?_
 refine yR ?_
 try dsimp only [St.put]
 refine ae rfl (ay rfl rfl rfl (nk) ?_)
 try dsimp only [St.put]
 refine ae rfl ((dx rfl rfl rfl ((un5 n)) zG (by dsimp only [St.put]; omega) ?_))
 refine yM rfl rfl ?_
 refine yX rfl rfl rfl rfl ?_
 refine yX rfl rfl rfl rfl ?_
 refine yA rfl rfl ?_
 refine yA rfl rfl ?_
 refine yN ?_
 dsimp only [St.put]
 refine K2 _ ?_
 refine yS fun _ K3 => ?_
 refine yR ?_
 try dsimp only [St.put]
 refine ae rfl (ay rfl rfl rfl (nk) ?_)
 try dsimp only [St.put]
 refine ae rfl ((dx rfl rfl rfl ((un9 n)) zG (by dsimp only [St.put]; omega) ?_))
 refine yM rfl rfl ?_
 refine yX rfl rfl rfl rfl ?_
 refine yX rfl rfl rfl rfl ?_
 refine yA rfl rfl ?_
 refine yA rfl rfl ?_
 refine yN ?_
 dsimp only [St.put]
 refine K3 _ ?_
 refine yS fun _ K4 => ?_
 refine yR ?_
 try dsimp only [St.put]
 refine ae rfl (ay rfl rfl rfl (nk) ?_)
 try dsimp only [St.put]
 refine ae rfl ((dx rfl rfl rfl ((uoc n)) zG (by dsimp only [St.put]; omega) ?_))
 refine yM rfl rfl ?_
 refine yX rfl rfl rfl rfl ?_
 refine yX rfl rfl rfl rfl ?_
 refine yA rfl rfl ?_
 refine yA rfl rfl ?_
 refine yN ?_
 dsimp only [St.put]
 refine K4 _ ?_
 refine yS fun _ K5 => ?_
 refine yR ?_
 try dsimp only [St.put]
 refine ae rfl (ay rfl rfl rfl (nk) ?_)
 try dsimp only [St.put]
 refine ae rfl ((dx rfl rfl rfl ((un8 n)) zG (by dsimp only [St.put]; omega) ?_))
 refine yM rfl rfl ?_
 refine yX rfl rfl rfl rfl ?_
 refine yX rfl rfl rfl rfl ?_
 try dsimp only [St.put]
 refine ae rfl (cz rfl ?_)
 try dsimp only [St.put]
 refine ae rfl (co rfl rfl rfl zG rfl rfl (by rfl) ?_)
 refine yA rfl rfl ?_
 refine yN ?_
 dsimp only [St.put]
 refine K5 _ ?_
 refine eu (i := 7) rfl zG zC ?_
 dsimp only
 refine yS fun _ K6 => ?_
 refine yR ?_
 try dsimp only [St.put]
 refine ae rfl (ay rfl rfl rfl (nk) ?_)
 try dsimp only [St.put]
 refine ae rfl ((dx rfl rfl rfl ((un7 n)) zG (by dsimp only [St.put]; omega) ?_))
 refine yM rfl rfl ?_
 refine yX rfl rfl rfl rfl ?_
 refine yX rfl rfl rfl rfl ?_
 try dsimp only [St.put]
 refine ae rfl (cz rfl ?_)
 try dsimp only [St.put]
 refine ae rfl (co rfl rfl rfl zG rfl rfl (by rfl) ?_)
 refine yA rfl rfl ?_
 refine yN ?_
 dsimp only [St.put]
 refine K6 _ ?_
 refine eu (i := 9) rfl zG zC ?_
 dsimp only
 refine yS fun _ K7 => ?_
 refine yR ?_
 try dsimp only [St.put]
 refine ae rfl (ay rfl rfl rfl (nk) ?_)
 try dsimp only [St.put]
 refine ae rfl ((dx rfl rfl rfl ((un6 n)) zG (by dsimp only [St.put]; omega) ?_))
 refine yM rfl rfl ?_
 refine yX rfl rfl rfl rfl ?_
 refine yX rfl rfl rfl rfl ?_
 try dsimp only [St.put]
 refine ae rfl (cz rfl ?_)
 try dsimp only [St.put]
 refine ae rfl (co rfl rfl rfl zG rfl rfl (by rfl) ?_)
 refine yA rfl rfl ?_
 refine yN ?_
 dsimp only [St.put]
 refine K7 _ ?_
 refine eu (i := 11) rfl zG zC ?_
 dsimp only
 refine yS fun _ K8 => ?_
 refine yR ?_
 try dsimp only [St.put]
 refine ae rfl (ay rfl rfl rfl (nk) ?_)
 try dsimp only [St.put]
 refine ae rfl ((dx rfl rfl rfl ((un4 n)) zG (by dsimp only [St.put]; omega) ?_))
 refine yM rfl rfl ?_
 refine yX rfl rfl rfl rfl ?_
 refine yX rfl rfl rfl rfl ?_
 refine yA rfl rfl ?_
 refine yA rfl rfl ?_
 refine yN ?_
 dsimp only [St.put]
 refine K8 _ ?_
 refine yS fun _ K9 => ?_
 refine yR ?_
 try dsimp only [St.put]
 refine ae rfl (ay rfl rfl rfl (nk) ?_)
 try dsimp only [St.put]
 refine ae rfl ((dx rfl rfl rfl ((alWhy n)) zG (by dsimp only [St.put]; omega) ?_))
 refine yM rfl rfl ?_
 refine yX rfl rfl rfl rfl ?_
 refine yX rfl rfl rfl rfl ?_
 refine yX rfl rfl rfl rfl ?_
 refine yA rfl rfl ?_
 refine yA rfl rfl ?_
 refine yA rfl rfl ?_
 refine yN ?_
 dsimp only [St.put]
 refine K9 _ ?_
 refine yS fun _ K10 => ?_
 refine cp 18 ?_
 refine zQ ?_
 refine dl G zX ?_
 dsimp only
 refine yR ?_
 refine yM rfl rfl ?_
 refine aa rfl (d8 (ff rfl rfl rfl) (decide_eq_true (by omega))) ?_
 refine yM rfl rfl ?_
 refine yM rfl rfl ?_
 ((first | refine aa rfl ((d8 (c := true) (ff rfl rfl rfl) (decide_eq_true rfl))) ?_ | refine af rfl rfl rfl rfl ((d8 (c := true) (ff rfl rfl rfl) (decide_eq_true rfl))) ?_ | refine ec rfl rfl rfl rfl ((d8 (c := true) (ff rfl rfl rfl) (decide_eq_true rfl))) ?_ | refine uw rfl rfl rfl ((d8 (c := true) (ff rfl rfl rfl) (decide_eq_true rfl))) ?_))
 refine aa rfl (bw rfl rfl (by constructor)) ?_
 refine yM rfl rfl ?_
 refine yM rfl rfl ?_
 refine aa rfl (d8 (ff rfl rfl rfl) (decide_eq_true (by omega))) ?_
 refine aa rfl (bw rfl rfl (by constructor)) ?_
 refine yM rfl rfl ?_
 refine yM rfl rfl ?_
 try dsimp only [St.put]
 refine ae rfl (ay rfl rfl rfl (qj _ _ _) ?_)
 try dsimp only [St.put]
 refine ae rfl (ay rfl rfl rfl (qj _ _ _) ?_)
 try dsimp only [St.put]
 refine ae rfl (du rfl rfl rfl (by decide) (by decide) zR (by decide) ?_)
 try dsimp only [St.put]
 refine ae rfl (ay rfl rfl rfl (ud [⟨0, 0, 0⟩, ⟨0, 0, 3⟩]) ?_)
 try dsimp only [St.put]
 refine ae rfl (ay rfl rfl rfl (uds [⟨0, 0, 0⟩, ⟨0, 0, 3⟩]) ?_)
 refine aa rfl (bw rfl rfl (by constructor)) ?_
 refine yM rfl rfl ?_
 refine yM rfl rfl ?_
 refine aa rfl (d8 (ff rfl rfl rfl) (decide_eq_true (by omega))) ?_
 refine aa rfl (bw rfl rfl (by constructor)) ?_
 refine yM rfl rfl ?_
 refine yM rfl rfl ?_
 try dsimp only [St.put]
 refine ae rfl (ay rfl rfl rfl (qj _ _ _) ?_)
 try dsimp only [St.put]
 refine ae rfl (du rfl rfl rfl (by decide) (by decide) zR (by decide) ?_)
 try dsimp only [St.put]
 refine ae rfl (ay rfl rfl rfl (ud [⟨0, 0, 0⟩]) ?_)
 try dsimp only [St.put]
 refine ae rfl (ay rfl rfl rfl (uds [⟨0, 0, 0⟩]) ?_)
 refine aa rfl (bw rfl rfl (by constructor)) ?_
 refine yM rfl rfl ?_
 try dsimp only [St.put]
 refine ae rfl ((dx rfl rfl rfl ((uob n)) zG (by dsimp only [St.put]; omega) ?_))
 refine aa rfl (bw rfl rfl (by constructor)) ?_
 refine yM rfl rfl ?_
 refine yM rfl rfl ?_
 refine aa rfl (d8 (ff rfl rfl rfl) (decide_eq_true (by omega))) ?_
 refine aa rfl (bw rfl rfl (by constructor)) ?_
 refine yM rfl rfl ?_
 refine yE rfl rfl rfl ?_
 refine aa rfl (gz rfl rfl) ?_
 ((first | refine aa rfl ((d8 (c := true) (ma (x := (⟨2, 2⟩ : bk)) (y := (⟨2, 2⟩ : bk)) rfl rfl rfl) (decide_eq_true rfl))) ?_ | refine af rfl rfl rfl rfl ((d8 (c := true) (ma (x := (⟨2, 2⟩ : bk)) (y := (⟨2, 2⟩ : bk)) rfl rfl rfl) (decide_eq_true rfl))) ?_ | refine ec rfl rfl rfl rfl ((d8 (c := true) (ma (x := (⟨2, 2⟩ : bk)) (y := (⟨2, 2⟩ : bk)) rfl rfl rfl) (decide_eq_true rfl))) ?_ | refine uw rfl rfl rfl ((d8 (c := true) (ma (x := (⟨2, 2⟩ : bk)) (y := (⟨2, 2⟩ : bk)) rfl rfl rfl) (decide_eq_true rfl))) ?_))
 refine aa rfl (bw rfl rfl (by constructor)) ?_
 refine yM rfl rfl ?_
 refine yM rfl rfl ?_
 refine aa rfl (d8 (ff rfl rfl rfl) (decide_eq_true (by omega))) ?_
 refine aa rfl (bw rfl rfl (by constructor)) ?_
 refine yM rfl rfl ?_
 refine yE rfl rfl rfl ?_
 refine aa rfl (gz rfl rfl) ?_
 ((first | refine aa rfl ((d8 (c := true) (ma (x := (⟨0, 1⟩ : bk)) (y := (⟨0, 1⟩ : bk)) rfl rfl rfl) (decide_eq_true rfl))) ?_ | refine af rfl rfl rfl rfl ((d8 (c := true) (ma (x := (⟨0, 1⟩ : bk)) (y := (⟨0, 1⟩ : bk)) rfl rfl rfl) (decide_eq_true rfl))) ?_ | refine ec rfl rfl rfl rfl ((d8 (c := true) (ma (x := (⟨0, 1⟩ : bk)) (y := (⟨0, 1⟩ : bk)) rfl rfl rfl) (decide_eq_true rfl))) ?_ | refine uw rfl rfl rfl ((d8 (c := true) (ma (x := (⟨0, 1⟩ : bk)) (y := (⟨0, 1⟩ : bk)) rfl rfl rfl) (decide_eq_true rfl))) ?_))
 refine aa rfl (bw rfl rfl (by constructor)) ?_
 refine yM rfl rfl ?_
 refine yM rfl rfl ?_
 refine aa rfl (d8 (ff rfl rfl rfl) (decide_eq_true (by omega))) ?_
 refine aa rfl (bw rfl rfl (by constructor)) ?_
 refine yM rfl rfl ?_
 refine yE rfl rfl rfl ?_
 refine aa rfl (gz rfl rfl) ?_
 ((first | refine aa rfl ((d8 (c := true) (ma (x := (⟨0, 1⟩ : bk)) (y := (⟨0, 1⟩ : bk)) rfl rfl rfl) (decide_eq_true rfl))) ?_ | refine af rfl rfl rfl rfl ((d8 (c := true) (ma (x := (⟨0, 1⟩ : bk)) (y := (⟨0, 1⟩ : bk)) rfl rfl rfl) (decide_eq_true rfl))) ?_ | refine ec rfl rfl rfl rfl ((d8 (c := true) (ma (x := (⟨0, 1⟩ : bk)) (y := (⟨0, 1⟩ : bk)) rfl rfl rfl) (decide_eq_true rfl))) ?_ | refine uw rfl rfl rfl ((d8 (c := true) (ma (x := (⟨0, 1⟩ : bk)) (y := (⟨0, 1⟩ : bk)) rfl rfl rfl) (decide_eq_true rfl))) ?_))
 refine aa rfl (bw rfl rfl (by constructor)) ?_
 refine yM rfl rfl ?_
 refine yM rfl rfl ?_
 refine aa rfl (d8 (ff rfl rfl rfl) (decide_eq_true (by omega))) ?_
 refine aa rfl (bw rfl rfl (by constructor)) ?_
 refine yM rfl rfl ?_
 refine yM rfl rfl ?_
 try dsimp only [St.put]
 refine ae rfl (du rfl rfl rfl (by decide) (by decide) zR (by decide) ?_)
 try dsimp only [St.put]
 refine ae rfl (ay rfl rfl rfl (udt [1, 0] (by decide)) ?_)
 refine aa rfl (bw rfl rfl (by constructor)) ?_
 refine yM rfl rfl ?_
 refine yM rfl rfl ?_
 refine aa rfl (d8 (ff rfl rfl rfl) (decide_eq_true (by omega))) ?_
 refine aa rfl (bw rfl rfl (by constructor)) ?_
 refine yM rfl rfl ?_
 refine yM rfl rfl ?_
 try dsimp only [St.put]
 refine ae rfl (du rfl rfl rfl (by decide) (by decide) zR (by decide) ?_)
 try dsimp only [St.put]
 refine ae rfl (ay rfl rfl rfl (udt [0] (by decide)) ?_)
 refine aa rfl (bw rfl rfl (by constructor)) ?_
 refine yM rfl rfl ?_
 refine yM rfl rfl ?_
 refine aa rfl (bn rfl rfl (List.length_map _)) ?_
 ((first | refine aa rfl ((d8 (c := true) (ff rfl rfl rfl) (decide_eq_true rfl))) ?_ | refine af rfl rfl rfl rfl ((d8 (c := true) (ff rfl rfl rfl) (decide_eq_true rfl))) ?_ | refine ec rfl rfl rfl rfl ((d8 (c := true) (ff rfl rfl rfl) (decide_eq_true rfl))) ?_ | refine uw rfl rfl rfl ((d8 (c := true) (ff rfl rfl rfl) (decide_eq_true rfl))) ?_))
 refine aa rfl (bw rfl rfl (by constructor)) ?_
 refine yM rfl rfl ?_
 try dsimp only [St.put]
 refine ae rfl (du rfl rfl rfl (by decide) (by decide) zR (by decide) ?_)
 try dsimp only [St.put]
 refine ae rfl ((dx rfl rfl rfl ((uoa n)) zG (by dsimp only [St.put]; omega) ?_))
 refine aa rfl (bw rfl rfl (by constructor)) ?_
 refine yA rfl rfl ?_
 refine yN ?_
 dsimp only [St.put]
 refine K10 _ ?_
 refine aq ?_
 refine bg rfl (by constructor) zN zS ?_
 rfl
theorem ulm (p : ah) : Pure Tryd.prog 30 [val p] (.v (.bool (re p))) := by
 refine cy Tryd.func30 rfl (fun m => .v) fun G nx => ?_
 simp only [Tryd.ntmps30, List.length_cons, List.length_nil, Nat.reduceAdd, Nat.reduceSub]
 refine bu fun hlt => ?_
 dsimp only at hlt
 refine yS fun _ K1 => ?_
 refine yR ?_
 try dsimp only [St.put]
 refine yB rfl rfl rfl ?_
 refine yA rfl rfl ?_
 refine yN ?_
 dsimp only [St.put]
 refine K1 _ ?_
 refine yS fun _ K2 => ?_
 refine yR ?_
 refine yE rfl rfl rfl ?_
 try dsimp only [St.put]
 refine ae rfl (ay rfl rfl rfl (ui5 p) ?_)
 refine aa rfl (d9 rfl rfl) ?_
 refine yM rfl rfl ?_
 refine et (fun hs => ?_) (fun hs => ?_)
 ·have h1 : lp p = false := by simpa using hs
  refine yE rfl rfl rfl ?_
  try dsimp only [St.put]
  refine ae rfl (ay rfl rfl rfl (ui6 p) ?_)
  refine aa rfl (ff rfl rfl rfl) ?_
  refine aa rfl (bw rfl rfl (by constructor)) ?_
  refine yA rfl rfl ?_
  refine yN ?_
  dsimp only [St.put]
  refine K2 _ ?_
  refine aq ?_
  refine bg rfl (by constructor) zN zS ?_
  exact vb (by simp [re, h1])
 have h1 : lp p = true := by simpa using hs
 refine yK rfl ?_
 refine yK rfl ?_
 refine yK rfl ?_
 refine aa rfl (cm rfl rfl (by constructor)) ?_
 refine yA rfl rfl ?_
 refine yN ?_
 dsimp only [St.put]
 refine K2 _ ?_
 refine aq ?_
 refine bg rfl (by constructor) zN zS ?_
 exact vb (by simp [re, h1])
end Go.Proofs.YtbbdginipiljdaaDoor
namespace Go.AB
open Go Go.RowKit
open Go.AB.Enc (cells)
open Go.PB (av ai PlaceD az bf ba bh am ah ck bk)
end Go.AB
namespace Go.AB
open Go Go.RowKit
open Go.AB.Enc (cells)
open Go.PB (av ai PlaceD az bf ba bh am ah ck bk c4 c6)
theorem ucx {P : Program} {o : Oper} {st : St} {xt yt : TypeId} {x y : Operand} {m n r : Int} (hr : m % n = r) (ho : o.op = .binOp .rem xt x y yt) (hx : evC st x = .v (.int .i64 m)) (hy : evC st y = .v (.int .i64 n)) (hm : 0 ≤ m ∧ m ≤ 9223372036854775807) (hn : 0 < n) : NStep P o st (.v (.int .i64 r)) := hr ▸ n_rem ho hx hy hm hn
section
variable {p : ah} {i : Nat} {x : am}
theorem uno (h : cc p = 0) (hx : p.pages[i]? = some x) : eg p (i : Int) = 0 := by
 have := (List.getElem?_eq_some_iff.1 hx).1
 unfold eg
 rw [decide_eq_true h, cond_true, inB_true.2 (by omega)]
 rfl
end
end Go.AB
namespace Go.Proofs.YtbbdginipiljdaaDoor
set_option maxRecDepth 10000
open Go Go.RowKit Go.AB
open Go.AB.Enc (cells)
open Go.PB (av ai PlaceD az bf ba bh am ah ck bk c4 c6)
section
variable {p : ah} {i : Nat} {x : am}
end
end Go.Proofs.YtbbdginipiljdaaDoor
namespace Go.AB
open Go Go.RowKit
open Go.AB.Enc (cells)
open Go.PB (av ai PlaceD az bf ba bh am ah ck bk c4 c6)
end Go.AB
namespace Go.Proofs.YtbbdginipiljdaaDoor
set_option maxRecDepth 10000
open Go Go.RowKit Go.AB
open Go.AB.Enc (cells)
open Go.PB (av ai PlaceD az bf ba bh am ah ck bk c4 c6)
theorem udr (n : Nat) (p : ah) (h : eb p (cc p) = 0) : fk n fg Tryd.prog 31 [val p] (.tup [val (⟨0, n8 p⟩ : bk), .v (.int .i64 0)]) := by
 have := ri n p
 rwa [h, show l4 p = ⟨0, n8 p⟩ by unfold l4; rw [h]; rfl] at this
theorem wt (n : Nat) (p : ah) (h : eb p (cc p) = 0) {i : Nat} {x : am} (hx : p.pages[i]? = some x) : fk n fg Tryd.prog 32 [val p, .v (.int .i64 (i : Int))] (.tup [val (⟨0, (bv p).alone (cv p) (dc p) i⟩ : bk), .v (.int .i64 0)]) := by
 have hC := (rt h).1
 have hA : eb p (eg p (i : Int)) = 0 := by
  rw [hC] at h
  rw [uno hC hx]
  exact h
 have := ucc n p (i : Int)
 rwa [hA, show oo p (i : Int) = ⟨0, (bv p).alone (cv p) (dc p) i⟩ by unfold oo; rw [hA, Int.toNat_natCast]; rfl] at this
end Go.Proofs.YtbbdginipiljdaaDoor
namespace Go.AB
open Go Go.RowKit
open Go.AB.Enc (cells)
open Go.PB (av ai PlaceD az bf ba bh am ah ck bk)
def twD (i : Nat) : Bool := [3, 5, 6, 7, 8, 9, 10, 11, 12, 13, 14, 15, 16, 17, 18, 19, 20].contains i
structure TwS (p : ah) (eR eP : TypeId) (G0 : Nat → Option GObj) (n0 nn df : Nat) (l0 : List C) (A0 : Nat → C) (b2 b3 b6 b7 b10 b11 b14 b15 b16 b17 : Bool) (st : St) (a b c d va vb vc : Nat) : Prop where
 n : st.n = nn
 df : st.df = df
 l : st.l = l0
 nx : st.nx = n0 + b3.toNat + b7.toNat + b11.toNat + b16.toNat
 s : ∀ i, twD i = false → bl st.l st.r i = A0 i
 x10 : bl st.l st.r 10 = lst p.firsts
 x14 : bl st.l st.r 14 = lst p.seconds
 x18 : bl st.l st.r 18 = lst p.pages
 x6 : bl st.l st.r 6 = gp p.text
 f2 : b2 = true → bl st.l st.r 7 = gp p.text
 f3 : b3 = true → bl st.l st.r 8 = .own a 0 0
 r3 : b3 = true → n0 ≤ a ∧ a < st.nx
 g3 : b3 = true → b6 = false → st.G a = some (.arr 0 0 eR 2 0 [])
 f6 : b6 = true → bl st.l st.r 11 = .own a va p.firsts.length
 g6 : b6 = true → st.G a = some (.arr va 0 eR 2 p.firsts.length (ci p.firsts))
 f7 : b7 = true → bl st.l st.r 12 = .own b 0 0
 r7 : b7 = true → n0 ≤ b ∧ b < st.nx
 g7 : b7 = true → b10 = false → st.G b = some (.arr 0 0 eR 2 0 [])
 f10 : b10 = true → bl st.l st.r 15 = .own b vb p.seconds.length
 g10 : b10 = true → st.G b = some (.arr vb 0 eR 2 p.seconds.length (ci p.seconds))
 f11 : b11 = true → bl st.l st.r 16 = .own c 0 0
 r11 : b11 = true → n0 ≤ c ∧ c < st.nx
 g11 : b11 = true → b14 = false → st.G c = some (.arr 0 0 eP 6 0 [])
 f14 : b14 = true → bl st.l st.r 19 = .own c vc p.pages.length
 g14 : b14 = true → st.G c = some (.arr vc 0 eP 6 p.pages.length (ci p.pages))
 f15 : b15 = true → bl st.l st.r 20 = .agg [lst p.text, .own a va p.firsts.length, .own b vb p.seconds.length, .own c vc p.pages.length]
 f16 : b16 = true → bl st.l st.r 3 = .box d 0 0
 r16 : b16 = true → n0 ≤ d ∧ d < st.nx
 g16 : b16 = true → b17 = false → st.G d = some (.box 0 [.list [] .nil, .list [] .nil, .list [] .nil, .list [] .nil])
 f17 : b17 = true → st.G d = some (.box 1 [lst p.text, .own a va p.firsts.length, .own b vb p.seconds.length, .own c vc p.pages.length])
 ab : b3 = true → b7 = true → a ≠ b
 ac : b3 = true → b11 = true → a ≠ c
 ad : b3 = true → b16 = true → a ≠ d
 bc : b7 = true → b11 = true → b ≠ c
 bd : b7 = true → b16 = true → b ≠ d
 cd : b11 = true → b16 = true → c ≠ d
 G : ∀ m, (b3 = true → m ≠ a) → (b7 = true → m ≠ b) → (b11 = true → m ≠ c) → (b16 = true → m ≠ d) → st.G m = G0 m
 e6 : b6 = true → b3 = true
 e10 : b10 = true → b7 = true
 e14 : b14 = true → b11 = true
 e17 : b17 = true → b16 = true
 e18 : b17 = true → b15 = true
 q2 : b15 = true → b2 = true
 q6 : b15 = true → b6 = true
 q10 : b15 = true → b10 = true
 q14 : b15 = true → b14 = true
section
variable {p : ah} {eR eP : TypeId} {G0 : Nat → Option GObj} {n0 nn df : Nat} {l0 : List C} {A0 : Nat → C} {b2 b3 b6 b7 b10 b11 b14 b15 b16 b17 : Bool} {st : St} {a b c d va vb vc : Nat}
theorem n7 {i j : Nat} (h : twD i = false) (k : twD j = true) : Nat.beq j i = false := by
 cases e : Nat.beq j i
 ·rfl
 ·rw [Nat.eq_of_beq_eq_true e, h] at k; cases k
theorem TwS.step2 (h : TwS p eR eP G0 n0 nn df l0 A0 false b3 b6 b7 b10 b11 b14 b15 b16 b17 st a b c d va vb vc) : TwS p eR eP G0 n0 nn df l0 A0 true b3 b6 b7 b10 b11 b14 b15 b16 b17 (st.put (some 7) (gp p.text)) a b c d va vb vc := by
 exact {
  n := h.n
  df := h.df
  l := h.l
  nx := h.nx
  s := fun i hi => by show (bif Nat.beq 7 i then _ else bl st.l st.r i) = _; rw [n7 hi rfl]; exact h.s i hi
  x10 := h.x10
  x14 := h.x14
  x18 := h.x18
  x6 := h.x6
  f2 := fun _ => rfl
  f3 := h.f3
  r3 := h.r3
  g3 := h.g3
  f6 := h.f6
  g6 := h.g6
  f7 := h.f7
  r7 := h.r7
  g7 := h.g7
  f10 := h.f10
  g10 := h.g10
  f11 := h.f11
  r11 := h.r11
  g11 := h.g11
  f14 := h.f14
  g14 := h.g14
  f15 := h.f15
  f16 := h.f16
  r16 := h.r16
  g16 := h.g16
  f17 := h.f17
  ab := h.ab
  ac := h.ac
  ad := h.ad
  bc := h.bc
  bd := h.bd
  cd := h.cd
  G := h.G
  e6 := h.e6
  e10 := h.e10
  e14 := h.e14
  e17 := h.e17
  e18 := h.e18
  q2 := fun _ => rfl
  q6 := h.q6
  q10 := h.q10
  q14 := h.q14 }
theorem TwS.step3 (h : TwS p eR eP G0 n0 nn df l0 A0 b2 false b6 b7 b10 b11 b14 b15 b16 b17 st a b c d va vb vc) (k : b6 = false) (k15 : b15 = false) : TwS p eR eP G0 n0 nn df l0 A0 b2 true b6 b7 b10 b11 b14 b15 b16 b17 (St.put { st with G := ak st.G st.nx (.arr 0 0 eR 2 0 []), nx := st.nx + 1 } (some 8) (.own st.nx 0 0)) st.nx b c d va vb vc := by
 have hnx := h.nx
 subst k
 subst k15
 exact {
  n := h.n
  df := h.df
  l := h.l
  nx := by show st.nx + 1 = _; rw [hnx]; simp only [Bool.toNat_true, Bool.toNat_false] <;> omega
  s := fun i hi => by show (bif Nat.beq 8 i then _ else bl st.l st.r i) = _; rw [n7 hi rfl]; exact h.s i hi
  x10 := h.x10
  x14 := h.x14
  x18 := h.x18
  x6 := h.x6
  f2 := h.f2
  f3 := fun _ => rfl
  r3 := fun _ => ⟨by omega, Nat.lt_succ_self _⟩
  g3 := fun _ _ => jo _ _ _
  f6 := fun e => nomatch e
  g6 := fun e => nomatch e
  f7 := h.f7
  r7 := fun e => ⟨(h.r7 e).1, Nat.lt_succ_of_lt (h.r7 e).2⟩
  g7 := fun e f => (ct (Nat.ne_of_lt (h.r7 e).2)).trans (h.g7 e f)
  f10 := h.f10
  g10 := fun f => have e := h.e10 f; (ct (Nat.ne_of_lt (h.r7 e).2)).trans (h.g10 f)
  f11 := h.f11
  r11 := fun e => ⟨(h.r11 e).1, Nat.lt_succ_of_lt (h.r11 e).2⟩
  g11 := fun e f => (ct (Nat.ne_of_lt (h.r11 e).2)).trans (h.g11 e f)
  f14 := h.f14
  g14 := fun f => have e := h.e14 f; (ct (Nat.ne_of_lt (h.r11 e).2)).trans (h.g14 f)
  f15 := fun e => nomatch e
  f16 := h.f16
  r16 := fun e => ⟨(h.r16 e).1, Nat.lt_succ_of_lt (h.r16 e).2⟩
  g16 := fun e f => (ct (Nat.ne_of_lt (h.r16 e).2)).trans (h.g16 e f)
  f17 := fun f => nomatch h.e18 f
  ab := fun _ e => (Nat.ne_of_lt (h.r7 e).2).symm
  ac := fun _ e => (Nat.ne_of_lt (h.r11 e).2).symm
  ad := fun _ e => (Nat.ne_of_lt (h.r16 e).2).symm
  bc := h.bc
  bd := h.bd
  cd := h.cd
  G := fun m h1 h2 h3 h4 => (ct (h1 rfl)).trans (h.G m (fun e => nomatch e) h2 h3 h4)
  e6 := fun e => nomatch e
  e10 := h.e10
  e14 := h.e14
  e17 := h.e17
  e18 := h.e18
  q2 := h.q2
  q6 := h.q6
  q10 := h.q10
  q14 := h.q14 }
theorem TwS.step6 (h : TwS p eR eP G0 n0 nn df l0 A0 b2 true false b7 b10 b11 b14 b15 b16 b17 st a b c d va vb vc) (k15 : b15 = false) (w : Nat) : TwS p eR eP G0 n0 nn df l0 A0 b2 true true b7 b10 b11 b14 b15 b16 b17 (St.put { st with G := ak st.G a (.arr w 0 eR 2 p.firsts.length (ci p.firsts)) } (some 11) (.own a w p.firsts.length)) a b c d w vb vc := by
 subst k15
 exact {
  n := h.n
  df := h.df
  l := h.l
  nx := h.nx
  s := fun i hi => by show (bif Nat.beq 11 i then _ else bl st.l st.r i) = _; rw [n7 hi rfl]; exact h.s i hi
  x10 := h.x10
  x14 := h.x14
  x18 := h.x18
  x6 := h.x6
  f2 := h.f2
  f3 := h.f3
  r3 := h.r3
  g3 := fun _ e => nomatch e
  f6 := fun _ => rfl
  g6 := fun _ => jo _ _ _
  f7 := h.f7
  r7 := h.r7
  g7 := fun e f => (ct (h.ab rfl e).symm).trans (h.g7 e f)
  f10 := h.f10
  g10 := fun f => have e := h.e10 f; (ct (h.ab rfl e).symm).trans (h.g10 f)
  f11 := h.f11
  r11 := h.r11
  g11 := fun e f => (ct (h.ac rfl e).symm).trans (h.g11 e f)
  f14 := h.f14
  g14 := fun f => have e := h.e14 f; (ct (h.ac rfl e).symm).trans (h.g14 f)
  f15 := fun e => nomatch e
  f16 := h.f16
  r16 := h.r16
  g16 := fun e f => (ct (h.ad rfl e).symm).trans (h.g16 e f)
  f17 := fun f => nomatch h.e18 f
  ab := h.ab
  ac := h.ac
  ad := h.ad
  bc := h.bc
  bd := h.bd
  cd := h.cd
  G := fun m h1 h2 h3 h4 => (ct (h1 rfl)).trans (h.G m h1 h2 h3 h4)
  e6 := fun _ => rfl
  e10 := h.e10
  e14 := h.e14
  e17 := h.e17
  e18 := h.e18
  q2 := h.q2
  q6 := fun _ => rfl
  q10 := h.q10
  q14 := h.q14 }
theorem TwS.step7 (h : TwS p eR eP G0 n0 nn df l0 A0 b2 b3 b6 false b10 b11 b14 b15 b16 b17 st a b c d va vb vc) (k : b10 = false) (k15 : b15 = false) : TwS p eR eP G0 n0 nn df l0 A0 b2 b3 b6 true b10 b11 b14 b15 b16 b17 (St.put { st with G := ak st.G st.nx (.arr 0 0 eR 2 0 []), nx := st.nx + 1 } (some 12) (.own st.nx 0 0)) a st.nx c d va vb vc := by
 have hnx := h.nx
 subst k
 subst k15
 exact {
  n := h.n
  df := h.df
  l := h.l
  nx := by show st.nx + 1 = _; rw [hnx]; simp only [Bool.toNat_true, Bool.toNat_false] <;> omega
  s := fun i hi => by show (bif Nat.beq 12 i then _ else bl st.l st.r i) = _; rw [n7 hi rfl]; exact h.s i hi
  x10 := h.x10
  x14 := h.x14
  x18 := h.x18
  x6 := h.x6
  f2 := h.f2
  f3 := h.f3
  r3 := fun e => ⟨(h.r3 e).1, Nat.lt_succ_of_lt (h.r3 e).2⟩
  g3 := fun e f => (ct (Nat.ne_of_lt (h.r3 e).2)).trans (h.g3 e f)
  f6 := h.f6
  g6 := fun f => have e := h.e6 f; (ct (Nat.ne_of_lt (h.r3 e).2)).trans (h.g6 f)
  f7 := fun _ => rfl
  r7 := fun _ => ⟨by omega, Nat.lt_succ_self _⟩
  g7 := fun _ _ => jo _ _ _
  f10 := fun e => nomatch e
  g10 := fun e => nomatch e
  f11 := h.f11
  r11 := fun e => ⟨(h.r11 e).1, Nat.lt_succ_of_lt (h.r11 e).2⟩
  g11 := fun e f => (ct (Nat.ne_of_lt (h.r11 e).2)).trans (h.g11 e f)
  f14 := h.f14
  g14 := fun f => have e := h.e14 f; (ct (Nat.ne_of_lt (h.r11 e).2)).trans (h.g14 f)
  f15 := fun e => nomatch e
  f16 := h.f16
  r16 := fun e => ⟨(h.r16 e).1, Nat.lt_succ_of_lt (h.r16 e).2⟩
  g16 := fun e f => (ct (Nat.ne_of_lt (h.r16 e).2)).trans (h.g16 e f)
  f17 := fun f => nomatch h.e18 f
  ab := fun e _ => Nat.ne_of_lt (h.r3 e).2
  ac := h.ac
  ad := h.ad
  bc := fun _ e => (Nat.ne_of_lt (h.r11 e).2).symm
  bd := fun _ e => (Nat.ne_of_lt (h.r16 e).2).symm
  cd := h.cd
  G := fun m h1 h2 h3 h4 => (ct (h2 rfl)).trans (h.G m h1 (fun e => nomatch e) h3 h4)
  e6 := h.e6
  e10 := fun e => nomatch e
  e14 := h.e14
  e17 := h.e17
  e18 := h.e18
  q2 := h.q2
  q6 := h.q6
  q10 := h.q10
  q14 := h.q14 }
theorem TwS.step10 (h : TwS p eR eP G0 n0 nn df l0 A0 b2 b3 b6 true false b11 b14 b15 b16 b17 st a b c d va vb vc) (k15 : b15 = false) (w : Nat) : TwS p eR eP G0 n0 nn df l0 A0 b2 b3 b6 true true b11 b14 b15 b16 b17 (St.put { st with G := ak st.G b (.arr w 0 eR 2 p.seconds.length (ci p.seconds)) } (some 15) (.own b w p.seconds.length)) a b c d va w vc := by
 subst k15
 exact {
  n := h.n
  df := h.df
  l := h.l
  nx := h.nx
  s := fun i hi => by show (bif Nat.beq 15 i then _ else bl st.l st.r i) = _; rw [n7 hi rfl]; exact h.s i hi
  x10 := h.x10
  x14 := h.x14
  x18 := h.x18
  x6 := h.x6
  f2 := h.f2
  f3 := h.f3
  r3 := h.r3
  g3 := fun e f => (ct (h.ab e rfl)).trans (h.g3 e f)
  f6 := h.f6
  g6 := fun f => have e := h.e6 f; (ct (h.ab e rfl)).trans (h.g6 f)
  f7 := h.f7
  r7 := h.r7
  g7 := fun _ e => nomatch e
  f10 := fun _ => rfl
  g10 := fun _ => jo _ _ _
  f11 := h.f11
  r11 := h.r11
  g11 := fun e f => (ct (h.bc rfl e).symm).trans (h.g11 e f)
  f14 := h.f14
  g14 := fun f => have e := h.e14 f; (ct (h.bc rfl e).symm).trans (h.g14 f)
  f15 := fun e => nomatch e
  f16 := h.f16
  r16 := h.r16
  g16 := fun e f => (ct (h.bd rfl e).symm).trans (h.g16 e f)
  f17 := fun f => nomatch h.e18 f
  ab := h.ab
  ac := h.ac
  ad := h.ad
  bc := h.bc
  bd := h.bd
  cd := h.cd
  G := fun m h1 h2 h3 h4 => (ct (h2 rfl)).trans (h.G m h1 h2 h3 h4)
  e6 := h.e6
  e10 := fun _ => rfl
  e14 := h.e14
  e17 := h.e17
  e18 := h.e18
  q2 := h.q2
  q6 := h.q6
  q10 := fun _ => rfl
  q14 := h.q14 }
theorem TwS.step11 (h : TwS p eR eP G0 n0 nn df l0 A0 b2 b3 b6 b7 b10 false b14 b15 b16 b17 st a b c d va vb vc) (k : b14 = false) (k15 : b15 = false) : TwS p eR eP G0 n0 nn df l0 A0 b2 b3 b6 b7 b10 true b14 b15 b16 b17 (St.put { st with G := ak st.G st.nx (.arr 0 0 eP 6 0 []), nx := st.nx + 1 } (some 16) (.own st.nx 0 0)) a b st.nx d va vb vc := by
 have hnx := h.nx
 subst k
 subst k15
 exact {
  n := h.n
  df := h.df
  l := h.l
  nx := by show st.nx + 1 = _; rw [hnx]; simp only [Bool.toNat_true, Bool.toNat_false] <;> omega
  s := fun i hi => by show (bif Nat.beq 16 i then _ else bl st.l st.r i) = _; rw [n7 hi rfl]; exact h.s i hi
  x10 := h.x10
  x14 := h.x14
  x18 := h.x18
  x6 := h.x6
  f2 := h.f2
  f3 := h.f3
  r3 := fun e => ⟨(h.r3 e).1, Nat.lt_succ_of_lt (h.r3 e).2⟩
  g3 := fun e f => (ct (Nat.ne_of_lt (h.r3 e).2)).trans (h.g3 e f)
  f6 := h.f6
  g6 := fun f => have e := h.e6 f; (ct (Nat.ne_of_lt (h.r3 e).2)).trans (h.g6 f)
  f7 := h.f7
  r7 := fun e => ⟨(h.r7 e).1, Nat.lt_succ_of_lt (h.r7 e).2⟩
  g7 := fun e f => (ct (Nat.ne_of_lt (h.r7 e).2)).trans (h.g7 e f)
  f10 := h.f10
  g10 := fun f => have e := h.e10 f; (ct (Nat.ne_of_lt (h.r7 e).2)).trans (h.g10 f)
  f11 := fun _ => rfl
  r11 := fun _ => ⟨by omega, Nat.lt_succ_self _⟩
  g11 := fun _ _ => jo _ _ _
  f14 := fun e => nomatch e
  g14 := fun e => nomatch e
  f15 := fun e => nomatch e
  f16 := h.f16
  r16 := fun e => ⟨(h.r16 e).1, Nat.lt_succ_of_lt (h.r16 e).2⟩
  g16 := fun e f => (ct (Nat.ne_of_lt (h.r16 e).2)).trans (h.g16 e f)
  f17 := fun f => nomatch h.e18 f
  ab := h.ab
  ac := fun e _ => Nat.ne_of_lt (h.r3 e).2
  ad := h.ad
  bc := fun e _ => Nat.ne_of_lt (h.r7 e).2
  bd := h.bd
  cd := fun _ e => (Nat.ne_of_lt (h.r16 e).2).symm
  G := fun m h1 h2 h3 h4 => (ct (h3 rfl)).trans (h.G m h1 h2 (fun e => nomatch e) h4)
  e6 := h.e6
  e10 := h.e10
  e14 := fun e => nomatch e
  e17 := h.e17
  e18 := h.e18
  q2 := h.q2
  q6 := h.q6
  q10 := h.q10
  q14 := h.q14 }
theorem TwS.step14 (h : TwS p eR eP G0 n0 nn df l0 A0 b2 b3 b6 b7 b10 true false b15 b16 b17 st a b c d va vb vc) (k15 : b15 = false) (w : Nat) : TwS p eR eP G0 n0 nn df l0 A0 b2 b3 b6 b7 b10 true true b15 b16 b17 (St.put { st with G := ak st.G c (.arr w 0 eP 6 p.pages.length (ci p.pages)) } (some 19) (.own c w p.pages.length)) a b c d va vb w := by
 subst k15
 exact {
  n := h.n
  df := h.df
  l := h.l
  nx := h.nx
  s := fun i hi => by show (bif Nat.beq 19 i then _ else bl st.l st.r i) = _; rw [n7 hi rfl]; exact h.s i hi
  x10 := h.x10
  x14 := h.x14
  x18 := h.x18
  x6 := h.x6
  f2 := h.f2
  f3 := h.f3
  r3 := h.r3
  g3 := fun e f => (ct (h.ac e rfl)).trans (h.g3 e f)
  f6 := h.f6
  g6 := fun f => have e := h.e6 f; (ct (h.ac e rfl)).trans (h.g6 f)
  f7 := h.f7
  r7 := h.r7
  g7 := fun e f => (ct (h.bc e rfl)).trans (h.g7 e f)
  f10 := h.f10
  g10 := fun f => have e := h.e10 f; (ct (h.bc e rfl)).trans (h.g10 f)
  f11 := h.f11
  r11 := h.r11
  g11 := fun _ e => nomatch e
  f14 := fun _ => rfl
  g14 := fun _ => jo _ _ _
  f15 := fun e => nomatch e
  f16 := h.f16
  r16 := h.r16
  g16 := fun e f => (ct (h.cd rfl e).symm).trans (h.g16 e f)
  f17 := fun f => nomatch h.e18 f
  ab := h.ab
  ac := h.ac
  ad := h.ad
  bc := h.bc
  bd := h.bd
  cd := h.cd
  G := fun m h1 h2 h3 h4 => (ct (h3 rfl)).trans (h.G m h1 h2 h3 h4)
  e6 := h.e6
  e10 := h.e10
  e14 := fun _ => rfl
  e17 := h.e17
  e18 := h.e18
  q2 := h.q2
  q6 := h.q6
  q10 := h.q10
  q14 := fun _ => rfl }
theorem TwS.step15 (h : TwS p eR eP G0 n0 nn df l0 A0 true b3 true b7 true b11 true false b16 b17 st a b c d va vb vc) : TwS p eR eP G0 n0 nn df l0 A0 true b3 true b7 true b11 true true b16 b17 (st.put (some 20) (.agg [lst p.text, .own a va p.firsts.length, .own b vb p.seconds.length, .own c vc p.pages.length])) a b c d va vb vc := by
 exact {
  n := h.n
  df := h.df
  l := h.l
  nx := h.nx
  s := fun i hi => by show (bif Nat.beq 20 i then _ else bl st.l st.r i) = _; rw [n7 hi rfl]; exact h.s i hi
  x10 := h.x10
  x14 := h.x14
  x18 := h.x18
  x6 := h.x6
  f2 := h.f2
  f3 := h.f3
  r3 := h.r3
  g3 := h.g3
  f6 := h.f6
  g6 := h.g6
  f7 := h.f7
  r7 := h.r7
  g7 := h.g7
  f10 := h.f10
  g10 := h.g10
  f11 := h.f11
  r11 := h.r11
  g11 := h.g11
  f14 := h.f14
  g14 := h.g14
  f15 := fun _ => rfl
  f16 := h.f16
  r16 := h.r16
  g16 := h.g16
  f17 := h.f17
  ab := h.ab
  ac := h.ac
  ad := h.ad
  bc := h.bc
  bd := h.bd
  cd := h.cd
  G := h.G
  e6 := h.e6
  e10 := h.e10
  e14 := h.e14
  e17 := h.e17
  e18 := fun _ => rfl
  q2 := fun _ => rfl
  q6 := fun _ => rfl
  q10 := fun _ => rfl
  q14 := fun _ => rfl }
theorem TwS.step16 (h : TwS p eR eP G0 n0 nn df l0 A0 b2 b3 b6 b7 b10 b11 b14 b15 false b17 st a b c d va vb vc) (k : b17 = false) : TwS p eR eP G0 n0 nn df l0 A0 b2 b3 b6 b7 b10 b11 b14 b15 true b17 (St.put { st with G := ak st.G st.nx (.box 0 [.list [] .nil, .list [] .nil, .list [] .nil, .list [] .nil]), nx := st.nx + 1 } (some 3) (.box st.nx 0 0)) a b c st.nx va vb vc := by
 have hnx := h.nx
 subst k
 exact {
  n := h.n
  df := h.df
  l := h.l
  nx := by show st.nx + 1 = _; rw [hnx]; simp only [Bool.toNat_true, Bool.toNat_false] <;> omega
  s := fun i hi => by show (bif Nat.beq 3 i then _ else bl st.l st.r i) = _; rw [n7 hi rfl]; exact h.s i hi
  x10 := h.x10
  x14 := h.x14
  x18 := h.x18
  x6 := h.x6
  f2 := h.f2
  f3 := h.f3
  r3 := fun e => ⟨(h.r3 e).1, Nat.lt_succ_of_lt (h.r3 e).2⟩
  g3 := fun e f => (ct (Nat.ne_of_lt (h.r3 e).2)).trans (h.g3 e f)
  f6 := h.f6
  g6 := fun f => have e := h.e6 f; (ct (Nat.ne_of_lt (h.r3 e).2)).trans (h.g6 f)
  f7 := h.f7
  r7 := fun e => ⟨(h.r7 e).1, Nat.lt_succ_of_lt (h.r7 e).2⟩
  g7 := fun e f => (ct (Nat.ne_of_lt (h.r7 e).2)).trans (h.g7 e f)
  f10 := h.f10
  g10 := fun f => have e := h.e10 f; (ct (Nat.ne_of_lt (h.r7 e).2)).trans (h.g10 f)
  f11 := h.f11
  r11 := fun e => ⟨(h.r11 e).1, Nat.lt_succ_of_lt (h.r11 e).2⟩
  g11 := fun e f => (ct (Nat.ne_of_lt (h.r11 e).2)).trans (h.g11 e f)
  f14 := h.f14
  g14 := fun f => have e := h.e14 f; (ct (Nat.ne_of_lt (h.r11 e).2)).trans (h.g14 f)
  f15 := h.f15
  f16 := fun _ => rfl
  r16 := fun _ => ⟨by omega, Nat.lt_succ_self _⟩
  g16 := fun _ _ => jo _ _ _
  f17 := fun e => nomatch e
  ab := h.ab
  ac := h.ac
  ad := fun e _ => Nat.ne_of_lt (h.r3 e).2
  bc := h.bc
  bd := fun e _ => Nat.ne_of_lt (h.r7 e).2
  cd := fun e _ => Nat.ne_of_lt (h.r11 e).2
  G := fun m h1 h2 h3 h4 => (ct (h4 rfl)).trans (h.G m h1 h2 h3 (fun e => nomatch e))
  e6 := h.e6
  e10 := h.e10
  e14 := h.e14
  e17 := fun e => nomatch e
  e18 := fun e => nomatch e
  q2 := h.q2
  q6 := h.q6
  q10 := h.q10
  q14 := h.q14 }
theorem TwS.step17 (h : TwS p eR eP G0 n0 nn df l0 A0 b2 b3 b6 b7 b10 b11 b14 true true false st a b c d va vb vc) : TwS p eR eP G0 n0 nn df l0 A0 b2 b3 b6 b7 b10 b11 b14 true true true { st with G := ak st.G d (.box 1 [lst p.text, .own a va p.firsts.length, .own b vb p.seconds.length, .own c vc p.pages.length]) } a b c d va vb vc := by
 exact {
  n := h.n
  df := h.df
  l := h.l
  nx := h.nx
  s := h.s
  x10 := h.x10
  x14 := h.x14
  x18 := h.x18
  x6 := h.x6
  f2 := h.f2
  f3 := h.f3
  r3 := h.r3
  g3 := fun e f => (ct (h.ad e rfl)).trans (h.g3 e f)
  f6 := h.f6
  g6 := fun f => have e := h.e6 f; (ct (h.ad e rfl)).trans (h.g6 f)
  f7 := h.f7
  r7 := h.r7
  g7 := fun e f => (ct (h.bd e rfl)).trans (h.g7 e f)
  f10 := h.f10
  g10 := fun f => have e := h.e10 f; (ct (h.bd e rfl)).trans (h.g10 f)
  f11 := h.f11
  r11 := h.r11
  g11 := fun e f => (ct (h.cd e rfl)).trans (h.g11 e f)
  f14 := h.f14
  g14 := fun f => have e := h.e14 f; (ct (h.cd e rfl)).trans (h.g14 f)
  f15 := h.f15
  f16 := h.f16
  r16 := h.r16
  g16 := fun _ e => nomatch e
  f17 := fun _ => jo _ _ _
  ab := h.ab
  ac := h.ac
  ad := h.ad
  bc := h.bc
  bd := h.bd
  cd := h.cd
  G := fun m h1 h2 h3 h4 => (ct (h4 rfl)).trans (h.G m h1 h2 h3 h4)
  e6 := h.e6
  e10 := h.e10
  e14 := h.e14
  e17 := fun _ => rfl
  e18 := fun _ => rfl
  q2 := h.q2
  q6 := h.q6
  q10 := h.q10
  q14 := h.q14 }
end
end Go.AB
namespace Go.AB
open Go Go.RowKit
theorem nm {ops : Array Oper} {st : St} {o : Oper} (h1 : rx o.op = false) (h2 : o.guard = none) : eo ops st o = some true := by
 unfold eo uf
 rw [h1, h2]; rfl
theorem ly {st : St} {i n : Nat} {c : C} (hn : st.n = n) (hi : Nat.blt i n = true) (h : bl st.l st.r i = c) : st.at i = c := by
 unfold St.at
 rw [hn, hi]; exact h
theorem ng {a b : Bool} (h : a = true → b = true) (hb : b = false) : a = false := by
 cases a
 ·rfl
 rw [h rfl] at hb; cases hb
end Go.AB
namespace Go.Proofs.YtbbdginipiljdaaDoor
set_option maxRecDepth 10000
open Go Go.RowKit Go.AB
open Go.AB.Enc (cells)
open Go.PB (av ai PlaceD az bf ba bh am ah ck bk c4 c6)
theorem ud0 {p : ah} (h : lp p = false) : k7 p.text = false ∧ p.firsts.length ≤ 6 ∧ p.seconds.length ≤ 6 ∧ p.pages.length ≤ 12 ∧ ∀ x ∈ p.pages, x.found.length ≤ 200 ∧ x.well.length ≤ 200 := by
 unfold lp at h
 simp only [Bool.or_eq_false_iff, decide_eq_false_iff_not, List.any_eq_false] at h
 obtain ⟨⟨⟨⟨h1, h2⟩, h3⟩, h4⟩, h5⟩ := h
 refine ⟨h1, by omega, by omega, by omega, fun x hx => ?_⟩
 have := h5 x hx
 simp only [j7, Bool.or_eq_true, decide_eq_true_eq, not_or] at this
 omega
abbrev TwI (p : ah) (G0 : Nat → Option GObj) (n0 df : Nat) (l0 : List C) (A0 : Nat → C) (l : List Bool) (st : St) : Prop :=
 ∃ b2 b3 b6 b7 b10 b11 b14 b15 b16 b17 a b c d va vb vc, l = [true, true, b2, b3, true, true, b6, b7, true, true, b10, b11, true, true, b14, b15, b16, b17] ∧ TwS p 66 70 G0 n0 55 df l0 A0 b2 b3 b6 b7 b10 b11 b14 b15 b16 b17 st a b c d va vb vc
set_option maxHeartbeats 1000000 in
theorem ug6 (p : ah) (hg : lp p = false) {ol : List Oper} {K : St → Prop} {late : Nat → Bool} (st0 : St) (hlen : ol.length = 18) (hf : uh ol = true) (hgd : ∀ o ∈ ol, o.guard = none)
  (hd : ol.map mq = [[], [0], [1], [], [], [4], [3, 5, 2], [], [], [8], [7, 9, 6], [], [], [12], [11, 13, 10], [2, 6, 10, 14], [], [16, 15, 14, 0, 1, 2, 3, 4, 5, 6, 7, 8, 9, 10, 11, 12, 13, 14, 15, 16]])
  (hq : ol.map (·.dst) = [some 5, some 6, some 7, some 8, some 9, some 10, some 11, some 12, some 13, some 14, some 15, some 16, some 17, some 18, some 19, some 20, some 3, none])
  (ho : (ol.map (·.op)).drop 2 = [.call { callee := .value (.func 40), args := #[.tmp 6], argTypes := #[24] }, .buildSlice 25 0 #[], .fieldAddr 28 (.tmp 1) 1, .load 25 (.tmp 9),
   .call { callee := .builtin .append, args := #[.tmp 8, .tmp 10], argTypes := #[25, 25] }, .buildSlice 25 0 #[], .fieldAddr 28 (.tmp 1) 2, .load 25 (.tmp 13),
   .call { callee := .builtin .append, args := #[.tmp 12, .tmp 14], argTypes := #[25, 25] }, .buildSlice 26 0 #[], .fieldAddr 28 (.tmp 1) 3, .load 26 (.tmp 17),
   .call { callee := .builtin .append, args := #[.tmp 16, .tmp 18], argTypes := #[26, 26] }, .build 28 #[(0, .tmp 7), (1, .tmp 11), (2, .tmp 15), (3, .tmp 19)], .alloc 28, .store 28 (.tmp 3) (.tmp 20)])
  (hn : st0.n = 55) (h6 : bl st0.l st0.r 6 = gp p.text) (h10 : bl st0.l st0.r 10 = lst p.firsts) (h14 : bl st0.l st0.r 14 = lst p.seconds) (h18 : bl st0.l st0.r 18 = lst p.pages)
  (hK : ∀ st a b c d va vb vc, TwS p 66 70 st0.G st0.nx 55 st0.df st0.l (bl st0.l st0.r) true true true true true true true true true true st a b c d va vb vc → K st) :
  l3 Tryd.prog ol K late 10 (rl [2, 2, 2, 2, 2, 2, 2, 4]) st0 := by
 obtain ⟨g1, g2, g3, g4, g5⟩ := ud0 hg
 have hop : ∀ {i : Nat} {o : Oper}, ol[i]? = some o → ∀ {q : Op}, (ol.map (·.op))[i]? = some q → o.op = q := fun {i o} h {q} k => by
  rw [List.getElem?_map, h] at k; exact Option.some.inj k
 have hdst : ∀ {i : Nat} {o : Oper}, ol[i]? = some o → ∀ {q : Option Tmp}, (ol.map (·.dst))[i]? = some q → o.dst = q := fun {i o} h {q} k => by
  rw [List.getElem?_map, h] at k; exact Option.some.inj k
 have hdep : ∀ {i : Nat} {o : Oper}, ol[i]? = some o → ∀ {q : List Nat}, (ol.map mq)[i]? = some q → mq o = q := fun {i o} h {q} k => by
  rw [List.getElem?_map, h] at k; exact Option.some.inj k
 have hop2 : ∀ {i : Nat} {o : Oper}, ol[i + 2]? = some o → ∀ {q : Op}, ((ol.map (·.op)).drop 2)[i]? = some q → o.op = q := fun {i o} h {q} k => by
  rw [List.getElem?_drop, Nat.add_comm] at k
  exact hop h k
 refine ual (TwI p st0.G st0.nx st0.df st0.l (bl st0.l st0.r)) hf ?_ ?_ ?_ 10 _ st0 ?_ rfl
 ·rintro l st ⟨b2, b3, b6, b7, b10, b11, b14, b15, b16, b17, a, b, c, d, va, vb, vc, rfl, h⟩
  rw [hlen]; rfl
 ·rintro l st i o ⟨b2, b3, b6, b7, b10, b11, b14, b15, b16, b17, a, b, c, d, va, vb, vc, rfl, h⟩ hi hoff hdeps
  have hlt := (List.getElem?_eq_some_iff.1 hi).1
  have hgo := hgd o (List.mem_of_getElem? hi)
  rw [hlen] at hlt
  refine ⟨o, hi, .inl ?_⟩
  have hcase : i = 0 ∨ i = 1 ∨ i = 2 ∨ i = 3 ∨ i = 4 ∨ i = 5 ∨ i = 6 ∨ i = 7 ∨ i = 8 ∨ i = 9 ∨ i = 10 ∨ i = 11 ∨ i = 12 ∨ i = 13 ∨ i = 14 ∨ i = 15 ∨ i = 16 ∨ i = 17 := by omega
  rcases hcase with rfl | rfl | rfl | rfl | rfl | rfl | rfl | rfl | rfl | rfl | rfl | rfl | rfl | rfl | rfl | rfl | rfl | rfl
  ·cases hoff
  ·cases hoff
  ·-- the text
   have e1 := hop2 (i := 0) hi (by rw [ho]; rfl)
   have e2 := hdst hi (by rw [hq]; rfl)
   obtain rfl : b2 = false := Option.some.inj hoff
   refine ⟨nm (by rw [e1]; rfl) hgo, ay (caps := []) (args := [.tmp 6]) e1 rfl (congrArg (fun c => [c]) (ly h.n rfl h.x6)) (uoh p.text g1) ?_⟩
   rw [e2]
   exact ⟨true, b3, b6, b7, b10, b11, b14, b15, b16, b17, a, b, c, d, va, vb, vc, rfl, h.step2⟩
  ·have e1 := hop2 (i := 1) hi (by rw [ho]; rfl)
   have e2 := hdst hi (by rw [hq]; rfl)
   obtain rfl : b3 = false := Option.some.inj hoff
   refine ⟨nm (by rw [e1]; rfl) hgo, uq e1 (by decide) ?_⟩
   rw [e2]
   exact ⟨b2, true, b6, b7, b10, b11, b14, b15, b16, b17, st.nx, b, c, d, va, vb, vc, rfl, h.step3 (ng h.e6 rfl) (ng (fun e => h.e6 (h.q6 e)) rfl)⟩
  ·cases hoff
  ·cases hoff
  ·have e1 := hop2 (i := 4) hi (by rw [ho]; rfl)
   have e2 := hdst hi (by rw [hq]; rfl)
   have e3 := hdep hi (by rw [hd]; rfl)
   obtain rfl : b6 = false := Option.some.inj hoff
   obtain rfl : b3 = true := Option.some.inj (hdeps 3 (by rw [e3]; simp))
   refine ⟨nm (by rw [e1]; rfl) hgo, o1 (xs := ([] : List bh)) p.firsts e1 (ly h.n rfl (h.f3 rfl)) (h.g3 rfl rfl) rfl rfl (ly h.n rfl h.x10) rfl (by simp only [List.length_nil]; omega) (by simp only [List.length_nil]; omega) (fun v => ?_)⟩
   rw [e2]
   exact ⟨b2, true, true, b7, b10, b11, b14, b15, b16, b17, a, b, c, d, v, vb, vc, rfl, h.step6 (ng h.q6 rfl) v⟩
  ·have e1 := hop2 (i := 5) hi (by rw [ho]; rfl)
   have e2 := hdst hi (by rw [hq]; rfl)
   obtain rfl : b7 = false := Option.some.inj hoff
   refine ⟨nm (by rw [e1]; rfl) hgo, uq e1 (by decide) ?_⟩
   rw [e2]
   exact ⟨b2, b3, b6, true, b10, b11, b14, b15, b16, b17, a, st.nx, c, d, va, vb, vc, rfl, h.step7 (ng h.e10 rfl) (ng (fun e => h.e10 (h.q10 e)) rfl)⟩
  ·cases hoff
  ·cases hoff
  ·have e1 := hop2 (i := 8) hi (by rw [ho]; rfl)
   have e2 := hdst hi (by rw [hq]; rfl)
   have e3 := hdep hi (by rw [hd]; rfl)
   obtain rfl : b10 = false := Option.some.inj hoff
   obtain rfl : b7 = true := Option.some.inj (hdeps 7 (by rw [e3]; simp))
   refine ⟨nm (by rw [e1]; rfl) hgo, o1 (xs := ([] : List bh)) p.seconds e1 (ly h.n rfl (h.f7 rfl)) (h.g7 rfl rfl) rfl rfl (ly h.n rfl h.x14) rfl (by simp only [List.length_nil]; omega) (by simp only [List.length_nil]; omega) (fun v => ?_)⟩
   rw [e2]
   exact ⟨b2, b3, b6, true, true, b11, b14, b15, b16, b17, a, b, c, d, va, v, vc, rfl, h.step10 (ng h.q10 rfl) v⟩
  ·have e1 := hop2 (i := 9) hi (by rw [ho]; rfl)
   have e2 := hdst hi (by rw [hq]; rfl)
   obtain rfl : b11 = false := Option.some.inj hoff
   refine ⟨nm (by rw [e1]; rfl) hgo, uq e1 (by decide) ?_⟩
   rw [e2]
   exact ⟨b2, b3, b6, b7, b10, true, b14, b15, b16, b17, a, b, st.nx, d, va, vb, vc, rfl, h.step11 (ng h.e14 rfl) (ng (fun e => h.e14 (h.q14 e)) rfl)⟩
  ·cases hoff
  ·cases hoff
  ·have e1 := hop2 (i := 12) hi (by rw [ho]; rfl)
   have e2 := hdst hi (by rw [hq]; rfl)
   have e3 := hdep hi (by rw [hd]; rfl)
   obtain rfl : b14 = false := Option.some.inj hoff
   obtain rfl : b11 = true := Option.some.inj (hdeps 11 (by rw [e3]; simp))
   refine ⟨nm (by rw [e1]; rfl) hgo, o1 (xs := ([] : List am)) p.pages e1 (ly h.n rfl (h.f11 rfl)) (h.g11 rfl rfl) rfl rfl (ly h.n rfl h.x18) rfl (by simp only [List.length_nil]; omega) (by simp only [List.length_nil]; omega) (fun v => ?_)⟩
   rw [e2]
   exact ⟨b2, b3, b6, b7, b10, true, true, b15, b16, b17, a, b, c, d, va, vb, v, rfl, h.step14 (ng h.q14 rfl) v⟩
  ·-- the whole
   have e1 := hop2 (i := 13) hi (by rw [ho]; rfl)
   have e2 := hdst hi (by rw [hq]; rfl)
   have e3 := hdep hi (by rw [hd]; rfl)
   obtain rfl : b15 = false := Option.some.inj hoff
   obtain rfl : b2 = true := Option.some.inj (hdeps 2 (by rw [e3]; simp))
   obtain rfl : b6 = true := Option.some.inj (hdeps 6 (by rw [e3]; simp))
   obtain rfl : b10 = true := Option.some.inj (hdeps 10 (by rw [e3]; simp))
   obtain rfl : b14 = true := Option.some.inj (hdeps 14 (by rw [e3]; simp))
   refine ⟨nm (by rw [e1]; rfl) hgo, EStep.mono (SStep.e (D := fun _ => True) (NStep.s (gz (cs := [lst p.text, .own a va p.firsts.length, .own b vb p.seconds.length, .own c vc p.pages.length]) (parts := [(0, .tmp 7), (1, .tmp 11), (2, .tmp 15), (3, .tmp 19)]) e1 ?_))) fun st' hst' => ?_⟩
   ·show r9 _ _ [(0, st.at 7), (1, st.at 11), (2, st.at 15), (3, st.at 19)] = _
    rw [ly h.n rfl (h.f2 rfl), ly h.n rfl (h.f6 rfl), ly h.n rfl (h.f10 rfl), ly h.n rfl (h.f14 rfl)]
    rfl
   subst hst'
   rw [e2]
   exact ⟨true, b3, true, b7, true, b11, true, true, b16, b17, a, b, c, d, va, vb, vc, rfl, h.step15⟩
  ·have e1 := hop2 (i := 14) hi (by rw [ho]; rfl)
   have e2 := hdst hi (by rw [hq]; rfl)
   obtain rfl : b16 = false := Option.some.inj hoff
   refine ⟨nm (by rw [e1]; rfl) hgo, cz (cs := [.list [] .nil, .list [] .nil, .list [] .nil, .list [] .nil]) e1 ?_⟩
   rw [e2]
   exact ⟨b2, b3, b6, b7, b10, b11, b14, b15, true, b17, a, b, c, st.nx, va, vb, vc, rfl, h.step16 (ng h.e17 rfl)⟩
  have e1 := hop2 (i := 15) hi (by rw [ho]; rfl)
  have e2 := hdst hi (by rw [hq]; rfl)
  have e3 := hdep hi (by rw [hd]; rfl)
  obtain rfl : b17 = false := Option.some.inj hoff
  obtain rfl : b15 = true := Option.some.inj (hdeps 15 (by rw [e3]; simp))
  obtain rfl : b16 = true := Option.some.inj (hdeps 16 (by rw [e3]; simp))
  refine ⟨nm (by rw [e1]; rfl) hgo, co (new := [lst p.text, .own a va p.firsts.length, .own b vb p.seconds.length, .own c vc p.pages.length]) e1 e2 (ly h.n rfl (h.f16 rfl)) (h.g16 rfl rfl) (by rw [show evC st (.tmp 20) = _ from ly h.n rfl (h.f15 rfl)]; rfl) rfl rfl ?_⟩
  exact ⟨b2, b3, b6, b7, b10, b11, b14, true, true, true, a, b, c, d, va, vb, vc, rfl, h.step17⟩
 ·rintro l st ⟨b2, b3, b6, b7, b10, b11, b14, b15, b16, b17, a, b, c, d, va, vb, vc, rfl, h⟩ hall
  rw [hlen] at hall
  obtain rfl : b2 = true := Option.some.inj (hall 2 (by omega))
  obtain rfl : b3 = true := Option.some.inj (hall 3 (by omega))
  obtain rfl : b6 = true := Option.some.inj (hall 6 (by omega))
  obtain rfl : b7 = true := Option.some.inj (hall 7 (by omega))
  obtain rfl : b10 = true := Option.some.inj (hall 10 (by omega))
  obtain rfl : b11 = true := Option.some.inj (hall 11 (by omega))
  obtain rfl : b14 = true := Option.some.inj (hall 14 (by omega))
  obtain rfl : b15 = true := Option.some.inj (hall 15 (by omega))
  obtain rfl : b16 = true := Option.some.inj (hall 16 (by omega))
  obtain rfl : b17 = true := Option.some.inj (hall 17 (by omega))
  exact hK st a b c d va vb vc h
 refine ⟨false, false, false, false, false, false, false, false, false, false, 0, 0, 0, 0, 0, 0, 0, rfl, ?_⟩
 exact { n := hn, df := rfl, l := rfl, nx := rfl, s := fun _ _ => rfl, x10 := h10, x14 := h14, x18 := h18, x6 := h6, f2 := (fun e => nomatch e), f3 := (fun e => nomatch e), r3 := (fun e => nomatch e), g3 := (fun e => nomatch e), f6 := (fun e => nomatch e), g6 := (fun e => nomatch e), f7 := (fun e => nomatch e), r7 := (fun e => nomatch e), g7 := (fun e => nomatch e), f10 := (fun e => nomatch e), g10 := (fun e => nomatch e), f11 := (fun e => nomatch e), r11 := (fun e => nomatch e), g11 := (fun e => nomatch e), f14 := (fun e => nomatch e), g14 := (fun e => nomatch e), f15 := (fun e => nomatch e), f16 := (fun e => nomatch e), r16 := (fun e => nomatch e), g16 := (fun e => nomatch e), f17 := (fun e => nomatch e), ab := (fun e => nomatch e), ac := (fun e => nomatch e), ad := (fun e => nomatch e), bc := (fun e => nomatch e), bd := (fun e => nomatch e), cd := (fun e => nomatch e), G := fun _ _ _ _ _ => rfl, e6 := (fun e => nomatch e), e10 := (fun e => nomatch e), e14 := (fun e => nomatch e), e17 := (fun e => nomatch e), e18 := (fun e => nomatch e), q2 := (fun e => nomatch e), q6 := (fun e => nomatch e), q10 := (fun e => nomatch e), q14 := (fun e => nomatch e) }
theorem ub3 {cs : List C} {i : Nat} {c c0 : C} (h : cs[i]? = some c0) : (putAt cs i [c])[i]? = some c := by
 show (cs.set i c)[i]? = some c
 rw [List.getElem?_set_self (List.getElem?_eq_some_iff.1 h).1]
theorem ujd {l : List am} {k : Nat} {x : am} (h : l[k]? = some x) : (ci l)[k * 6 + 4]? = some (lst x.found) ∧ (ci l)[k * 6 + 5]? = some (lst x.well) := by
 have h1 : (ci l)[k * Enc.n am + 4]? = some (lst x.found) := nw h rfl
 have h2 : (ci l)[k * Enc.n am + 5]? = some (lst x.well) := nw h rfl
 exact ⟨h1, h2⟩
end Go.Proofs.YtbbdginipiljdaaDoor
namespace Go.AB
open Go Go.RowKit
section
theorem ujb {Y : Type} {P : Program} {f : FuncId} {fn : Func} {c : Code} {args : List C} {G : Nat → Option GObj} {nx : Nat} (r : Y → C) (g : Y → Nat → Option GObj) (m : Y → Nat) (S : Y → Prop) (hf : P.funcs[f]? = some fn) (hb : fn.body = some c) (hl : ∀ y, S y → (r y).low (m y)) (hm : ∀ y, S y → nx ≤ m y) (hg : (∀ n o, G n = some o → n < nx) → ∀ y, S y → ∀ n o, g y n = some o → G n = some o ∨ (n < m y ∧ o.low (m y)))
  (h : AW none P c (fun e st => ∃ y, S y ∧ n4 P fn (r y) (g y) (m y) e st) { n := args.length + (fn.ntmps - args.length), l := args, r := [], G := G, nx := nx }) : PC P f args G nx fun r' G' nx' => ∃ y, S y ∧ r' = r y ∧ G' = g y ∧ nx' = m y := by
 intro E w vs hr hg0
 have key := yw (K := fun r' G' nx' => ∃ y, S y ∧ r' = r y ∧ m y ≤ nx' ∧ ∀ n o, g y n = some o → G' n = some o) hf hb (AW.mono h fun e st hq => by
  obtain ⟨y, hs, hq⟩ := hq
  cases e with
  | normal => exact ⟨r y, hq.1, y, hs, rfl, hq.2.1, hq.2.2⟩
  | ret => exact ⟨r y, hq.1, y, hs, rfl, hq.2.1, hq.2.2⟩
  | _ => exact hq)
 refine (key E w vs hr hg0).mono ?_
 rintro e w' ⟨r', v, E', G', nx', e1, e2, e3, e4, y, hS, rfl, e5, e6⟩
 have hnx := hg0.nx
 have hm0 := hm y hS
 refine ⟨r y, v, E'.drop (m y), g y, m y, e1, e2.drop (by omega), e3.drop (hl y hS), ?_, y, hS, rfl, rfl, rfl⟩
 refine (e4.weak e6).drop fun n o ho => ?_
 rcases hg (fun n o ho => (hg0.lowG ho).1) y hS n o ho with h1 | h1
 ·have := hg0.lowG h1
  exact ⟨by omega, GObj.low_mono this.2 hm0⟩
 ·exact h1
theorem uml {Y : Type} {P : Program} {o : Oper} {st : St} {K : St → Prop} {f : FuncId} [Fun P f] {fv : Operand} {args : List Operand} {ats : Array TypeId} {caps as0 : List C} {r : Y → C} {g : Y → Nat → Option GObj} {m : Y → Nat} {S : Y → Prop} (ho : o.op = .call { callee := .value fv, args := args.toArray, argTypes := ats }) (hf : evC st fv = .fn (.func f) caps) (has : args.map (evC st) ++ caps = as0)
  (hp : PC P f as0 st.G st.nx fun r' G' nx' => ∃ y, S y ∧ r' = r y ∧ G' = g y ∧ nx' = m y) (h : ∀ y, S y → K (St.put { st with G := g y, nx := m y } o.dst (r y))) : EStep P o st K :=
 xe ho hf has (hp.mono fun r' G' nx' ⟨y, hs, e1, e2, e3⟩ => by subst e1; subst e2; subst e3; exact h y hs)
end
end Go.AB
namespace Go.Proofs.YtbbdginipiljdaaDoor
set_option maxRecDepth 10000
open Go Go.RowKit Go.AB
open Go.AB.Enc (cells)
open Go.PB (av ai PlaceD az bf ba bh am ah ck bk c4 c6)
set_option maxHeartbeats 2000000 in
theorem ui3 (p : ah) (hg : lp p = false) (G : Nat → Option GObj) (nx : Nat) : PC Tryd.prog 11 [val p] G nx fun r' G' nx' => ∃ y : Nat × Nat × Nat × Nat × Nat × Nat, ((nx ≤ y.1 ∧ nx ≤ y.2.1 ∧ nx ≤ y.2.2.1) ∧ (y.1 < nx + 5 ∧ y.2.1 < nx + 5 ∧ y.2.2.1 < nx + 5) ∧ y.1 ≠ y.2.1 ∧ y.1 ≠ y.2.2.1 ∧ y.2.1 ≠ y.2.2.1) ∧ r' = (.agg [lst p.text, .own y.1 y.2.2.2.1 p.firsts.length, .own y.2.1 y.2.2.2.2.1 p.seconds.length, .own y.2.2.1 y.2.2.2.2.2 p.pages.length]) ∧ G' = (ak (ak (ak G y.1 (.arr y.2.2.2.1 0 66 2 p.firsts.length (ci p.firsts))) y.2.1 (.arr y.2.2.2.2.1 0 66 2 p.seconds.length (ci p.seconds))) y.2.2.1 (.arr y.2.2.2.2.2 (2 * p.pages.length) 70 6 p.pages.length (ci p.pages))) ∧ nx' = nx + 5 := by
 refine ujb (fun y : Nat × Nat × Nat × Nat × Nat × Nat => (.agg [lst p.text, .own y.1 y.2.2.2.1 p.firsts.length, .own y.2.1 y.2.2.2.2.1 p.seconds.length, .own y.2.2.1 y.2.2.2.2.2 p.pages.length])) (fun y => (ak (ak (ak G y.1 (.arr y.2.2.2.1 0 66 2 p.firsts.length (ci p.firsts))) y.2.1 (.arr y.2.2.2.2.1 0 66 2 p.seconds.length (ci p.seconds))) y.2.2.1 (.arr y.2.2.2.2.2 (2 * p.pages.length) 70 6 p.pages.length (ci p.pages)))) (fun _ => nx + 5) (fun y => (nx ≤ y.1 ∧ nx ≤ y.2.1 ∧ nx ≤ y.2.2.1) ∧ (y.1 < nx + 5 ∧ y.2.1 < nx + 5 ∧ y.2.2.1 < nx + 5) ∧ y.1 ≠ y.2.1 ∧ y.1 ≠ y.2.2.1 ∧ y.2.1 ≠ y.2.2.1) Tryd.func11 rfl (fun y hS => .agg (ca (bp _ _) (ca (.own hS.2.1.1) (ca (.own hS.2.1.2.1) (ca (.own hS.2.1.2.2) c5))))) (fun y hS => zN) (fun hlt y hS => (by (repeat' (refine ku ?_ (by (try dsimp only); omega) ?_)); all_goals (first | exact kx zS | (repeat' (first | exact trivial | refine ⟨?_, ?_⟩ | exact .v | exact .any | refine .elem ?_ | exact bp _ _ | exact fj _ _ | exact eh _ _ | exact fm _ (by (try dsimp only); omega) | exact .box (by (try dsimp only); omega) | exact fa | exact c5 | exact ep _ | refine fp ?_ ?_ | exact .arr (by (try dsimp only); omega) | exact .own (by (try dsimp only); omega) | exact .map (by (try dsimp only); omega) | exact ep _ | refine ca ?_ ?_ | exact bp _ _))))) ?_
 simp only [Tryd.ntmps11, List.length_cons, List.length_nil, Nat.reduceAdd, Nat.reduceSub]
 refine bu fun hlt => ?_
 dsimp only at hlt
 obtain ⟨g1, g2, g3, g4, g5⟩ := ud0 hg
 refine yS fun _ K1 => ?_
 refine yR ?_
 try dsimp only [St.put]
 refine yB rfl rfl rfl ?_
 try dsimp only [St.put]
 refine ae rfl (cz rfl ?_)
 refine yN ?_
 dsimp only [St.put]
 refine K1 _ ?_
 refine cp 4 ?_
 refine zQ ?_
 refine unm (X := Nat × Nat × Nat × Nat × Nat × Nat × Nat) (fun y => (nx + 1 ≤ y.1 ∧ nx + 1 ≤ y.2.1 ∧ nx + 1 ≤ y.2.2.1 ∧ nx + 1 ≤ y.2.2.2.1) ∧ (y.1 < nx + 5 ∧ y.2.1 < nx + 5 ∧ y.2.2.1 < nx + 5 ∧ y.2.2.2.1 < nx + 5) ∧ (y.1 ≠ y.2.1 ∧ y.1 ≠ y.2.2.1 ∧ y.1 ≠ y.2.2.2.1 ∧ y.2.1 ≠ y.2.2.1 ∧ y.2.1 ≠ y.2.2.2.1 ∧ y.2.2.1 ≠ y.2.2.2.1)) (fun y => [(3, .box y.2.2.2.1 0 0)]) (fun y G' => (ak (ak (ak (ak (ak G nx (.box 0 [.list [] .nil, .list [] .nil, .list [] .nil, .list [] .nil])) y.1 (.arr y.2.2.2.2.1 0 66 2 p.firsts.length (ci p.firsts))) y.2.1 (.arr y.2.2.2.2.2.1 0 66 2 p.seconds.length (ci p.seconds))) y.2.2.1 (.arr y.2.2.2.2.2.2 (0) 70 6 p.pages.length (ci p.pages))) y.2.2.2.1 (.box 1 [lst p.text, .own y.1 y.2.2.2.2.1 p.firsts.length, .own y.2.1 y.2.2.2.2.2.1 p.seconds.length, .own y.2.2.1 y.2.2.2.2.2.2 p.pages.length]))) (fun _ => nx + 5) rfl ?_ ?_ ?_ ?_ ?_
 ·rintro ⟨a, b, q, d, va, vb, vq⟩ hI
  dsimp only at hI ⊢
  omega
 ·rintro ⟨a, b, q, d, va, vb, vq⟩ hI
  dsimp only at hI ⊢
  obtain ⟨⟨i1, i2, i3, i4⟩, ⟨j1, j2, j3, j4⟩, k1, k2, k3, k4, k5, k6⟩ := hI
  exact zL
 ·rintro ⟨a, b, q, d, va, vb, vq⟩ hI
  dsimp only at hI ⊢
  obtain ⟨⟨i1, i2, i3, i4⟩, ⟨j1, j2, j3, j4⟩, k1, k2, k3, k4, k5, k6⟩ := hI
  exact zH
 ·refine qn [(0, none), (1, none), (4, none), (5, none), (8, none), (9, none), (12, none), (13, none)] (fun _ => false) (fun i => [0, 4, 8, 12].contains i) 10 (rl [2, 2, 2, 2, 2, 2, 2, 4]) (by kernel_rfl) (by kernel_rfl) ?_
  refine af rfl rfl rfl rfl (bz rfl rfl rfl) ?_
  try dsimp only [St.put]
  refine aw rfl rfl rfl rfl (c := gp p.text) (jq (cs := cells p) rfl rfl (show 1 ≤ 4 by decide)) ?_
  refine af rfl rfl rfl rfl (bz rfl rfl rfl) ?_
  try dsimp only [St.put]
  refine aw rfl rfl rfl rfl (bq rfl rfl) ?_
  refine af rfl rfl rfl rfl (bz rfl rfl rfl) ?_
  try dsimp only [St.put]
  refine aw rfl rfl rfl rfl (bq rfl rfl) ?_
  refine af rfl rfl rfl rfl (bz rfl rfl rfl) ?_
  try dsimp only [St.put]
  refine aw rfl rfl rfl rfl (bq rfl rfl) ?_
  refine cj ?_
  refine ug6 p hg _ rfl (by kernel_rfl) (by simp) rfl rfl rfl rfl rfl rfl rfl rfl fun st a b q d va vb vq h => ?_
  have hnx : st.nx = (nx + 1) + true.toNat + true.toNat + true.toNat + true.toNat := h.nx
  simp only [Bool.toNat_true] at hnx
  have r1 : nx + 1 ≤ a ∧ a < st.nx := h.r3 rfl
  have r2 : nx + 1 ≤ b ∧ b < st.nx := h.r7 rfl
  have r3 : nx + 1 ≤ q ∧ q < st.nx := h.r11 rfl
  have r4 : nx + 1 ≤ d ∧ d < st.nx := h.r16 rfl
  have t1 : a < nx + 5 := by omega
  have t2 : b < nx + 5 := by omega
  have t3 : q < nx + 5 := by omega
  have t4 : d < nx + 5 := by omega
  refine ⟨(a, b, q, d, va, vb, vq), ⟨⟨r1.1, r2.1, r3.1, r4.1⟩, ⟨t1, t2, t3, t4⟩, h.ab rfl rfl, h.ac rfl rfl, h.ad rfl rfl, h.bc rfl rfl, h.bd rfl rfl, h.cd rfl rfl⟩, ⟨h.n, h.df⟩, ⟨.inr (h.s 0 rfl), .inr (h.s 1 rfl), .inr (h.s 2 rfl), .inr (h.f16 rfl), trivial⟩, .inl rfl, by dsimp only; omega, ?_⟩
  refine s8 (h.f17 rfl) (s8 (h.g14 rfl) (s8 (h.g10 rfl) (s8 (h.g6 rfl) ?_)))
  intro m o hm
  have hml : m < nx + 1 := by
   by_cases e : m = nx
   ·omega
   rw [ct e] at hm
   have := hlt m o hm
   omega
  exact (h.G m (fun _ => by omega) (fun _ => by omega) (fun _ => by omega) (fun _ => by omega)).trans hm
 rintro ⟨a, b, q, d, va, vb, vq⟩ hI
 dsimp only at hI ⊢
 obtain ⟨⟨i1, i2, i3, i4⟩, ⟨j1, j2, j3, j4⟩, k1, k2, k3, k4, k5, k6⟩ := hI
 refine yS fun _ K3 => ?_
 refine yS fun _ K4 => ?_
 refine yR ?_
 refine yA rfl rfl ?_
 refine yN ?_
 dsimp only [St.put]
 refine K4 _ ?_
 refine bj ?_
 refine cp 5 ?_
 refine zQ ?_
 refine dl ((ak (ak (ak (ak (ak G nx (.box 0 [.list [] .nil, .list [] .nil, .list [] .nil, .list [] .nil])) a (.arr va 0 66 2 p.firsts.length (ci p.firsts))) b (.arr vb 0 66 2 p.seconds.length (ci p.seconds))) q (.arr vq (0) 70 6 p.pages.length (ci p.pages))) d (.box 1 [lst p.text, .own a va p.firsts.length, .own b vb p.seconds.length, .own q vq p.pages.length]))) zX ?_
 dsimp only
 refine dj (X := Nat) (fun k => k ≤ p.pages.length) (fun k => p.pages.length - k) (fun k => [(4, .v (.int .i64 (k : Int)))]) (fun k G' => (ak (ak (ak (ak (ak G nx (.box 0 [.list [] .nil, .list [] .nil, .list [] .nil, .list [] .nil])) a (.arr va 0 66 2 p.firsts.length (ci p.firsts))) b (.arr vb 0 66 2 p.seconds.length (ci p.seconds))) q (.arr vq ((2 * k)) 70 6 p.pages.length (ci p.pages))) d (.box 1 [lst p.text, .own a va p.firsts.length, .own b vb p.seconds.length, .own q vq p.pages.length]))) 0 rfl ?_ ?_ ?_ ?_ ?_ ?_
 ·exact Nat.zero_le _
 ·exact zF
 ·exact zX
 ·rintro k hI
  exact zL
 ·rintro k hI
  exact zH
 rintro k hI
 dsimp only at hI ⊢
 refine yS fun _ K5 => ?_
 refine yS fun _ K6 => ?_
 refine yR ?_
 refine yM rfl rfl ?_
 refine aa rfl (dd rfl rfl) ?_
 try dsimp only [St.put]
 refine bi rfl (em rfl rfl zG trivial (by first | rfl | assumption)) ?_
 refine aa rfl (uc2 rfl rfl) ?_
 refine aa rfl (cn rfl rfl rfl) ?_
 refine yN ?_
 dsimp only [St.put]
 refine K6 _ ?_
 refine ar rfl (fun hc => ?_) (fun hc => ?_)
 ·replace hc := of_decide_eq_true hc
  have hkl : k < p.pages.length := by omega
  obtain ⟨x, hx⟩ : ∃ x, p.pages[k]? = some x := dh hkl
  obtain ⟨hc4, hc5⟩ := ujd hx
  have hxl := g5 x (f4 hx)
  refine ax ?_
  refine K5 _ ?_
  refine yS fun _ K7 => ?_
  refine bj ?_
  refine yS fun _ K8 => ?_
  refine gm [(0, none), (1, none), (2, none), (4, none), (5, none), (6, none), (7, none), (8, none), (9, none), (3, none), (10, none), (11, none), (12, none), (13, none)] (fun i => [13].contains i) (fun i => [3, 10, 13].contains i) (fun i => [0, 2, 4, 6, 7, 8, 11, 12].contains i) [d, q] (by kernel_rfl) (by kernel_rfl) ?_
  refine af rfl rfl rfl rfl (dd rfl rfl) ?_
  try dsimp only [St.put]
  refine aw rfl rfl rfl rfl (em rfl rfl zG (by simp) (by first | rfl | assumption)) ?_
  refine xM rfl rfl rfl rfl rfl ?_
  refine af rfl rfl rfl rfl (dd rfl rfl) ?_
  try dsimp only [St.put]
  refine aw rfl rfl rfl rfl (em rfl rfl zG (by simp) (by first | rfl | assumption)) ?_
  refine xM rfl rfl rfl rfl rfl ?_
  try dsimp only [St.put]
  refine af rfl rfl rfl rfl (l9 rfl rfl zG rfl rfl hkl) ?_
  refine af rfl rfl rfl rfl (dd rfl rfl) ?_
  try dsimp only [St.put]
  refine aw rfl rfl rfl rfl (jp rfl rfl zG (by simp) hc4) ?_
  refine iz ?_
  try dsimp only [St.put]
  refine i0 rfl rfl rfl (uq rfl (by decide) ⟨zD, ?_⟩)
  try dsimp only [St.put]
  refine i0 rfl rfl rfl (o1 (xs := ([] : List PlaceD)) x.found rfl rfl zG rfl rfl rfl rfl zA zA (fun w1 => ⟨zD, ?_⟩))
  try dsimp only [St.put]
  refine ec rfl rfl rfl rfl (l9 rfl rfl zG rfl rfl hkl) ?_
  refine ec rfl rfl rfl rfl (dd rfl rfl) ?_
  try dsimp only [St.put]
  refine gn rfl rfl rfl rfl (z7 (sz := 1) rfl rfl rfl zG rfl rfl (by rw [uk]; show k * 6 + 4 + 1 ≤ p.pages.length * 6; omega) (by decide) ?_)
  refine iy ?_
  dsimp only [St.put]
  refine K8 _ ?_
  refine uft q (k * 6 + 4) x.found zG (ub3 hc4) zG (by omega) rfl rfl rfl ?_
  rw [ub2 hc4]
  refine gm [(0, none), (1, none), (2, none), (4, none), (5, none), (6, none), (7, none), (8, none), (9, none), (3, none), (10, none), (11, none), (12, none), (13, none)] (fun i => [13].contains i) (fun i => [3, 10, 13].contains i) (fun i => [0, 2, 4, 6, 7, 8, 11, 12].contains i) [d, q] (by kernel_rfl) (by kernel_rfl) ?_
  refine af rfl rfl rfl rfl (dd rfl rfl) ?_
  try dsimp only [St.put]
  refine aw rfl rfl rfl rfl (em rfl rfl zG (by simp) (by first | rfl | assumption)) ?_
  refine xM rfl rfl rfl rfl rfl ?_
  refine af rfl rfl rfl rfl (dd rfl rfl) ?_
  try dsimp only [St.put]
  refine aw rfl rfl rfl rfl (em rfl rfl zG (by simp) (by first | rfl | assumption)) ?_
  refine xM rfl rfl rfl rfl rfl ?_
  try dsimp only [St.put]
  refine af rfl rfl rfl rfl (l9 rfl rfl zG rfl rfl hkl) ?_
  refine af rfl rfl rfl rfl (dd rfl rfl) ?_
  try dsimp only [St.put]
  refine aw rfl rfl rfl rfl (jp rfl rfl zG (by simp) hc5) ?_
  refine iz ?_
  try dsimp only [St.put]
  refine i0 rfl rfl rfl (uq rfl (by decide) ⟨zD, ?_⟩)
  try dsimp only [St.put]
  refine i0 rfl rfl rfl (o1 (xs := ([] : List PlaceD)) x.well rfl rfl zG rfl rfl rfl rfl zA zA (fun w2 => ⟨zD, ?_⟩))
  try dsimp only [St.put]
  refine ec rfl rfl rfl rfl (l9 rfl rfl zG rfl rfl hkl) ?_
  refine ec rfl rfl rfl rfl (dd rfl rfl) ?_
  try dsimp only [St.put]
  refine gn rfl rfl rfl rfl (z7 (sz := 1) rfl rfl rfl zG rfl rfl (by rw [uk]; show k * 6 + 5 + 1 ≤ p.pages.length * 6; omega) (by decide) ?_)
  refine iy ?_
  dsimp only [St.put]
  refine K7 _ ?_
  refine uft q (k * 6 + 5) x.well zG (ub3 hc5) zG (by omega) rfl rfl rfl ?_
  rw [ub2 hc5]
  refine yR ?_
  refine yM rfl rfl ?_
  refine aa rfl (cg rfl rfl rfl (by omega)) ?_
  refine yA rfl rfl ?_
  refine yN ?_
  dsimp only [St.put]
  exact ⟨k + 1, by omega, by omega, ⟨⟨rfl, rfl⟩, zF, zB, zN, zX⟩⟩
 replace hc := of_decide_eq_false hc
 obtain rfl : k = p.pages.length := by omega
 refine dg ?_
 refine K3 _ ?_
 refine yS fun _ K9 => ?_
 refine yR ?_
 try dsimp only [St.put]
 refine bi rfl (ij rfl rfl zG trivial (by rfl)) ?_
 try dsimp only [St.put]
 refine ae rfl (co rfl rfl rfl zG rfl rfl (by rfl) ?_)
 refine yN ?_
 dsimp only [St.put]
 refine K9 _ ?_
 refine aq ?_
 refine ⟨(a, b, q, va, vb, vq), ⟨⟨Nat.le_of_succ_le i1, Nat.le_of_succ_le i2, Nat.le_of_succ_le i3⟩, ⟨j1, j2, j3⟩, k1, k2, k4⟩, ?_⟩
 refine pt rfl (jr rfl zG (by rfl) zC rfl) zN zX ?_
 exact zW
end Go.Proofs.YtbbdginipiljdaaDoor
namespace Go.AB
open Go Go.RowKit
open Go.AB.Enc (cells)
open Go.PB (av ai PlaceD az bf ba bh am ah ck bk)
/-- proofs with a reader's Miss as it is given -/
def tf (p : ah) (b : Bool) (i : Nat) (r : bh) (m : Int) : ah := bif b then ⟨p.text, p.firsts, p.seconds.set i ⟨r.id, m⟩, p.pages⟩ else ⟨p.text, p.firsts.set i ⟨r.id, m⟩, p.seconds, p.pages⟩
theorem udf {l : List bh} {i : Nat} {r : bh} (h : l[i]? = some r) (m : Int) : (l.set i ⟨r.id, m⟩).map (·.id) = l.map (·.id) := by
 apply List.ext_getElem?
 intro k
 rw [List.getElem?_map, List.getElem?_map, List.getElem?_set]
 split
 ·rename_i e
  subst e
  rw [h]
  split
  ·rfl
  ·rename_i hn; exact absurd (List.getElem?_eq_some_iff.1 h).1 hn
 ·rfl
theorem uc7 {l : List bh} {i : Nat} {r : bh} (h : l[i]? = some r) {m : Int} (hm : m ≤ r.miss) (k : Nat) : (match (l.set i ⟨r.id, m⟩)[k]? with | some r => r.miss | none => 0) ≤ (match l[k]? with | some r => r.miss | none => 0) := by
 by_cases e : i = k
 ·subst e
  have hl := (List.getElem?_eq_some_iff.1 h).1
  rw [show (l.set i (⟨r.id, m⟩ : bh))[i]? = some ⟨r.id, m⟩ by simp [hl], h]
  exact hm
 ·rw [List.getElem?_set_ne e]
  exact Int.le_refl _
theorem vp {p : ah} (hp : ey p) {b : Bool} {i : Nat} {r : bh} (h : (dp p b)[i]? = some r) {m : Int} (h0 : 0 ≤ m) (hm : m ≤ r.miss) : LessMiss p (tf p b i r m) := by
 have hr : fy r = true := hp.rd r (by
  rw [List.mem_append]
  cases b
  ·exact .inl (List.mem_of_getElem? h)
  ·exact .inr (List.mem_of_getElem? h))
 have hr2 : fy ⟨r.id, m⟩ = true := by
  unfold fy at hr ⊢
  rw [Bool.and_eq_true, inB_true, inB_true] at hr ⊢
  exact ⟨hr.1, h0, by show m ≤ 90; omega⟩
 cases b
 ·refine ⟨rfl, rfl, List.length_set .., rfl, fun c k => ?_, ?_, fun x hx => ?_⟩
  ·cases c
   ·exact uc7 h hm k
   ·exact Int.le_refl _
  ·show ((p.firsts.set i ⟨r.id, m⟩) ++ p.seconds).map (·.id) = _
   rw [List.map_append, List.map_append, udf (show p.firsts[i]? = some r from h)]
  ·have hx : x ∈ p.firsts.set i ⟨r.id, m⟩ ++ p.seconds := hx
   rw [List.mem_append] at hx
   rcases hx with hx | hx
   ·rcases List.mem_or_eq_of_mem_set hx with hx | rfl
    ·exact hp.rd x (List.mem_append_left _ hx)
    ·exact hr2
   ·exact hp.rd x (List.mem_append_right _ hx)
 ·refine ⟨rfl, rfl, rfl, List.length_set .., fun c k => ?_, ?_, fun x hx => ?_⟩
  ·cases c
   ·exact Int.le_refl _
   ·exact uc7 h hm k
  ·show (p.firsts ++ (p.seconds.set i ⟨r.id, m⟩)).map (·.id) = _
   rw [List.map_append, List.map_append, udf (show p.seconds[i]? = some r from h)]
  ·have hx : x ∈ p.firsts ++ p.seconds.set i ⟨r.id, m⟩ := hx
   rw [List.mem_append] at hx
   rcases hx with hx | hx
   ·exact hp.rd x (List.mem_append_left _ hx)
   ·rcases List.mem_or_eq_of_mem_set hx with hx | rfl
    ·exact hp.rd x (List.mem_append_right _ hx)
    ·exact hr2
/-! ### Places by their numbers -/
end Go.AB
namespace Go.Proofs.YtbbdginipiljdaaDoor
set_option maxRecDepth 10000
open Go Go.RowKit Go.AB
open Go.AB.Enc (cells)
open Go.PB (av ai PlaceD az bf ba bh am ah ck bk c4 c6)
theorem uc8 {p : ah} (h : ey p) (b : Bool) {i : Nat} {r : bh} (hr : (dp p b)[i]? = some r) : 0 ≤ r.miss ∧ r.miss ≤ 90 := by
 have := wh h b i
 unfold jg at this
 rwa [hr] at this
theorem ubv {l : List bh} {k : Nat} {r : bh} (h : l[k]? = some r) : (ci l)[k * 2 + 1]? = some (.v (.int .i64 r.miss)) := nw h rfl
set_option maxHeartbeats 4000000 in
theorem ukt (p : ah) (a b : Int) : fk 0 fg Tryd.prog 5 [val p, .v (.int .u8 a), .v (.int .u8 b)] (.v (.bool true)) := fun G nx hF hnx => by
 refine iv (G) (nx) Tryd.func5 rfl (.v) zN (fun hlt => zH) ?_
 simp only [Tryd.ntmps5, List.length_cons, List.length_nil, Nat.reduceAdd, Nat.reduceSub]
 refine bu fun hlt => ?_
 dsimp only at hlt
 refine kf 1 (fun hfa => ?_)
 replace hfa := uax hfa
 refine kf 2 (fun hfb => ?_)
 replace hfb := uax hfb
 refine di fun K1 hK1 => ?_
 refine c7 ?_
 try dsimp only [St.put]
 refine ae rfl (ue0 rfl rfl (by simp) ?_)
 refine aa rfl (dn rfl (by constructor)) ?_
 refine cx ?_
 dsimp only [St.put]
 refine hK1 _ ?_
 refine di fun K2 hK2 => ?_
 refine c7 ?_
 try dsimp only [St.put]
 refine ae rfl ((dx rfl rfl rfl ((un3 0)) zG (by dsimp only [St.put]; omega) ?_))
 refine aa rfl (dn rfl (by constructor)) ?_
 refine cx ?_
 dsimp only [St.put]
 refine hK2 _ ?_
 refine di fun K3 hK3 => ?_
 refine c7 ?_
 refine aa rfl (bz rfl rfl rfl) ?_
 try dsimp only [St.put]
 refine bi rfl (bq rfl rfl) ?_
 refine aa rfl (bn rfl rfl (List.length_map _)) ?_
 refine aa rfl (bz rfl rfl rfl) ?_
 try dsimp only [St.put]
 refine bi rfl (bq rfl rfl) ?_
 refine aa rfl (bn rfl rfl (List.length_map _)) ?_
 refine aa rfl (rn rfl rfl rfl) ?_
 refine aa rfl (dn rfl (by constructor)) ?_
 refine cx ?_
 dsimp only [St.put]
 refine hK3 _ ?_
 refine di fun K4 hK4 => ?_
 refine di fun K5 hK5 => ?_
 refine c7 ?_
 try dsimp only [St.put]
 refine bi rfl (dz rfl rfl (Enc.len _)) ?_
 try dsimp only [St.put]
 refine ae rfl (ay rfl rfl rfl (ulm p) ?_)
 refine aa rfl (d9 rfl rfl) ?_
 refine et (fun hs => ?_) (fun hs => ?_)
 ·skip
  refine aa rfl (br rfl (by constructor)) ?_
  refine mz rfl ?_
  refine mz rfl ?_
  refine aa rfl (bw rfl rfl (by constructor)) ?_
  refine aa rfl (br rfl (by constructor)) ?_
  refine mz rfl ?_
  refine mz rfl ?_
  refine aa rfl (bw rfl rfl (by constructor)) ?_
  refine cx ?_
  dsimp only [St.put]
  refine hK5 _ ?_
  refine ar rfl (fun _ => ?_) (fun h => by cases h)
  refine di fun K6 hK6 => ?_
  refine c7 ?_
  refine aa rfl (br rfl (by constructor)) ?_
  refine aa rfl (dn rfl (by constructor)) ?_
  refine cx ?_
  dsimp only [St.put]
  refine hK6 _ ?_
  refine aq ?_
  refine bg rfl (by constructor) zN zS ?_
  rfl
 have hrd : re p = true := by simpa using hs
 have hC := (readyP_true.1 hrd).2
 have hg := (readyP_true.1 hrd).1
 obtain ⟨hok, _⟩ := ld hC
 have hn1 := hok.nf
 have hn2 := hok.ns
 have hnp := hok.np
 have hL0 : eb p (cc p) = bif gj p then 0 else 8 := by rw [hC, pm]
 rw [show IntKind.i64.wrap ((p.firsts.length : Int) + (p.seconds.length : Int)) = (p.firsts.length : Int) + (p.seconds.length : Int) by rw [IntKind.wrap_i64]; omega]
 refine aa rfl (br rfl (by constructor)) ?_
 refine aa rfl (br rfl (by constructor)) ?_
 refine aa rfl (ff rfl rfl rfl) ?_
 refine et (fun hs => ?_) (fun hs => ?_)
 ·skip
  refine aa rfl (cm rfl rfl (by constructor)) ?_
  refine aa rfl (br rfl (by constructor)) ?_
  refine mz rfl ?_
  refine mz rfl ?_
  refine aa rfl (bw rfl rfl (by constructor)) ?_
  refine cx ?_
  dsimp only [St.put]
  refine hK5 _ ?_
  refine ar rfl (fun _ => ?_) (fun h => by cases h)
  refine di fun K7 hK7 => ?_
  refine c7 ?_
  refine aa rfl (br rfl (by constructor)) ?_
  refine aa rfl (dn rfl (by constructor)) ?_
  refine cx ?_
  dsimp only [St.put]
  refine hK7 _ ?_
  refine aq ?_
  refine bg rfl (by constructor) zN zS ?_
  rfl
 have hall := of_decide_eq_false hs
 obtain ⟨k, hk⟩ : ∃ k : Nat, a % ((p.firsts.length : Int) + (p.seconds.length : Int)) = (k : Int) := ⟨(a % ((p.firsts.length : Int) + (p.seconds.length : Int))).toNat, by
  have := Int.emod_nonneg a hall
  omega⟩
 have hkl : k < p.firsts.length + p.seconds.length := by
  have := Int.emod_lt_of_pos a (show 0 < (p.firsts.length : Int) + (p.seconds.length : Int) by omega)
  omega
 obtain ⟨l, hl⟩ : ∃ l, b % 40 = l := ⟨_, rfl⟩
 have hlb : 0 ≤ l ∧ l < 40 := by omega
 refine aa rfl (cm rfl rfl (by constructor)) ?_
 refine aa rfl (br rfl (by constructor)) ?_
 refine aa rfl (br rfl (by constructor)) ?_
 refine aa rfl (d9 rfl rfl) ?_
 refine aa rfl (cm rfl rfl (by constructor)) ?_
 refine cx ?_
 dsimp only [St.put]
 refine hK5 _ ?_
 refine ar rfl (fun h => by cases h) (fun _ => ?_)
 refine ax ?_
 refine hK4 _ ?_
 refine di fun K8 hK8 => ?_
 refine c7 ?_
 try dsimp only [St.put]
 refine bi rfl (dz rfl rfl (Enc.len _)) ?_
 try dsimp only [St.put]
 refine ae rfl (uml rfl rfl rfl (ui3 p hg _ _) (fun ⟨ya, yb, yq, va, vb, vq⟩ ⟨⟨i1, i2, i3⟩, ⟨j1, j2, j3⟩, k1, k2, k4⟩ => ?_))
 try dsimp only [St.put]
 refine ae rfl (cz rfl ?_)
 try dsimp only [St.put]
 refine ae rfl (co rfl rfl rfl zG rfl rfl (by rfl) ?_)
 refine cx ?_
 dsimp only [St.put]
 dsimp only at i1 i2 i3 j1 j2 j3 k1 k2 k4
 refine hK8 _ ?_
 refine di fun K9 hK9 => ?_
 refine c7 ?_
 refine aa rfl (br rfl (by constructor)) ?_
 refine aa rfl ((uc5 rfl rfl rfl rfl (by omega))) ?_
 refine aa rfl (br rfl (by constructor)) ?_
 refine aa rfl ((ucx hk rfl rfl rfl (by omega) (by omega))) ?_
 refine aa rfl (br rfl (by constructor)) ?_
 refine aa rfl ((uc5 rfl rfl rfl rfl (by omega))) ?_
 refine aa rfl ((ucx hl rfl rfl rfl (by omega) (by omega))) ?_
 refine aa rfl (cg rfl rfl rfl (by omega)) ?_
 refine aa rfl (dn rfl (by constructor)) ?_
 refine aa rfl (dn rfl (by constructor)) ?_
 refine cx ?_
 dsimp only [St.put]
 refine hK9 _ ?_
 refine di fun K10 hK10 => ?_
 refine di fun K11 hK11 => ?_
 refine c7 ?_
 refine aa rfl (br rfl (by constructor)) ?_
 refine aa rfl (bz rfl rfl rfl) ?_
 try dsimp only [St.put]
 refine bi rfl (bq rfl rfl) ?_
 refine aa rfl (bn rfl rfl (List.length_map _)) ?_
 refine aa rfl (cn rfl rfl rfl) ?_
 refine cx ?_
 dsimp only [St.put]
 refine hK11 _ ?_
 refine ar rfl (fun hc => ?_) (fun hc => ?_)
 ·have hkf : k < p.firsts.length := by have := of_decide_eq_true hc; omega
  obtain ⟨r, hr⟩ : ∃ r, p.firsts[k]? = some r := dh hkf
  have hrc := ubv hr
  have hmb := uc8 hok false hr
  refine gm [(0, none), (1, none), (2, none), (3, none), (4, none), (5, none), (6, none), (7, none), (8, none), (9, none), (10, none), (11, none), (12, none), (13, none), (14, none)] (fun i => [14].contains i) (fun i => [14].contains i) (fun i => [0, 2, 3, 5, 6, 7, 9, 10, 11, 12, 13].contains i) [nx + 5, ya] (by kernel_rfl) (by kernel_rfl) ?_
  refine af rfl rfl rfl rfl (dd rfl rfl) ?_
  try dsimp only [St.put]
  refine aw rfl rfl rfl rfl (em rfl rfl zG (by simp) (by first | rfl | assumption)) ?_
  refine af rfl rfl rfl rfl (br rfl (by constructor)) ?_
  refine af rfl rfl rfl rfl (dd rfl rfl) ?_
  try dsimp only [St.put]
  refine aw rfl rfl rfl rfl (em rfl rfl zG (by simp) (by first | rfl | assumption)) ?_
  refine af rfl rfl rfl rfl (br rfl (by constructor)) ?_
  try dsimp only [St.put]
  refine af rfl rfl rfl rfl ((l9 rfl rfl zG rfl rfl hkf)) ?_
  refine af rfl rfl rfl rfl (dd rfl rfl) ?_
  try dsimp only [St.put]
  refine aw rfl rfl rfl rfl ((jp rfl rfl zG (by simp) hrc)) ?_
  refine af rfl rfl rfl rfl (br rfl (by constructor)) ?_
  refine af rfl rfl rfl rfl (gy rfl rfl rfl (by omega)) ?_
  refine af rfl rfl rfl rfl (uc1 rfl rfl rfl rfl) ?_
  try dsimp only [St.put]
  refine af rfl rfl rfl rfl ((l9 rfl rfl zG rfl rfl hkf)) ?_
  refine af rfl rfl rfl rfl (dd rfl rfl) ?_
  refine iz ?_
  try dsimp only [St.put]
  refine gn rfl rfl rfl rfl (ul (xs := p.firsts) (k := k) (j := 1) (z := r) (z' := ⟨r.id, max 0 (r.miss - (1 + l))⟩) rfl rfl rfl zG rfl rfl hr rfl (by decide) rfl ?_)
  refine iy ?_
  dsimp only [St.put]
  refine hK10 _ ?_
  refine di fun K12 hK12 => ?_
  first
   | (refine kg (nx + 5) 1 (p.firsts.set k ⟨r.id, max 0 (r.miss - (1 + l))⟩) zG rfl zG (by omega) rfl rfl (by rw [List.length_set]) ?_
      refine kg (nx + 5) 2 p.seconds zG rfl zG (by omega) rfl rfl rfl ?_
      refine kg (nx + 5) 3 p.pages zG rfl zG (by omega) rfl rfl rfl ?_
      dsimp only [List.set_cons_zero, List.set_cons_succ]
      obtain ⟨q, hq⟩ : ∃ q, tf p false k r (max 0 (r.miss - (1 + l))) = q := ⟨_, rfl⟩
      have hLM := vp hok (b := false) hr (m := max 0 (r.miss - (1 + l))) (by omega) (by omega)
      have hcq : [lst p.text, lst (p.firsts.set k ⟨r.id, max 0 (r.miss - (1 + l))⟩), lst p.seconds, lst p.pages] = cells q := by rw [← hq]; rfl)
   | (refine kg (nx + 5) 1 p.firsts zG rfl zG (by omega) rfl rfl rfl ?_
      refine kg (nx + 5) 2 (p.seconds.set j ⟨r.id, max 0 (r.miss - (1 + l))⟩) zG rfl zG (by omega) rfl rfl (by rw [List.length_set]) ?_
      refine kg (nx + 5) 3 p.pages zG rfl zG (by omega) rfl rfl rfl ?_
      dsimp only [List.set_cons_zero, List.set_cons_succ]
      obtain ⟨q, hq⟩ : ∃ q, tf p true j r (max 0 (r.miss - (1 + l))) = q := ⟨_, rfl⟩
      have hLM := vp hok (b := true) hr (m := max 0 (r.miss - (1 + l))) (by omega) (by omega)
      have hcq : [lst p.text, lst p.firsts, lst (p.seconds.set j ⟨r.id, max 0 (r.miss - (1 + l))⟩), lst p.pages] = cells q := by rw [← hq]; rfl)
  rw [hq] at hLM
  rw [hcq]
  clear hq hcq
  refine eu (i := 9) rfl zG (by rw [Ne, ← List.length_eq_zero_iff, Enc.len]; decide) ?_
  dsimp only
  have hCq := hLM.check hC
  obtain ⟨hokq, _⟩ := ld hCq
  have hLq0 : eb q (cc q) = bif gj q then 0 else 8 := by rw [hCq, pm]
  have hmost := hLM.most hok
  have hpgs : q.pages = p.pages := hLM.pages
  refine c7 ?_
  try dsimp only [St.put]
  refine bi rfl (dz rfl rfl (Enc.len _)) ?_
  try dsimp only [St.put]
  refine ae rfl ((dx rfl rfl rfl ((ri 0 p)) zG (by dsimp only [St.put]; omega) ?_))
  refine aa rfl (br rfl (by constructor)) ?_
  refine aa rfl (im rfl rfl rfl) ?_
  refine aa rfl (im rfl rfl rfl) ?_
  try dsimp only [St.put]
  refine ae rfl (cz rfl ?_)
  try dsimp only [St.put]
  refine ae rfl (co rfl rfl rfl zG rfl rfl (by rfl) ?_)
  refine aa rfl (dn rfl (by constructor)) ?_
  refine cx ?_
  dsimp only [St.put]
  refine hK12 _ ?_
  refine eu (i := 12) rfl zG zC ?_
  dsimp only
  refine di fun K13 hK13 => ?_
  by_cases hT : gj q = true
  ·have hTp := hLM.truth hok hT
   have hL : eb p (cc p) = 0 := by rw [hL0, hTp]; rfl
   have hLq : eb q (cc q) = 0 := by rw [hLq0, hT]; rfl
   have htv : (l4 p).hi = n8 p := by unfold l4; rw [hL]; rfl
   refine c7 ?_
   try dsimp only [St.put]
   refine bi rfl (dz rfl rfl (Enc.len _)) ?_
   try dsimp only [St.put]
   refine ae rfl ((dx rfl rfl rfl ((udr 0 q hLq)) zG (by dsimp only [St.put]; omega) ?_))
   refine aa rfl (br rfl (by constructor)) ?_
   refine aa rfl (im rfl rfl rfl) ?_
   refine aa rfl (im rfl rfl rfl) ?_
   try dsimp only [St.put]
   refine ae rfl (cz rfl ?_)
   try dsimp only [St.put]
   refine ae rfl (co rfl rfl rfl zG rfl rfl (by rfl) ?_)
   refine aa rfl (dn rfl (by constructor)) ?_
   refine cx ?_
   dsimp only [St.put]
   refine hK13 _ ?_
   refine eu (i := 14) rfl zG zC ?_
   dsimp only
   refine di fun K14 hK14 => ?_
   refine di fun K15 hK15 => ?_
   refine c7 ?_
   refine aa rfl (br rfl (by constructor)) ?_
   refine aa rfl ((d8 (c := false) (ez rfl rfl rfl) (ph rfl))) ?_
   refine cx ?_
   dsimp only [St.put]
   refine hK15 _ ?_
   refine ar rfl (fun h => by cases h) (fun _ => ?_)
   refine ax ?_
   refine hK14 _ ?_
   refine di fun K16 hK16 => ?_
   refine di fun K17 hK17 => ?_
   refine c7 ?_
   refine aa rfl (br rfl (by constructor)) ?_
   refine aa rfl ((d8 (c := false) (ez rfl rfl rfl) (ph hL))) ?_
   refine aa rfl (br rfl (by constructor)) ?_
   refine aa rfl (bz rfl rfl rfl) ?_
   try dsimp only [St.put]
   refine bi rfl (bq rfl rfl) ?_
   refine aa rfl (bz rfl rfl rfl) ?_
   try dsimp only [St.put]
   refine bi rfl (bq rfl rfl) ?_
   refine aa rfl ((d8 (c := false) (gt rfl rfl rfl) (decide_eq_false (by rw [htv]; omega)))) ?_
   refine aa rfl (cm rfl rfl (by constructor)) ?_
   refine cx ?_
   dsimp only [St.put]
   refine hK17 _ ?_
   refine ar rfl (fun h => by cases h) (fun _ => ?_)
   refine ax ?_
   refine hK16 _ ?_
   refine di fun K18 hK18 => ?_
   refine di fun K19 hK19 => ?_
   refine c7 ?_
   refine aa rfl (bz rfl rfl rfl) ?_
   try dsimp only [St.put]
   refine bi rfl (bq rfl rfl) ?_
   refine aa rfl (bn rfl rfl (List.length_map _)) ?_
   refine aa rfl (br rfl (by constructor)) ?_
   refine cx ?_
   dsimp only [St.put]
   refine hK19 _ ?_
   refine bj ?_
   refine cp 127 ?_
   refine zQ ?_
   refine dl (G) zX ?_
   dsimp only
   refine dj (X := Nat) (fun i => i ≤ p.pages.length) (fun i => p.pages.length - i) (fun i => [(16, .any), (17, .any), (18, .any), (19, .any), (20, .any), (126, .v (.int .i64 (i : Int)))]) (fun i G' => G') 0 rfl ?_ ?_ (fun _ _ h => h) ?_ ?_ ?_
   ·exact Nat.zero_le _
   ·exact zF
   ·rintro i hI
    exact zL
   ·exact fun _ _ _ _ h => .inl h
   rintro i hI
   dsimp only at hI ⊢
   refine di fun K20 hK20 => ?_
   refine c7 ?_
   refine aa rfl (cn rfl rfl rfl) ?_
   refine cx ?_
   dsimp only [St.put]
   refine hK20 _ ?_
   refine di fun K21 hK21 => ?_
   refine ar rfl (fun hc => ?_) (fun hc => ?_)
   ·replace hc := of_decide_eq_true hc
    obtain ⟨x, hx⟩ : ∃ x, p.pages[i]? = some x := dh (by omega)
    have hxq : q.pages[i]? = some x := by rw [hpgs]; exact hx
    have hal := hLM.alone hok i
    refine ax ?_
    refine hK21 _ ?_
    refine di fun K22 hK22 => ?_
    refine bj ?_
    refine di fun K23 hK23 => ?_
    refine c7 ?_
    refine aa rfl (br rfl (by constructor)) ?_
    refine aa rfl (dn rfl (by constructor)) ?_
    refine cx ?_
    dsimp only [St.put]
    refine hK23 _ ?_
    refine di fun K24 hK24 => ?_
    refine c7 ?_
    try dsimp only [St.put]
    refine bi rfl (dz rfl rfl (Enc.len _)) ?_
    refine aa rfl (br rfl (by constructor)) ?_
    try dsimp only [St.put]
    refine ae rfl ((dx rfl rfl rfl ((wt 0 p hL hx)) zG (by dsimp only [St.put]; omega) ?_))
    refine aa rfl (br rfl (by constructor)) ?_
    refine aa rfl (im rfl rfl rfl) ?_
    refine aa rfl (im rfl rfl rfl) ?_
    try dsimp only [St.put]
    refine ae rfl (cz rfl ?_)
    try dsimp only [St.put]
    refine ae rfl (co rfl rfl rfl zG rfl rfl (by rfl) ?_)
    refine aa rfl (dn rfl (by constructor)) ?_
    refine cx ?_
    dsimp only [St.put]
    refine hK24 _ ?_
    refine eu (i := 17) rfl zG zC ?_
    dsimp only
    refine di fun K25 hK25 => ?_
    refine c7 ?_
    try dsimp only [St.put]
    refine bi rfl (dz rfl rfl (Enc.len _)) ?_
    refine aa rfl (br rfl (by constructor)) ?_
    try dsimp only [St.put]
    refine ae rfl ((dx rfl rfl rfl ((wt 0 q hLq hxq)) zG (by dsimp only [St.put]; omega) ?_))
    refine aa rfl (br rfl (by constructor)) ?_
    refine aa rfl (im rfl rfl rfl) ?_
    refine aa rfl (im rfl rfl rfl) ?_
    try dsimp only [St.put]
    refine ae rfl (cz rfl ?_)
    try dsimp only [St.put]
    refine ae rfl (co rfl rfl rfl zG rfl rfl (by rfl) ?_)
    refine aa rfl (dn rfl (by constructor)) ?_
    refine cx ?_
    dsimp only [St.put]
    refine hK25 _ ?_
    refine eu (i := 19) rfl zG zC ?_
    dsimp only
    refine di fun K26 hK26 => ?_
    refine c7 ?_
    refine aa rfl (br rfl (by constructor)) ?_
    refine aa rfl ((d8 (c := false) (ez rfl rfl rfl) (ph rfl))) ?_
    refine aa rfl (br rfl (by constructor)) ?_
    refine aa rfl (br rfl (by constructor)) ?_
    refine aa rfl ((d8 (c := false) (ez rfl rfl rfl) (ph rfl))) ?_
    refine aa rfl (cm rfl rfl (by constructor)) ?_
    refine aa rfl (br rfl (by constructor)) ?_
    refine aa rfl (bz rfl rfl rfl) ?_
    try dsimp only [St.put]
    refine bi rfl (bq rfl rfl) ?_
    refine aa rfl (bz rfl rfl rfl) ?_
    try dsimp only [St.put]
    refine bi rfl (bq rfl rfl) ?_
    refine aa rfl ((d8 (c := false) (gt rfl rfl rfl) (decide_eq_false (by omega)))) ?_
    refine aa rfl (cm rfl rfl (by constructor)) ?_
    refine cx ?_
    dsimp only [St.put]
    refine hK26 _ ?_
    refine ar rfl (fun h => by cases h) (fun _ => ?_)
    refine ax ?_
    refine hK22 _ ?_
    refine c7 ?_
    refine aa rfl (cg rfl rfl rfl (by omega)) ?_
    refine aa rfl (br rfl (by constructor)) ?_
    refine cx ?_
    dsimp only [St.put]
    exact ⟨i + 1, by omega, by omega, ⟨⟨rfl, rfl⟩, zF, zB, zN, zX⟩⟩
   replace hc := of_decide_eq_false hc
   refine dg ?_
   refine hK18 _ ?_
   refine di fun K27 hK27 => ?_
   refine c7 ?_
   refine aa rfl (br rfl (by constructor)) ?_
   refine aa rfl (dn rfl (by constructor)) ?_
   refine cx ?_
   dsimp only [St.put]
   refine hK27 _ ?_
   refine aq ?_
   refine bg rfl (by constructor) zN zS ?_
   rfl
  have hT0 : gj q = false := by simpa using hT
  have hLq : eb q (cc q) = 8 := by rw [hLq0, hT0]; rfl
  refine c7 ?_
  try dsimp only [St.put]
  refine bi rfl (dz rfl rfl (Enc.len _)) ?_
  try dsimp only [St.put]
  refine ae rfl ((dx rfl rfl rfl ((ri 0 q)) zG (by dsimp only [St.put]; omega) ?_))
  refine aa rfl (br rfl (by constructor)) ?_
  refine aa rfl (im rfl rfl rfl) ?_
  refine aa rfl (im rfl rfl rfl) ?_
  try dsimp only [St.put]
  refine ae rfl (cz rfl ?_)
  try dsimp only [St.put]
  refine ae rfl (co rfl rfl rfl zG rfl rfl (by rfl) ?_)
  refine aa rfl (dn rfl (by constructor)) ?_
  refine cx ?_
  dsimp only [St.put]
  refine hK13 _ ?_
  refine eu (i := 14) rfl zG zC ?_
  dsimp only
  refine di fun K28 hK28 => ?_
  refine di fun K29 hK29 => ?_
  refine c7 ?_
  refine aa rfl (br rfl (by constructor)) ?_
  refine aa rfl ((d8 (c := true) (ez rfl rfl rfl) (by rw [hLq]; rfl))) ?_
  refine cx ?_
  dsimp only [St.put]
  refine hK29 _ ?_
  refine ar rfl (fun _ => ?_) (fun h => by cases h)
  refine di fun K30 hK30 => ?_
  refine c7 ?_
  refine aa rfl (br rfl (by constructor)) ?_
  refine aa rfl (br rfl (by constructor)) ?_
  refine aa rfl (br rfl (by constructor)) ?_
  refine aa rfl ((d8 (c := true) (ff rfl rfl rfl) (decide_eq_true hLq))) ?_
  refine aa rfl (bw rfl rfl (by constructor)) ?_
  refine aa rfl (br rfl (by constructor)) ?_
  refine aa rfl (br rfl (by constructor)) ?_
  refine aa rfl (ff rfl rfl rfl) ?_
  refine et (fun hs => ?_) (fun hs => ?_)
  ·skip
   refine aa rfl (br rfl (by constructor)) ?_
   refine mz rfl ?_
   refine mz rfl ?_
   refine aa rfl (bw rfl rfl (by constructor)) ?_
   refine aa rfl (bw rfl rfl (by constructor)) ?_
   refine aa rfl (dn rfl (by constructor)) ?_
   refine cx ?_
   dsimp only [St.put]
   refine hK30 _ ?_
   refine aq ?_
   refine bg rfl (by constructor) zN zS ?_
   rfl
  have hne : eb p (cc p) ≠ 0 := of_decide_eq_false hs
  have h8 : eb p (cc p) = 8 := by
   rw [hL0] at hne ⊢
   cases hb : gj p
   ·rfl
   rw [hb] at hne; exact absurd rfl hne
  refine aa rfl (br rfl (by constructor)) ?_
  refine aa rfl (br rfl (by constructor)) ?_
  refine aa rfl ((d8 (c := true) (ff rfl rfl rfl) (decide_eq_true h8))) ?_
  refine aa rfl (cm rfl rfl (by constructor)) ?_
  refine aa rfl (bw rfl rfl (by constructor)) ?_
  refine aa rfl (dn rfl (by constructor)) ?_
  refine cx ?_
  dsimp only [St.put]
  refine hK30 _ ?_
  refine aq ?_
  refine bg rfl (by constructor) zN zS ?_
  rfl
 have hkf : ¬ k < p.firsts.length := by have := of_decide_eq_false hc; omega
 obtain ⟨j, hj⟩ : ∃ j, k - p.firsts.length = j := ⟨_, rfl⟩
 obtain ⟨r, hr⟩ : ∃ r, p.seconds[j]? = some r := dh (by omega)
 have hjl : j < p.seconds.length := by omega
 have hrc := ubv hr
 have hmb := uc8 hok true hr
 refine di fun K31 hK31 => ?_
 refine c7 ?_
 refine aa rfl (br rfl (by constructor)) ?_
 refine aa rfl (bz rfl rfl rfl) ?_
 try dsimp only [St.put]
 refine bi rfl (bq rfl rfl) ?_
 refine aa rfl (bn rfl rfl (List.length_map _)) ?_
 refine aa rfl (gy rfl rfl rfl (by omega)) ?_
 refine aa rfl (dn rfl (by constructor)) ?_
 refine cx ?_
 dsimp only [St.put]
 rw [show (k : Int) - (p.firsts.length : Int) = (j : Int) by omega]
 refine hK31 _ ?_
 refine gm [(0, none), (1, none), (2, none), (3, none), (4, none), (5, none), (6, none), (7, none), (8, none), (9, none), (10, none), (11, none), (12, none), (13, none), (14, none)] (fun i => [14].contains i) (fun i => [14].contains i) (fun i => [0, 2, 3, 5, 6, 7, 9, 10, 11, 12, 13].contains i) [nx + 5, yb] (by kernel_rfl) (by kernel_rfl) ?_
 refine af rfl rfl rfl rfl (dd rfl rfl) ?_
 try dsimp only [St.put]
 refine aw rfl rfl rfl rfl (em rfl rfl zG (by simp) (by first | rfl | assumption)) ?_
 refine af rfl rfl rfl rfl (br rfl (by constructor)) ?_
 refine af rfl rfl rfl rfl (dd rfl rfl) ?_
 try dsimp only [St.put]
 refine aw rfl rfl rfl rfl (em rfl rfl zG (by simp) (by first | rfl | assumption)) ?_
 refine af rfl rfl rfl rfl (br rfl (by constructor)) ?_
 try dsimp only [St.put]
 refine af rfl rfl rfl rfl ((l9 rfl rfl zG rfl rfl hjl)) ?_
 refine af rfl rfl rfl rfl (dd rfl rfl) ?_
 try dsimp only [St.put]
 refine aw rfl rfl rfl rfl ((jp rfl rfl zG (by simp) hrc)) ?_
 refine af rfl rfl rfl rfl (br rfl (by constructor)) ?_
 refine af rfl rfl rfl rfl (gy rfl rfl rfl (by omega)) ?_
 refine af rfl rfl rfl rfl (uc1 rfl rfl rfl rfl) ?_
 try dsimp only [St.put]
 refine af rfl rfl rfl rfl ((l9 rfl rfl zG rfl rfl hjl)) ?_
 refine af rfl rfl rfl rfl (dd rfl rfl) ?_
 refine iz ?_
 try dsimp only [St.put]
 refine gn rfl rfl rfl rfl (ul (xs := p.seconds) (k := j) (j := 1) (z := r) (z' := ⟨r.id, max 0 (r.miss - (1 + l))⟩) rfl rfl rfl zG rfl rfl hr rfl (by decide) rfl ?_)
 refine iy ?_
 dsimp only [St.put]
 refine hK10 _ ?_
 refine di fun K32 hK32 => ?_
 first
  | (refine kg (nx + 5) 1 (p.firsts.set k ⟨r.id, max 0 (r.miss - (1 + l))⟩) zG rfl zG (by omega) rfl rfl (by rw [List.length_set]) ?_
     refine kg (nx + 5) 2 p.seconds zG rfl zG (by omega) rfl rfl rfl ?_
     refine kg (nx + 5) 3 p.pages zG rfl zG (by omega) rfl rfl rfl ?_
     dsimp only [List.set_cons_zero, List.set_cons_succ]
     obtain ⟨q, hq⟩ : ∃ q, tf p false k r (max 0 (r.miss - (1 + l))) = q := ⟨_, rfl⟩
     have hLM := vp hok (b := false) hr (m := max 0 (r.miss - (1 + l))) (by omega) (by omega)
     have hcq : [lst p.text, lst (p.firsts.set k ⟨r.id, max 0 (r.miss - (1 + l))⟩), lst p.seconds, lst p.pages] = cells q := by rw [← hq]; rfl)
  | (refine kg (nx + 5) 1 p.firsts zG rfl zG (by omega) rfl rfl rfl ?_
     refine kg (nx + 5) 2 (p.seconds.set j ⟨r.id, max 0 (r.miss - (1 + l))⟩) zG rfl zG (by omega) rfl rfl (by rw [List.length_set]) ?_
     refine kg (nx + 5) 3 p.pages zG rfl zG (by omega) rfl rfl rfl ?_
     dsimp only [List.set_cons_zero, List.set_cons_succ]
     obtain ⟨q, hq⟩ : ∃ q, tf p true j r (max 0 (r.miss - (1 + l))) = q := ⟨_, rfl⟩
     have hLM := vp hok (b := true) hr (m := max 0 (r.miss - (1 + l))) (by omega) (by omega)
     have hcq : [lst p.text, lst p.firsts, lst (p.seconds.set j ⟨r.id, max 0 (r.miss - (1 + l))⟩), lst p.pages] = cells q := by rw [← hq]; rfl)
 rw [hq] at hLM
 rw [hcq]
 clear hq hcq
 refine eu (i := 9) rfl zG (by rw [Ne, ← List.length_eq_zero_iff, Enc.len]; decide) ?_
 dsimp only
 have hCq := hLM.check hC
 obtain ⟨hokq, _⟩ := ld hCq
 have hLq0 : eb q (cc q) = bif gj q then 0 else 8 := by rw [hCq, pm]
 have hmost := hLM.most hok
 have hpgs : q.pages = p.pages := hLM.pages
 refine c7 ?_
 try dsimp only [St.put]
 refine bi rfl (dz rfl rfl (Enc.len _)) ?_
 try dsimp only [St.put]
 refine ae rfl ((dx rfl rfl rfl ((ri 0 p)) zG (by dsimp only [St.put]; omega) ?_))
 refine aa rfl (br rfl (by constructor)) ?_
 refine aa rfl (im rfl rfl rfl) ?_
 refine aa rfl (im rfl rfl rfl) ?_
 try dsimp only [St.put]
 refine ae rfl (cz rfl ?_)
 try dsimp only [St.put]
 refine ae rfl (co rfl rfl rfl zG rfl rfl (by rfl) ?_)
 refine aa rfl (dn rfl (by constructor)) ?_
 refine cx ?_
 dsimp only [St.put]
 refine hK32 _ ?_
 refine eu (i := 12) rfl zG zC ?_
 dsimp only
 refine di fun K33 hK33 => ?_
 by_cases hT : gj q = true
 ·have hTp := hLM.truth hok hT
  have hL : eb p (cc p) = 0 := by rw [hL0, hTp]; rfl
  have hLq : eb q (cc q) = 0 := by rw [hLq0, hT]; rfl
  have htv : (l4 p).hi = n8 p := by unfold l4; rw [hL]; rfl
  refine c7 ?_
  try dsimp only [St.put]
  refine bi rfl (dz rfl rfl (Enc.len _)) ?_
  try dsimp only [St.put]
  refine ae rfl ((dx rfl rfl rfl ((udr 0 q hLq)) zG (by dsimp only [St.put]; omega) ?_))
  refine aa rfl (br rfl (by constructor)) ?_
  refine aa rfl (im rfl rfl rfl) ?_
  refine aa rfl (im rfl rfl rfl) ?_
  try dsimp only [St.put]
  refine ae rfl (cz rfl ?_)
  try dsimp only [St.put]
  refine ae rfl (co rfl rfl rfl zG rfl rfl (by rfl) ?_)
  refine aa rfl (dn rfl (by constructor)) ?_
  refine cx ?_
  dsimp only [St.put]
  refine hK33 _ ?_
  refine eu (i := 14) rfl zG zC ?_
  dsimp only
  refine di fun K34 hK34 => ?_
  refine di fun K35 hK35 => ?_
  refine c7 ?_
  refine aa rfl (br rfl (by constructor)) ?_
  refine aa rfl ((d8 (c := false) (ez rfl rfl rfl) (ph rfl))) ?_
  refine cx ?_
  dsimp only [St.put]
  refine hK35 _ ?_
  refine ar rfl (fun h => by cases h) (fun _ => ?_)
  refine ax ?_
  refine hK34 _ ?_
  refine di fun K36 hK36 => ?_
  refine di fun K37 hK37 => ?_
  refine c7 ?_
  refine aa rfl (br rfl (by constructor)) ?_
  refine aa rfl ((d8 (c := false) (ez rfl rfl rfl) (ph hL))) ?_
  refine aa rfl (br rfl (by constructor)) ?_
  refine aa rfl (bz rfl rfl rfl) ?_
  try dsimp only [St.put]
  refine bi rfl (bq rfl rfl) ?_
  refine aa rfl (bz rfl rfl rfl) ?_
  try dsimp only [St.put]
  refine bi rfl (bq rfl rfl) ?_
  refine aa rfl ((d8 (c := false) (gt rfl rfl rfl) (decide_eq_false (by rw [htv]; omega)))) ?_
  refine aa rfl (cm rfl rfl (by constructor)) ?_
  refine cx ?_
  dsimp only [St.put]
  refine hK37 _ ?_
  refine ar rfl (fun h => by cases h) (fun _ => ?_)
  refine ax ?_
  refine hK36 _ ?_
  refine di fun K38 hK38 => ?_
  refine di fun K39 hK39 => ?_
  refine c7 ?_
  refine aa rfl (bz rfl rfl rfl) ?_
  try dsimp only [St.put]
  refine bi rfl (bq rfl rfl) ?_
  refine aa rfl (bn rfl rfl (List.length_map _)) ?_
  refine aa rfl (br rfl (by constructor)) ?_
  refine cx ?_
  dsimp only [St.put]
  refine hK39 _ ?_
  refine bj ?_
  refine cp 127 ?_
  refine zQ ?_
  refine dl (G) zX ?_
  dsimp only
  refine dj (X := Nat) (fun i => i ≤ p.pages.length) (fun i => p.pages.length - i) (fun i => [(16, .any), (17, .any), (18, .any), (19, .any), (20, .any), (126, .v (.int .i64 (i : Int)))]) (fun i G' => G') 0 rfl ?_ ?_ (fun _ _ h => h) ?_ ?_ ?_
  ·exact Nat.zero_le _
  ·exact zF
  ·rintro i hI
   exact zL
  ·exact fun _ _ _ _ h => .inl h
  rintro i hI
  dsimp only at hI ⊢
  refine di fun K40 hK40 => ?_
  refine c7 ?_
  refine aa rfl (cn rfl rfl rfl) ?_
  refine cx ?_
  dsimp only [St.put]
  refine hK40 _ ?_
  refine di fun K41 hK41 => ?_
  refine ar rfl (fun hc => ?_) (fun hc => ?_)
  ·replace hc := of_decide_eq_true hc
   obtain ⟨x, hx⟩ : ∃ x, p.pages[i]? = some x := dh (by omega)
   have hxq : q.pages[i]? = some x := by rw [hpgs]; exact hx
   have hal := hLM.alone hok i
   refine ax ?_
   refine hK41 _ ?_
   refine di fun K42 hK42 => ?_
   refine bj ?_
   refine di fun K43 hK43 => ?_
   refine c7 ?_
   refine aa rfl (br rfl (by constructor)) ?_
   refine aa rfl (dn rfl (by constructor)) ?_
   refine cx ?_
   dsimp only [St.put]
   refine hK43 _ ?_
   refine di fun K44 hK44 => ?_
   refine c7 ?_
   try dsimp only [St.put]
   refine bi rfl (dz rfl rfl (Enc.len _)) ?_
   refine aa rfl (br rfl (by constructor)) ?_
   try dsimp only [St.put]
   refine ae rfl ((dx rfl rfl rfl ((wt 0 p hL hx)) zG (by dsimp only [St.put]; omega) ?_))
   refine aa rfl (br rfl (by constructor)) ?_
   refine aa rfl (im rfl rfl rfl) ?_
   refine aa rfl (im rfl rfl rfl) ?_
   try dsimp only [St.put]
   refine ae rfl (cz rfl ?_)
   try dsimp only [St.put]
   refine ae rfl (co rfl rfl rfl zG rfl rfl (by rfl) ?_)
   refine aa rfl (dn rfl (by constructor)) ?_
   refine cx ?_
   dsimp only [St.put]
   refine hK44 _ ?_
   refine eu (i := 17) rfl zG zC ?_
   dsimp only
   refine di fun K45 hK45 => ?_
   refine c7 ?_
   try dsimp only [St.put]
   refine bi rfl (dz rfl rfl (Enc.len _)) ?_
   refine aa rfl (br rfl (by constructor)) ?_
   try dsimp only [St.put]
   refine ae rfl ((dx rfl rfl rfl ((wt 0 q hLq hxq)) zG (by dsimp only [St.put]; omega) ?_))
   refine aa rfl (br rfl (by constructor)) ?_
   refine aa rfl (im rfl rfl rfl) ?_
   refine aa rfl (im rfl rfl rfl) ?_
   try dsimp only [St.put]
   refine ae rfl (cz rfl ?_)
   try dsimp only [St.put]
   refine ae rfl (co rfl rfl rfl zG rfl rfl (by rfl) ?_)
   refine aa rfl (dn rfl (by constructor)) ?_
   refine cx ?_
   dsimp only [St.put]
   refine hK45 _ ?_
   refine eu (i := 19) rfl zG zC ?_
   dsimp only
   refine di fun K46 hK46 => ?_
   refine c7 ?_
   refine aa rfl (br rfl (by constructor)) ?_
   refine aa rfl ((d8 (c := false) (ez rfl rfl rfl) (ph rfl))) ?_
   refine aa rfl (br rfl (by constructor)) ?_
   refine aa rfl (br rfl (by constructor)) ?_
   refine aa rfl ((d8 (c := false) (ez rfl rfl rfl) (ph rfl))) ?_
   refine aa rfl (cm rfl rfl (by constructor)) ?_
   refine aa rfl (br rfl (by constructor)) ?_
   refine aa rfl (bz rfl rfl rfl) ?_
   try dsimp only [St.put]
   refine bi rfl (bq rfl rfl) ?_
   refine aa rfl (bz rfl rfl rfl) ?_
   try dsimp only [St.put]
   refine bi rfl (bq rfl rfl) ?_
   refine aa rfl ((d8 (c := false) (gt rfl rfl rfl) (decide_eq_false (by omega)))) ?_
   refine aa rfl (cm rfl rfl (by constructor)) ?_
   refine cx ?_
   dsimp only [St.put]
   refine hK46 _ ?_
   refine ar rfl (fun h => by cases h) (fun _ => ?_)
   refine ax ?_
   refine hK42 _ ?_
   refine c7 ?_
   refine aa rfl (cg rfl rfl rfl (by omega)) ?_
   refine aa rfl (br rfl (by constructor)) ?_
   refine cx ?_
   dsimp only [St.put]
   exact ⟨i + 1, by omega, by omega, ⟨⟨rfl, rfl⟩, zF, zB, zN, zX⟩⟩
  replace hc := of_decide_eq_false hc
  refine dg ?_
  refine hK38 _ ?_
  refine di fun K47 hK47 => ?_
  refine c7 ?_
  refine aa rfl (br rfl (by constructor)) ?_
  refine aa rfl (dn rfl (by constructor)) ?_
  refine cx ?_
  dsimp only [St.put]
  refine hK47 _ ?_
  refine aq ?_
  refine bg rfl (by constructor) zN zS ?_
  rfl
 have hT0 : gj q = false := by simpa using hT
 have hLq : eb q (cc q) = 8 := by rw [hLq0, hT0]; rfl
 refine c7 ?_
 try dsimp only [St.put]
 refine bi rfl (dz rfl rfl (Enc.len _)) ?_
 try dsimp only [St.put]
 refine ae rfl ((dx rfl rfl rfl ((ri 0 q)) zG (by dsimp only [St.put]; omega) ?_))
 refine aa rfl (br rfl (by constructor)) ?_
 refine aa rfl (im rfl rfl rfl) ?_
 refine aa rfl (im rfl rfl rfl) ?_
 try dsimp only [St.put]
 refine ae rfl (cz rfl ?_)
 try dsimp only [St.put]
 refine ae rfl (co rfl rfl rfl zG rfl rfl (by rfl) ?_)
 refine aa rfl (dn rfl (by constructor)) ?_
 refine cx ?_
 dsimp only [St.put]
 refine hK33 _ ?_
 refine eu (i := 14) rfl zG zC ?_
 dsimp only
 refine di fun K48 hK48 => ?_
 refine di fun K49 hK49 => ?_
 refine c7 ?_
 refine aa rfl (br rfl (by constructor)) ?_
 refine aa rfl ((d8 (c := true) (ez rfl rfl rfl) (by rw [hLq]; rfl))) ?_
 refine cx ?_
 dsimp only [St.put]
 refine hK49 _ ?_
 refine ar rfl (fun _ => ?_) (fun h => by cases h)
 refine di fun K50 hK50 => ?_
 refine c7 ?_
 refine aa rfl (br rfl (by constructor)) ?_
 refine aa rfl (br rfl (by constructor)) ?_
 refine aa rfl (br rfl (by constructor)) ?_
 refine aa rfl ((d8 (c := true) (ff rfl rfl rfl) (decide_eq_true hLq))) ?_
 refine aa rfl (bw rfl rfl (by constructor)) ?_
 refine aa rfl (br rfl (by constructor)) ?_
 refine aa rfl (br rfl (by constructor)) ?_
 refine aa rfl (ff rfl rfl rfl) ?_
 refine et (fun hs => ?_) (fun hs => ?_)
 ·skip
  refine aa rfl (br rfl (by constructor)) ?_
  refine mz rfl ?_
  refine mz rfl ?_
  refine aa rfl (bw rfl rfl (by constructor)) ?_
  refine aa rfl (bw rfl rfl (by constructor)) ?_
  refine aa rfl (dn rfl (by constructor)) ?_
  refine cx ?_
  dsimp only [St.put]
  refine hK50 _ ?_
  refine aq ?_
  refine bg rfl (by constructor) zN zS ?_
  rfl
 have hne : eb p (cc p) ≠ 0 := of_decide_eq_false hs
 have h8 : eb p (cc p) = 8 := by
  rw [hL0] at hne ⊢
  cases hb : gj p
  ·rfl
  rw [hb] at hne; exact absurd rfl hne
 refine aa rfl (br rfl (by constructor)) ?_
 refine aa rfl (br rfl (by constructor)) ?_
 refine aa rfl ((d8 (c := true) (ff rfl rfl rfl) (decide_eq_true h8))) ?_
 refine aa rfl (cm rfl rfl (by constructor)) ?_
 refine aa rfl (bw rfl rfl (by constructor)) ?_
 refine aa rfl (dn rfl (by constructor)) ?_
 refine cx ?_
 dsimp only [St.put]
 refine hK50 _ ?_
 refine aq ?_
 refine bg rfl (by constructor) zN zS ?_
 rfl
end Go.Proofs.YtbbdginipiljdaaDoor
namespace Go.AB
open Go Go.RowKit Go.ChangeShapes Go.WideShapes
end Go.AB
namespace Go.Proofs.YtbbdginipiljdaaDoor
set_option maxRecDepth 10000
open Go.ChangeShapes Go.WideShapes Go.ChangeAt Go.RowKit Go.AB
open Go.AB.Enc (cells)
open Go.PB (av ai PlaceD az bf ba)
instance : OpensE Tryd.prog 3 Int := .int (by kernel_rfl)
instance : OpensE Tryd.prog 9 ByteArray := .str (by kernel_rfl)
instance : OpensE Tryd.prog 124 (List ByteArray) := .slice (e := 9) (by kernel_rfl) (by decide)
instance : OpensE Tryd.prog 125 (List (List ByteArray)) := .slice (e := 124) (by kernel_rfl) (by decide)
instance : OpensE Tryd.prog 127 av := .chap (tI := 3) (tL := 125) (by kernel_rfl)
instance : OpensE Tryd.prog 22 (List av) := .slice (e := 127) (by kernel_rfl) (by decide)
theorem uha : jn Tryd.prog 24 [(0, 22, 1)] 1 = true := by kernel_rfl
instance : OpensE Tryd.prog 24 (List av) := .one (e := 22) uha
theorem ui7 : jn Tryd.prog 54 [(0, 3, 1), (1, 3, 1), (2, 3, 1)] 3 = true := by kernel_rfl
instance : OpensE Tryd.prog 54 PlaceD := .place (tI := 3) ui7
theorem und : Tryd.prog.underlying 4 = some .bool := by kernel_rfl
theorem ownZ : ownKnob Tryd.prog.godebug = none := by kernel_rfl
end Go.Proofs.YtbbdginipiljdaaDoor
namespace Go.AB
open Go Go.RowKit Go.ChangeShapes Go.WideShapes
open Go.AB.Enc (cells)
open Go.PB (av ai PlaceD az bf ba bh am ah ck bk)
theorem OpensE.reader {P : Program} {t tI : TypeId} [oI : OpensE P tI Int] (h : jn P t [(0, tI, 1), (1, tI, 1)] 2 = true) : OpensE P t bh :=
 .struct (α := bh) h fun w cs hl hp => by
  obtain ⟨a, ha⟩ := hp (0, tI, 1) (by simp) Int inferInstance oI
  obtain ⟨b, hb⟩ := hp (1, tI, 1) (by simp) Int inferInstance oI
  match cs, hl with
  | [u, v], _ => exact ⟨⟨a, b⟩, Rs.cons (Rs.single_inv ha) hb⟩
theorem OpensE.page {P : Program} {t tI tL : TypeId} [oI : OpensE P tI Int] [oL : OpensE P tL (List PlaceD)] (h : jn P t [(0, tI, 1), (1, tI, 1), (2, tI, 1), (3, tI, 1), (4, tL, 1), (5, tL, 1)] 6 = true) : OpensE P t am :=
 .struct (α := am) h fun w cs hl hp => by
  obtain ⟨a, ha⟩ := hp (0, tI, 1) (by simp) Int inferInstance oI
  obtain ⟨b, hb⟩ := hp (1, tI, 1) (by simp) Int inferInstance oI
  obtain ⟨c, hc⟩ := hp (2, tI, 1) (by simp) Int inferInstance oI
  obtain ⟨d, hd⟩ := hp (3, tI, 1) (by simp) Int inferInstance oI
  obtain ⟨e, he⟩ := hp (4, tL, 1) (by simp) (List PlaceD) inferInstance oL
  obtain ⟨f, hf⟩ := hp (5, tL, 1) (by simp) (List PlaceD) inferInstance oL
  match cs, hl with
  | [u0, u1, u2, u3, u4, u5], _ => exact ⟨⟨a, b, c, d, e, f⟩, Rs.cons (Rs.single_inv ha) (Rs.cons (Rs.single_inv hb) (Rs.cons (Rs.single_inv hc) (Rs.cons (Rs.single_inv hd) (Rs.cons (Rs.single_inv he) hf))))⟩
theorem OpensE.proofs {P : Program} {t tT tR tP : TypeId} [oT : OpensE P tT (List av)] [oR : OpensE P tR (List bh)] [oP : OpensE P tP (List am)] (h : jn P t [(0, tT, 1), (1, tR, 1), (2, tR, 1), (3, tP, 1)] 4 = true) : OpensE P t ah :=
 .struct (α := ah) h fun w cs hl hp => by
  obtain ⟨a, ha⟩ := hp (0, tT, 1) (by simp) (List av) inferInstance oT
  obtain ⟨b, hb⟩ := hp (1, tR, 1) (by simp) (List bh) inferInstance oR
  obtain ⟨c, hc⟩ := hp (2, tR, 1) (by simp) (List bh) inferInstance oR
  obtain ⟨d, hd⟩ := hp (3, tP, 1) (by simp) (List am) inferInstance oP
  match cs, hl with
  | [u0, u1, u2, u3], _ => exact ⟨⟨a, b, c, d⟩, Rs.cons (Rs.single_inv ha) (Rs.cons (Rs.single_inv hb) (Rs.cons (Rs.single_inv hc) hd))⟩
end Go.AB
namespace Go.AB
open Go Go.RowKit Go.ChangeShapes Go.WideShapes
open Go.AB.Enc (cells)
open Go.PB (av ai PlaceD bh am ah ck bk)
def ud7 (P : Program) (t : TypeId) : Bool := match P.underlying t with | some (.func _ _ _) => true | _ => false
theorem zz {P : Program} {t : TypeId} (h : ud7 P t = true) : ∃ ps rs va, P.underlying t = some (.func ps rs va) := by
 unfold ud7 at h
 split at h
 ·rename_i ps rs va he; exact ⟨ps, rs, va, he⟩
 ·cases h
/-- Functions that lie in a variable's cells. -/
theorem ume {W : World} {b : Nat} {cs : List C} (hne : cs ≠ []) (hone : ∀ c ∈ cs, c.one = true) (us : Nat → Value) (hc : ∀ j, j < cs.length → W.cell? ⟨b, j, none⟩ = some (us j)) (hr : ∀ j c, cs[j]? = some c → R (jw W) W c (us j)) : R (jw W) W (.elem cs) (.pointer (some ⟨b, 0, none⟩)) := by
 have hl : 0 < cs.length := List.length_pos_iff.2 hne
 refine .elem hne hone (.inr ⟨b, 0, rfl, ?_, fun j hj => by rw [Nat.zero_add]; exact hc j hj⟩) hr
 have := ue7 (hc (cs.length - 1) (by omega))
 show 0 + cs.length ≤ ql W b
 omega
theorem ulk {P : Program} {f : FuncId} {cs : List C} {v gv : Value} {gc : C} (hp : fk 0 (.fact gv gc) P f cs (.v v)) {w : World} {args : List Value} (hK : R (jw w) w gc gv) (hr : Rs (jw w) w cs args) :
  Calls P f args.toArray w fun e w' => e = .returned v ∧ Below w.heap.size w w' :=
 ull (fun G nx hG => by
  intro E w' as' hrs hsg
  exact hp G nx hG (by obtain ⟨t, _⟩ := hsg.obj 0 _ hG; have := hsg.lt 0 _ t; rw [hsg.nx] at this; exact this) E w' as' hrs hsg) hK hr
/-- a cell of a function's type, as it reads -/
theorem r6 {P : Program} {W : World} {t : TypeId} {ps rs : Array TypeId} {va : Bool} {v : Value} {b : UInt8} {r : List UInt8} {f0 : FuncId} (hu : P.underlying t = some (.func ps rs va)) (hv : IsFunc v) (hd : veil (funcToken P) t v = .held (b :: r))
  (hone : ((List.range P.funcs.size).filter fun f => (P.funcs[f]?).any (·.name.toUTF8.data.toList == b :: r)) = [f0]) : v = .func (.func f0) #[] #[] :=
 Go.func_of_trod (w := W) (base := 0) (sp := fun _ => true) (fuel := 1) (q := []) hu hone (by
  have := trod_func (enc := funcToken P) hu (W := W) (base := 0) (sp := fun _ => true) hv 0
  rw [hd] at this
  exact this)
end Go.AB
namespace Go.Proofs.YtbbdginipiljdaaDoor
set_option maxRecDepth 10000
open Go.ChangeShapes Go.WideShapes Go.ChangeAt Go.RowKit Go.AB
open Go.AB.Enc (cells)
open Go.PB (av ai PlaceD bh am ah ck bk)
instance : OpensE Tryd.prog 66 bh := .reader (tI := 3) (by kernel_rfl)
instance : OpensE Tryd.prog 25 (List bh) := .slice (e := 66) (by kernel_rfl) (by decide)
instance : OpensE Tryd.prog 36 (List PlaceD) := .slice (e := 54) (by kernel_rfl) (by decide)
instance : OpensE Tryd.prog 70 am := .page (tI := 3) (tL := 36) (by kernel_rfl)
instance : OpensE Tryd.prog 26 (List am) := .slice (e := 70) (by kernel_rfl) (by decide)
theorem ub5 : jn Tryd.prog 28 [(0, 24, 1), (1, 25, 1), (2, 25, 1), (3, 26, 1)] 4 = true := by kernel_rfl
instance : OpensE Tryd.prog 28 ah := .proofs (tT := 24) (tR := 25) (tP := 26) ub5
theorem uay : ue Tryd.prog 5 .u8 = true := by kernel_rfl
theorem gSides : Tryd.prog.globalNamed "postil/proof.sides" = some 0 := by kernel_rfl
theorem tSides : (Tryd.prog.globals[0]?).map (·.type) = some 97 := by kernel_rfl
theorem ug4 : Tryd.prog.underlying 97 = some (.array 2 96) := by kernel_rfl
theorem una : Tryd.prog.cellsOf 97 = 6 := by kernel_rfl
theorem ue9 : Tryd.prog.cellsOf 96 = 3 := by kernel_rfl
theorem ubk : jn Tryd.prog 96 [(0, 92, 1), (1, 93, 1), (2, 94, 1)] 3 = true := by kernel_rfl
theorem ueh : ∃ ps rs va, Tryd.prog.underlying 92 = some (.func ps rs va) := zz (by kernel_rfl)
theorem uej : ∃ ps rs va, Tryd.prog.underlying 93 = some (.func ps rs va) := zz (by kernel_rfl)
theorem uei : ∃ ps rs va, Tryd.prog.underlying 94 = some (.func ps rs va) := zz (by kernel_rfl)
theorem ube {W : World} {m : Nat} {cs : List Value} {y : DataW (List UInt8) × List MemPlace} {d0 d1 d2 : DataW (List UInt8)} (hy : y.1 = .agg [d0, d1, d2])
  (h : DataW.trod (funcToken Tryd.prog) Tryd.prog W 0 (fun _ => true) true m 96 cs = some y) : ∃ v0 v1 v2, cs = [v0, v1, v2] ∧ (IsFunc v0 ∧ veil (funcToken Tryd.prog) 92 v0 = d0) ∧ (IsFunc v1 ∧ veil (funcToken Tryd.prog) 93 v1 = d1) ∧ (IsFunc v2 ∧ veil (funcToken Tryd.prog) 94 v2 = d2) := by
 obtain ⟨_, fs, he⟩ := vg ubk
 obtain ⟨xs, m', _, e1, hl, hlen, hf⟩ := DataW.trod_struct he h
 rw [ue9] at hl
 have hfs : fs.toList.map (fun f => (f.offset, f.type, Tryd.prog.cellsOf f.type)) = [(0, 92, 1), (1, 93, 1), (2, 94, 1)] := by
  have := ubk
  unfold jn at this
  rw [he] at this
  simp only [Bool.and_eq_true, beq_iff_eq] at this
  exact this.1
 obtain ⟨l⟩ := fs
 match l, hfs with
 | [f0, f1, f2], hfs =>
  simp only [List.map_cons, List.map_nil, List.cons.injEq, Prod.mk.injEq, and_true] at hfs
  obtain ⟨⟨a1, a2, a3⟩, ⟨b1, b2, b3⟩, ⟨c1, c2, c3⟩⟩ := hfs
  have h0 := hf 0 f0 rfl
  have h1 := hf 1 f1 rfl
  have h2 := hf 2 f2 rfl
  match cs, hl with
  | [u0, u1, u2], _ =>
   match xs, hlen with
   | [x0, x1, x2], _ =>
    subst e1
    simp only [List.map_cons, List.map_nil, DataW.agg.injEq, List.cons.injEq, and_true] at hy
    rw [a3, a1, a2] at h0
    rw [b3, b1, b2] at h1
    rw [c3, c1, c2] at h2
    obtain ⟨ps, rs, va, hu⟩ := ueh
    obtain ⟨ps', rs', va', hu'⟩ := uej
    obtain ⟨ps2, rs2, va2, hu2⟩ := uei
    obtain ⟨v0, q0, q1, q2⟩ := Go.RowKit.func_of_trod hu h0
    obtain ⟨v1, q3, q4, q5⟩ := Go.RowKit.func_of_trod hu' h1
    obtain ⟨v2, q6, q7, q8⟩ := Go.RowKit.func_of_trod hu2 h2
    have e0 : u0 = v0 := by simpa using q0
    have e1 : u1 = v1 := by simpa using q3
    have e2 : u2 = v2 := by simpa using q6
    subst e0; subst e1; subst e2
    have hx0 : x0 = (veil (funcToken Tryd.prog) 92 u0, []) := by simpa using q2
    have hx1 : x1 = (veil (funcToken Tryd.prog) 93 u1, []) := by simpa using q5
    have hx2 : x2 = (veil (funcToken Tryd.prog) 94 u2, []) := by simpa using q8
    subst hx0; subst hx1; subst hx2
    obtain ⟨k0, k1, k2⟩ := hy
    exact ⟨u0, u1, u2, rfl, ⟨q1, k0⟩, ⟨q4, k1⟩, ⟨q7, k2⟩⟩
 | [], hfs => exact absurd hfs (by simp)
 | [_], hfs => exact absurd hfs (by simp)
 | [_, _], hfs => exact absurd hfs (by simp)
 | _ :: _ :: _ :: _ :: _, hfs => exact absurd hfs (by simp)
theorem uhw {W : World} (h : funcsAt Tryd.prog W "postil/proof.sides" (.agg [.agg [.iface "func" (.lit (.string [112, 111, 115, 116, 105, 108, 47, 112, 114, 111, 111, 102, 46, 115, 105, 100, 101, 115, 36, 49])), .iface "func" (.lit (.string [112, 111, 115, 116, 105, 108, 47, 112, 114, 111, 111, 102, 46, 115, 105, 100, 101, 115, 36, 50])), .iface "func" (.lit (.string [112, 111, 115, 116, 105, 108, 47, 112, 114, 111, 111, 102, 46, 115, 105, 100, 101, 115, 36, 51]))], .agg [.iface "func" (.lit (.string [112, 111, 115, 116, 105, 108, 47, 112, 114, 111, 111, 102, 46, 115, 105, 100, 101, 115, 36, 52])), .iface "func" (.lit (.string [112, 111, 115, 116, 105, 108, 47, 112, 114, 111, 111, 102, 46, 115, 105, 100, 101, 115, 36, 53])), .iface "func" (.lit (.string [112, 111, 115, 116, 105, 108, 47, 112, 114, 111, 111, 102, 46, 115, 105, 100, 101, 115, 36, 54]))]])) : R (jw W) W (.elem sidL) (.pointer (some ⟨0, 0, none⟩)) := by
 obtain ⟨g, t, cs, fuel, p, hg, ht, hv, hd⟩ := h
 obtain rfl := Option.some.inj (gSides.symm.trans hg)
 obtain rfl := Option.some.inj (tSides.symm.trans ht)
 obtain ⟨xs, m, _, e1, hl, hn, hel⟩ := DataW.trod_array ug4 hd
 rw [una] at hl
 rw [ue9] at hel
 have hcell := fun i => World.var?_cell hg hv i
 obtain ⟨l⟩ := cs
 dsimp only at hl hel hcell
 match l, hl with
 | [u0, u1, u2, u3, u4, u5], _ =>
  match xs, hn with
  | [x0, x1], _ =>
   simp only [Prod.mk.injEq] at e1
   have e2 : (.agg [.agg [.held [112, 111, 115, 116, 105, 108, 47, 112, 114, 111, 111, 102, 46, 115, 105, 100, 101, 115, 36, 49], .held [112, 111, 115, 116, 105, 108, 47, 112, 114, 111, 111, 102, 46, 115, 105, 100, 101, 115, 36, 50], .held [112, 111, 115, 116, 105, 108, 47, 112, 114, 111, 111, 102, 46, 115, 105, 100, 101, 115, 36, 51]], .agg [.held [112, 111, 115, 116, 105, 108, 47, 112, 114, 111, 111, 102, 46, 115, 105, 100, 101, 115, 36, 52], .held [112, 111, 115, 116, 105, 108, 47, 112, 114, 111, 111, 102, 46, 115, 105, 100, 101, 115, 36, 53], .held [112, 111, 115, 116, 105, 108, 47, 112, 114, 111, 111, 102, 46, 115, 105, 100, 101, 115, 36, 54]]] : DataW (List UInt8)) = .agg [x0.1, x1.1] := e1.1
   simp only [DataW.agg.injEq, List.cons.injEq, and_true] at e2
   obtain ⟨a0, a1, a2, q0, ⟨a3, a4⟩, ⟨a5, a6⟩, ⟨a7, a8⟩⟩ := ube e2.1.symm (hel 0 (by omega))
   obtain ⟨b0, b1, b2, q1, ⟨b3, b4⟩, ⟨b5, b6⟩, ⟨b7, b8⟩⟩ := ube e2.2.symm (hel 1 (by omega))
   simp only [Nat.zero_mul, Nat.one_mul, List.drop_zero, List.drop_succ_cons, List.take_succ_cons, List.take_zero, List.cons.injEq, and_true] at q0 q1
   obtain ⟨rfl, rfl, rfl⟩ := q0
   obtain ⟨rfl, rfl, rfl⟩ := q1
   obtain ⟨ps, rs, va, hu⟩ := ueh
   obtain ⟨ps', rs', va', hu'⟩ := uej
   obtain ⟨ps2, rs2, va2, hu2⟩ := uei
   obtain rfl := r6 (W := W) (f0 := 151) hu a3 a4 (by kernel_rfl)
   obtain rfl := r6 (W := W) (f0 := 152) hu' a5 a6 (by kernel_rfl)
   obtain rfl := r6 (W := W) (f0 := 153) hu2 a7 a8 (by kernel_rfl)
   obtain rfl := r6 (W := W) (f0 := 154) hu b3 b4 (by kernel_rfl)
   obtain rfl := r6 (W := W) (f0 := 155) hu' b5 b6 (by kernel_rfl)
   obtain rfl := r6 (W := W) (f0 := 156) hu2 b7 b8 (by kernel_rfl)
   let L : List Value := [.func (.func 151) #[] #[], .func (.func 152) #[] #[], .func (.func 153) #[] #[], .func (.func 154) #[] #[], .func (.func 155) #[] #[], .func (.func 156) #[] #[]]
   refine ume (by simp [sidL, oe]) (by intro c hc; simp only [sidL, oe, List.cons_append, List.nil_append, List.mem_cons, List.not_mem_nil, or_false] at hc; rcases hc with rfl | rfl | rfl | rfl | rfl | rfl <;> rfl) (fun j => L.getD j undef) (fun j hj => ?_) (fun j c hc => ?_)
   ·have := hcell j
    have hj' : j < 6 := hj
    rw [this]
    show (L.toArray)[j]? = _
    rw [List.getElem?_toArray, List.getD_eq_getElem?_getD, List.getElem?_eq_getElem (show j < L.length from hj')]
    rfl
   ·match j, hc with
    | 0, hc => cases hc; exact Rs.fn (vs := []) Rs.nil
    | 1, hc => cases hc; exact Rs.fn (vs := []) Rs.nil
    | 2, hc => cases hc; exact Rs.fn (vs := []) Rs.nil
    | 3, hc => cases hc; exact Rs.fn (vs := []) Rs.nil
    | 4, hc => cases hc; exact Rs.fn (vs := []) Rs.nil
    | 5, hc => cases hc; exact Rs.fn (vs := []) Rs.nil
abbrev uc : List (String × DataW Unit) := [("postil/proof.sides", Rows.laid_postil_proof_sides)]
set_option maxRecDepth 100000 in
/-- The door's own heap meets the condition. -/
theorem umr (os : Os) (args : Array Value) : laidMetH Tryd.prog uc ((World.doorLaid Tryd.prog 600 os).forCall (fun _ _ => 0) ⟨#[], args, []⟩).memory :=
 laidMetH_of_parts3 (fuel := 8) (laidMet_of_run' 8 (by kernel_rfl) (by kernel_rfl)) (by kernel_rfl) (by kernel_rfl)
theorem uhv {W : World} (h : laidMetH Tryd.prog uc W) : R (jw W) W (.elem sidL) (.pointer (some ⟨0, 0, none⟩)) := uhw (h.funcs (List.mem_cons_self ..))
end Go.Proofs.YtbbdginipiljdaaDoor
namespace Go.AB
open Go Go.RowKit Go.ChangeShapes Go.WideShapes
section
variable {H : Type} {enc : TypeId × Value → H} {P : Program} {w : World} {base : Nat} {spare : Nat → Bool} {held : Bool}
end
end Go.AB
