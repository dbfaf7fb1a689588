/-
  What the walks through the program rest on: values, states, steps, calls (RkTotal, RgSets, QpRef, QqRef, RlChief, SaAlive, PkGuess, SbFacts, SdSums, SfKnown, SjWhy, SkChief, OpenL, OpenW, OpenS, Trod).
-/
import Derived.Test.YtbbdginipiljdaaGreatDoorPartD
import Derived.Test.YtbbdginipiljdaaGreatDoorPartC
import Derived.Test.YtbbdginipiljdaaGreatDoorRows
import Derived.LaidMore
import Derived.RowKitVeiled
import Derived.Carry
namespace Go.AB
open Go Go.RowKit
open Go.AB.Enc (cells)
open Go.PB (aw ai PlaceD ba bf bd bn aq af cj bj cz c5)
theorem tq {p : af} {e : Int} (h : fa p e = 0) : e = 0 ∧ gd p = true := by
 by_cases h0 : e = 0
 ·subst h0
  rw [rk] at h
  cases ht : gd p
  ·rw [ht] at h; cases h
  exact ⟨rfl, rfl⟩
 rw [udn h0] at h; exact absurd h h0
end Go.AB
namespace Go.Proofs.YtbbdginipiljdaaGreatDoor
set_option maxRecDepth 10000
open Go Go.RowKit Go.AB
open Go.AB.Enc (cells)
open Go.PB (aw ai PlaceD ba bf bd bn aq af cj bj cz c5)
theorem uft {p : af} {n : Int} (h : ed p n = 0) : dg p ∧ pgC p n = .elem (j8 p) := ⟨(lg (qn h).1).1, sy h⟩
theorem pk {p : af} (h : cg p = 0) : dg p ∧ jl p = .elem (j8 p) := ⟨(lg h).1, vn h⟩
theorem s8 (n : Nat) (p : af) (c : C) (e : Int) (h : e = 0 → dg p ∧ c = .elem (j8 p)) (hE : fa p e = 0) : ei n eg Tryz.prog 41 [c, .v (.int .i64 e)] (.tup [val (f4 p (ck p) (cr p)), .v (.int .i64 0)]) := by
 have := ucf n p c e h
 rwa [hE, decide_eq_true rfl, cond_true] at this
theorem s9 (n : Nat) (p : af) (c : C) (e : Int) (h : e = 0 → dg p ∧ c = .elem (j8 p)) (hE : fa p e ≠ 0) : ei n eg Tryz.prog 41 [c, .v (.int .i64 e)] (.tup [.agg [.list [] .nil, .list [] .nil, .list [] .nil], .v (.int .i64 (fa p e))]) := by
 have := ucf n p c e h
 rwa [decide_eq_false hE, cond_false] at this
theorem ujo (n : Nat) (p : af) (m : Int) : ei n eg Tryz.prog 11 [val p, .v (.int .i64 m)] (.tup [val (pu p m), .v (.int .i64 (fa p (ed p m)))]) := fun G nx hF hnx => by
 refine g7 (G) (nx) Tryz.func11 rfl (.tup (cc (ec _ _) (cc .v da))) zN (fun hlt => zH) ?_
 simp only [Tryz.ntmps11, List.length_cons, List.length_nil, Nat.reduceAdd, Nat.reduceSub]
 refine bu fun hlt => ?_
 dsimp only at hlt
 refine yS fun _ K1 => ?_
 refine yR ?_
 try dsimp only [St.put]
 refine yB rfl rfl rfl ?_
 try dsimp only [St.put]
 refine ae rfl (dr rfl ?_)
 refine yA rfl rfl ?_
 refine yN ?_
 dsimp only [St.put]
 refine K1 _ ?_
 refine yS fun _ K2 => ?_
 by_cases hL : fa p (ed p m) = 0
 ·refine yR ?_
  refine yE rfl rfl rfl ?_
  refine yM rfl rfl ?_
  try dsimp only [St.put]
  refine ae rfl (dw rfl rfl rfl (ra n p m) zG (by dsimp only [St.put]; omega) ?_)
  refine yX rfl rfl rfl rfl ?_
  refine yX rfl rfl rfl rfl ?_
  try dsimp only [St.put]
  refine ae rfl (dw rfl rfl rfl (s8 n p (pgC p m) (ed p m) uft hL) zG (by dsimp only [St.put]; omega) ?_)
  refine yM rfl rfl ?_
  refine yX rfl rfl rfl rfl ?_
  refine yX rfl rfl rfl rfl ?_
  try dsimp only [St.put]
  refine ae rfl (dr rfl ?_)
  try dsimp only [St.put]
  refine ae rfl (c6 rfl rfl rfl zG rfl rfl (by rfl) ?_)
  refine yA rfl rfl ?_
  refine yN ?_
  dsimp only [St.put]
  refine K2 _ ?_
  refine yS fun _ K3 => ?_
  refine yS fun _ K4 => ?_
  refine yR ?_
  refine yM rfl rfl ?_
  refine aa rfl (et rfl rfl rfl) ?_
  refine yN ?_
  dsimp only [St.put]
  refine K4 _ ?_
  refine am rfl (fun hc => ?_) (fun hc => ?_)
  ·exact absurd hc (by decide)
  obtain ⟨h0, hTB⟩ := tq hL
  obtain ⟨hc0, j, x, rfl, hx, hpo⟩ := qn h0
  obtain ⟨hok, _⟩ := lg hc0
  have hV : pu p (j : Int) = ⟨0, (bi p).alone (ck p) (cr p) j⟩ := by unfold pu; rw [hL, ot, Int.toNat_natCast]
  refine av ?_
  refine K3 _ ?_
  refine yS fun _ K5 => ?_
  refine yR ?_
  try dsimp only [St.put]
  refine bz rfl (iu rfl rfl zG trivial (by rfl)) ?_
  refine yM rfl rfl ?_
  try dsimp only [St.put]
  refine ae rfl (ax rfl rfl rfl (uch p (ck p) (cr p) j x hok hx) ?_)
  refine aa rfl (ia rfl rfl) ?_
  try dsimp only [St.put]
  refine ae rfl (c6 rfl rfl rfl zG rfl rfl (by rfl) ?_)
  refine yA rfl rfl ?_
  refine yN ?_
  dsimp only [St.put]
  refine K5 _ ?_
  refine ar ?_
  refine gy rfl (jv rfl zG (by rfl) zC rfl) (dx (by constructor)) zN zS ?_ ?_
  ·rw [hV]; exact zW
  rw [hL]; exact zW
 refine yR ?_
 refine yE rfl rfl rfl ?_
 refine yM rfl rfl ?_
 try dsimp only [St.put]
 refine ae rfl (dw rfl rfl rfl (ra n p m) zG (by dsimp only [St.put]; omega) ?_)
 refine yX rfl rfl rfl rfl ?_
 refine yX rfl rfl rfl rfl ?_
 try dsimp only [St.put]
 refine ae rfl (dw rfl rfl rfl (s9 n p (pgC p m) (ed p m) uft hL) zG (by dsimp only [St.put]; omega) ?_)
 refine yM rfl rfl ?_
 refine yX rfl rfl rfl rfl ?_
 refine yX rfl rfl rfl rfl ?_
 try dsimp only [St.put]
 refine ae rfl (dr rfl ?_)
 try dsimp only [St.put]
 refine ae rfl (c6 rfl rfl rfl zG rfl rfl (by rfl) ?_)
 refine yA rfl rfl ?_
 refine yN ?_
 dsimp only [St.put]
 refine K2 _ ?_
 refine yS fun _ K6 => ?_
 refine yS fun _ K7 => ?_
 refine yR ?_
 refine yM rfl rfl ?_
 refine aa rfl (et rfl rfl rfl) ?_
 refine yN ?_
 dsimp only [St.put]
 refine K7 _ ?_
 refine am rfl (fun hc => ?_) (fun hc => ?_)
 ·have hV : pu p m = ⟨0, 0⟩ := by unfold pu; rw [lh hL]
  refine yS fun _ K8 => ?_
  refine yR ?_
  refine aa rfl (ia rfl rfl) ?_
  refine yM rfl rfl ?_
  try dsimp only [St.put]
  refine ae rfl (c6 rfl rfl rfl zG rfl rfl (by rfl) ?_)
  refine yA rfl rfl ?_
  refine yN ?_
  dsimp only [St.put]
  refine K8 _ ?_
  refine ar ?_
  refine gy rfl (jv rfl zG (by rfl) zC rfl) (dx (by constructor)) zN zS ?_ ?_
  ·rw [hV]; exact zW
  exact zW
 exact absurd (g3 hc) hL
theorem ujk (n : Nat) (p : af) : ei n eg Tryz.prog 13 [val p] (.tup [val (qu p), .v (.int .i64 (fa p (cg p)))]) := fun G nx hF hnx => by
 refine g7 (G) (nx) Tryz.func13 rfl (.tup (cc (ec _ _) (cc .v da))) zN (fun hlt => zH) ?_
 simp only [Tryz.ntmps13, List.length_cons, List.length_nil, Nat.reduceAdd, Nat.reduceSub]
 refine bu fun hlt => ?_
 dsimp only at hlt
 refine yS fun _ K1 => ?_
 refine yR ?_
 try dsimp only [St.put]
 refine yB rfl rfl rfl ?_
 try dsimp only [St.put]
 refine ae rfl (dr rfl ?_)
 refine yA rfl rfl ?_
 refine yN ?_
 dsimp only [St.put]
 refine K1 _ ?_
 refine yS fun _ K2 => ?_
 by_cases hL : fa p (cg p) = 0
 ·refine yR ?_
  refine yE rfl rfl rfl ?_
  try dsimp only [St.put]
  refine ae rfl (dw rfl rfl rfl (n1 n p) zG (by dsimp only [St.put]; omega) ?_)
  refine yX rfl rfl rfl rfl ?_
  refine yX rfl rfl rfl rfl ?_
  try dsimp only [St.put]
  refine ae rfl (dw rfl rfl rfl (s8 n p (jl p) (cg p) pk hL) zG (by dsimp only [St.put]; omega) ?_)
  refine yM rfl rfl ?_
  refine yX rfl rfl rfl rfl ?_
  refine yX rfl rfl rfl rfl ?_
  try dsimp only [St.put]
  refine ae rfl (dr rfl ?_)
  try dsimp only [St.put]
  refine ae rfl (c6 rfl rfl rfl zG rfl rfl (by rfl) ?_)
  refine yA rfl rfl ?_
  refine yN ?_
  dsimp only [St.put]
  refine K2 _ ?_
  refine yS fun _ K3 => ?_
  refine yS fun _ K4 => ?_
  refine yR ?_
  refine yM rfl rfl ?_
  refine aa rfl (et rfl rfl rfl) ?_
  refine yN ?_
  dsimp only [St.put]
  refine K4 _ ?_
  refine am rfl (fun hc => ?_) (fun hc => ?_)
  ·exact absurd hc (by decide)
  obtain ⟨h0, hTB⟩ := tq hL
  obtain ⟨hok, _⟩ := lg h0
  have hV : qu p = ⟨0, (bi p).most (ck p) (cr p)⟩ := by unfold qu; rw [hL, ot]; rfl
  refine av ?_
  refine K3 _ ?_
  refine yS fun _ K5 => ?_
  refine yR ?_
  try dsimp only [St.put]
  refine bz rfl (iu rfl rfl zG trivial (by rfl)) ?_
  try dsimp only [St.put]
  refine ae rfl (ax rfl rfl rfl (ta p (ck p) (cr p) hok (ug hok)) ?_)
  refine aa rfl (ia rfl rfl) ?_
  try dsimp only [St.put]
  refine ae rfl (c6 rfl rfl rfl zG rfl rfl (by rfl) ?_)
  refine yA rfl rfl ?_
  refine yN ?_
  dsimp only [St.put]
  refine K5 _ ?_
  refine ar ?_
  refine gy rfl (jv rfl zG (by rfl) zC rfl) (dx (by constructor)) zN zS ?_ ?_
  ·rw [hV]; exact zW
  rw [hL]; exact zW
 refine yR ?_
 refine yE rfl rfl rfl ?_
 try dsimp only [St.put]
 refine ae rfl (dw rfl rfl rfl (n1 n p) zG (by dsimp only [St.put]; omega) ?_)
 refine yX rfl rfl rfl rfl ?_
 refine yX rfl rfl rfl rfl ?_
 try dsimp only [St.put]
 refine ae rfl (dw rfl rfl rfl (s9 n p (jl p) (cg p) pk hL) zG (by dsimp only [St.put]; omega) ?_)
 refine yM rfl rfl ?_
 refine yX rfl rfl rfl rfl ?_
 refine yX rfl rfl rfl rfl ?_
 try dsimp only [St.put]
 refine ae rfl (dr rfl ?_)
 try dsimp only [St.put]
 refine ae rfl (c6 rfl rfl rfl zG rfl rfl (by rfl) ?_)
 refine yA rfl rfl ?_
 refine yN ?_
 dsimp only [St.put]
 refine K2 _ ?_
 refine yS fun _ K6 => ?_
 refine yS fun _ K7 => ?_
 refine yR ?_
 refine yM rfl rfl ?_
 refine aa rfl (et rfl rfl rfl) ?_
 refine yN ?_
 dsimp only [St.put]
 refine K7 _ ?_
 refine am rfl (fun hc => ?_) (fun hc => ?_)
 ·have hV : qu p = ⟨0, 0⟩ := by unfold qu; rw [lh hL]
  refine yS fun _ K8 => ?_
  refine yR ?_
  refine aa rfl (ia rfl rfl) ?_
  refine yM rfl rfl ?_
  try dsimp only [St.put]
  refine ae rfl (c6 rfl rfl rfl zG rfl rfl (by rfl) ?_)
  refine yA rfl rfl ?_
  refine yN ?_
  dsimp only [St.put]
  refine K8 _ ?_
  refine ar ?_
  refine gy rfl (jv rfl zG (by rfl) zC rfl) (dx (by constructor)) zN zS ?_ ?_
  ·rw [hV]; exact zW
  exact zW
 exact absurd (g3 hc) hL
set_option maxHeartbeats 1000000 in
theorem ye (n0 : Nat) (p : af) : ei n0 eg Tryz.prog 15 [val p] (.tup [lst (mp p), .v (.int .i64 (fa p (cg p)))]) := fun G nx hF hnx => by
 refine g7 (G) (nx) Tryz.func15 rfl (.tup (cc (br _ _) (cc .v da))) zN (fun hlt => zH) ?_
 simp only [Tryz.ntmps15, List.length_cons, List.length_nil, Nat.reduceAdd, Nat.reduceSub]
 refine bu fun hlt => ?_
 dsimp only at hlt
 refine yS fun _ K1 => ?_
 refine yR ?_
 try dsimp only [St.put]
 refine yB rfl rfl rfl ?_
 refine yA rfl rfl ?_
 refine yA rfl rfl ?_
 refine yN ?_
 dsimp only [St.put]
 refine K1 _ ?_
 refine yS fun _ K2 => ?_
 by_cases hL : fa p (cg p) = 0
 ·refine yR ?_
  refine yE rfl rfl rfl ?_
  try dsimp only [St.put]
  refine ae rfl (dw rfl rfl rfl (n1 n0 p) zG (by dsimp only [St.put]; omega) ?_)
  refine yX rfl rfl rfl rfl ?_
  refine yX rfl rfl rfl rfl ?_
  try dsimp only [St.put]
  refine ae rfl (dw rfl rfl rfl (s8 n0 p (jl p) (cg p) pk hL) zG (by dsimp only [St.put]; omega) ?_)
  refine yM rfl rfl ?_
  refine yX rfl rfl rfl rfl ?_
  refine yX rfl rfl rfl rfl ?_
  try dsimp only [St.put]
  refine ae rfl (dr rfl ?_)
  try dsimp only [St.put]
  refine ae rfl (c6 rfl rfl rfl zG rfl rfl (by rfl) ?_)
  refine yA rfl rfl ?_
  refine yN ?_
  dsimp only [St.put]
  refine K2 _ ?_
  refine yS fun _ K3 => ?_
  refine yS fun _ K4 => ?_
  refine yR ?_
  refine yM rfl rfl ?_
  refine aa rfl (et rfl rfl rfl) ?_
  refine yN ?_
  dsimp only [St.put]
  refine K4 _ ?_
  refine am rfl (fun hc => ?_) (fun hc => ?_)
  ·exact absurd hc (by decide)
  obtain ⟨h0, hTB⟩ := tq hL
  obtain ⟨hok, _⟩ := lg h0
  have hnp := hok.np
  have hV : mp p = bh p.pages.length (fp p) := by unfold mp; rw [hL, ot]
  refine av ?_
  refine K3 _ ?_
  refine yS fun _ K5 => ?_
  refine yR ?_
  refine yA rfl rfl ?_
  refine yN ?_
  dsimp only [St.put]
  refine K5 _ ?_
  refine oo 6 3 1 rfl (by decide) ?_
  dsimp only [List.set_cons_zero, List.set_cons_succ]
  refine yS fun _ K6 => ?_
  refine yS fun _ K7 => ?_
  refine yR ?_
  refine yF rfl rfl rfl rfl ?_
  refine yL rfl rfl rfl ?_
  refine aa rfl (bg rfl rfl (List.length_map _)) ?_
  refine yM rfl rfl ?_
  refine yN ?_
  dsimp only [St.put]
  refine K7 _ ?_
  refine az ?_
  refine ce 25 ?_
  refine zQ ?_
  refine cy ((ak (ak G nx (.box (0 + 1) (cells (f4 p (rmR p 0) (rmC p 0))))) (nx + 1) (.tip (bh 0 (fp p)).length 3 1))) zX ?_
  dsimp only
  refine cx (X := Nat) (fun i => i ≤ p.pages.length) (fun i => p.pages.length - i) (fun i => [(6, .list ((bh i (fp p)).map cells) (.tip (nx + 1))), (7, .any), (8, .any), (9, .any), (24, .v (.int .i64 (i : Int)))]) (fun i G' => (ak (ak G nx (.box (i + 1) (cells (f4 p (rmR p i) (rmC p i))))) (nx + 1) (.tip (bh i (fp p)).length 3 1))) 0 rfl ?_ ?_ ?_ ?_ ?_ ?_
  ·exact Nat.zero_le _
  ·exact zF
  ·exact zX
  ·rintro i hI
   exact zL
  ·rintro i hI
   exact zH
  rintro i hI
  dsimp only at hI ⊢
  refine yS fun _ K8 => ?_
  refine yR ?_
  refine aa rfl (cb rfl rfl rfl) ?_
  refine yN ?_
  dsimp only [St.put]
  refine K8 _ ?_
  refine yS fun _ K9 => ?_
  refine am rfl (fun hc => ?_) (fun hc => ?_)
  ·replace hc := of_decide_eq_true hc
   have hi : i < p.pages.length := by omega
   obtain ⟨x, hx⟩ : ∃ x, p.pages[i]? = some x := c7 hi
   have hB := ubu hok hTB (Nat.le_of_lt hi)
   have hP := uao hok hTB hi
   have hab := uoa hB i
   have hmb := uc6 hB
   have hln := gk i (fp p)
   have hPn := hP.nn
   refine av ?_
   refine K9 _ ?_
   refine yS fun _ K10 => ?_
   refine az ?_
   refine yS fun _ K11 => ?_
   refine yR ?_
   refine yM rfl rfl ?_
   refine yA rfl rfl ?_
   refine yN ?_
   dsimp only [St.put]
   refine K11 _ ?_
   refine yS fun _ K12 => ?_
   refine gu [(0, none), (2, none), (3, none), (1, none), (4, none), (5, none), (6, none)] (fun i => [4].contains i) (fun i => [1, 4].contains i) (fun i => [3, 5, 6].contains i) [nx] (by kernel_rfl) (by kernel_rfl) ?_
   try dsimp only [St.put]
   refine ay rfl rfl rfl rfl (iu rfl rfl zG (by simp) (by rfl)) ?_
   try dsimp only [St.put]
   refine ay rfl rfl rfl rfl (iu rfl rfl zG (by simp) (by rfl)) ?_
   refine xM rfl rfl rfl rfl rfl ?_
   refine jg ?_
   try dsimp only [St.put]
   refine jz rfl rfl rfl (ax rfl rfl rfl (ta p _ _ hok hB) ⟨zD, ?_⟩)
   try dsimp only [St.put]
   refine il rfl rfl rfl rfl (ax rfl rfl rfl (uch p (rmR p i) (rmC p i) i x hok hx) ?_)
   refine ef rfl rfl rfl rfl (fh rfl (by constructor)) ?_
   refine ef rfl rfl rfl rfl (fh rfl (by constructor)) ?_
   refine jf ?_
   dsimp only [St.put]
   refine K12 _ ?_
   refine yS fun _ K13 => ?_
   refine az ?_
   refine ce 25 ?_
   refine zQ ?_
   refine cx (X := Int) (fun n => FromTop p (rmR p i) (rmC p i) i n) (fun n => n.toNat) (fun n => [(9, .v (.int .i64 n))]) (fun n G' => G') ((bi p).alone (rmR p i) (rmC p i) i) rfl ?_ ?_ (fun _ _ h => h) ?_ ?_ ?_
   ·exact FromTop.start hP
   ·exact zF
   ·rintro n hI
    exact zL
   ·exact fun _ _ _ _ h => .inl h
   rintro n hF2
   dsimp only at hF2 ⊢
   have hF1 := hF2.1
   have hF3 := hF2.2.1
   have hBl := uac hB (by omega) hF2.2.1
   have hmb2 := uc6 hBl
   refine yS fun _ K14 => ?_
   refine yS fun _ K15 => ?_
   refine yR ?_
   refine yM rfl rfl ?_
   try dsimp only [St.put]
   refine bz rfl (iu rfl rfl zG trivial (by rfl)) ?_
   refine yM rfl rfl ?_
   refine yM rfl rfl ?_
   try dsimp only [St.put]
   refine ae rfl (ax rfl rfl rfl (yf p (rmR p i) (rmC p i) i x n hok hx (by have := hF2.1; have := hF2.2.1; omega) hB.r) ?_)
   try dsimp only [St.put]
   refine ae rfl (ax rfl rfl rfl (ta p _ _ hok (uac hB (by have := hF2.1; omega) hF2.2.1)) ?_)
   refine aa rfl (bq rfl rfl rfl (by omega)) ?_
   refine yM rfl rfl ?_
   refine aa rfl (cb rfl rfl rfl) ?_
   refine yN ?_
   dsimp only [St.put]
   refine K15 _ ?_
   refine am rfl (fun hc => ?_) (fun hc => ?_)
   ·replace hc := of_decide_eq_true hc
    have hnot : ¬ (bi p).most (rmR p i) (rmC p i) ≤ n + (bi p).most ((bi p).lessR (rmR p i) i n) (dq (rmC p i) i) := by omega
    refine av ?_
    refine K14 _ ?_
    refine az ?_
    refine yR ?_
    refine yM rfl rfl ?_
    refine aa rfl (f7 rfl rfl rfl (by omega)) ?_
    refine yA rfl rfl ?_
    refine yN ?_
    dsimp only [St.put]
    have hd := FromTop.down hP hF2 hnot
    have hd1 := hd.1
    exact ⟨n - 1, by omega, hd, ⟨⟨rfl, rfl⟩, zF, zB, zN, zX⟩⟩
   replace hc := of_decide_eq_false hc
   have hnw := FromTop.stop hP hF2 (by omega)
   rw [← uap] at hnw
   subst hnw
   refine cv ?_
   refine K13 _ ?_
   refine yS fun _ K16 => ?_
   refine yR ?_
   try dsimp only [St.put]
   refine bz rfl (iu rfl rfl zG trivial (by rfl)) ?_
   refine yM rfl rfl ?_
   refine yM rfl rfl ?_
   try dsimp only [St.put]
   refine ae rfl (ax rfl rfl rfl (yf p (rmR p i) (rmC p i) i x (fp p i) hok hx (by have := hF2.1; have := hF2.2.1; omega) hB.r) ?_)
   try dsimp only [St.put]
   refine ae rfl (c6 rfl rfl rfl zG rfl rfl (by rfl) ?_)
   refine yN ?_
   dsimp only [St.put]
   refine K16 _ ?_
   refine yR ?_
   refine yM rfl rfl ?_
   refine yM rfl rfl ?_
   try dsimp only [St.put]
   refine ae rfl (dj rfl rfl rfl (by decide) (by decide) zR (by decide) ?_)
   try dsimp only [St.put]
   refine ae rfl (jc ([fp p i]) rfl rfl zG zE rfl rfl zA ?_ zA)
   refine yA rfl rfl ?_
   refine yN ?_
   dsimp only [St.put]
   refine K10 _ ?_
   refine yR ?_
   refine aa rfl (bq rfl rfl rfl (by omega)) ?_
   refine yM rfl rfl ?_
   refine yN ?_
   dsimp only [St.put]
   have e := pq i (fp p)
   rw [← e]
   exact ⟨i + 1, by omega, by omega, ⟨⟨rfl, rfl⟩, zF, zB, zN, zX⟩⟩
  replace hc := of_decide_eq_false hc
  obtain rfl : i = p.pages.length := by omega
  refine cv ?_
  refine K6 _ ?_
  refine yS fun _ K17 => ?_
  refine yR ?_
  refine yM rfl rfl ?_
  refine yA rfl rfl ?_
  refine yA rfl rfl ?_
  refine yN ?_
  dsimp only [St.put]
  refine K17 _ ?_
  refine ar ?_
  refine gy rfl (dx (by constructor)) (dx (by constructor)) zN zS ?_ ?_
  ·rw [hV]; exact zW
  rw [hL]; exact zW
 refine yR ?_
 refine yE rfl rfl rfl ?_
 try dsimp only [St.put]
 refine ae rfl (dw rfl rfl rfl (n1 n0 p) zG (by dsimp only [St.put]; omega) ?_)
 refine yX rfl rfl rfl rfl ?_
 refine yX rfl rfl rfl rfl ?_
 try dsimp only [St.put]
 refine ae rfl (dw rfl rfl rfl (s9 n0 p (jl p) (cg p) pk hL) zG (by dsimp only [St.put]; omega) ?_)
 refine yM rfl rfl ?_
 refine yX rfl rfl rfl rfl ?_
 refine yX rfl rfl rfl rfl ?_
 try dsimp only [St.put]
 refine ae rfl (dr rfl ?_)
 try dsimp only [St.put]
 refine ae rfl (c6 rfl rfl rfl zG rfl rfl (by rfl) ?_)
 refine yA rfl rfl ?_
 refine yN ?_
 dsimp only [St.put]
 refine K2 _ ?_
 refine yS fun _ K18 => ?_
 refine yS fun _ K19 => ?_
 refine yR ?_
 refine yM rfl rfl ?_
 refine aa rfl (et rfl rfl rfl) ?_
 refine yN ?_
 dsimp only [St.put]
 refine K19 _ ?_
 refine am rfl (fun hc => ?_) (fun hc => ?_)
 ·have hV : mp p = [] := by unfold mp; rw [lh hL]
  refine yS fun _ K20 => ?_
  refine yR ?_
  refine yM rfl rfl ?_
  refine yA rfl rfl ?_
  refine yA rfl rfl ?_
  refine yN ?_
  dsimp only [St.put]
  refine K20 _ ?_
  refine ar ?_
  refine gy rfl (dx (by constructor)) (dx (by constructor)) zN zS ?_ ?_
  ·rw [hV]; exact zW
  exact zW
 exact absurd (g3 hc) hL
end Go.Proofs.YtbbdginipiljdaaGreatDoor
namespace Go.Proofs.YtbbdginipiljdaaGreatDoor
set_option maxRecDepth 10000
open Go Go.RowKit Go.AB
open Go.AB.Enc (cells)
open Go.PB (aw ai PlaceD ba bf bd bn aq af cj bj cz c5)
set_option maxHeartbeats 1000000 in
theorem uh7 (nF : Nat) (n : Nat) (hb : n ≤ 8) : xc nF eg Tryz.prog 89 [.elem [.v (.int .i64 (n : Int))]] (2 ^ n) (fun s => [.v (.int .i64 (s : Int)), lst (cd n s)]) := by
 refine udw Tryz.func89 rfl rfl fun I hN hcl ok hG hn => ?_
 simp only [Tryz.ntmps89, List.length_cons, List.length_nil, Nat.reduceAdd, Nat.reduceSub]
 have h256 : 2 ^ n ≤ 2 ^ 8 := Nat.pow_le_pow_right (by omega) hb
 refine kg 2 ?_
 refine zQ ?_
 refine pf ?_
 dsimp only [FC.st]
 refine bu fun hlt => ?_
 dsimp only at hlt
 refine ix ?_
 try dsimp only [St.put]
 first | refine bz rfl (ca rfl rfl) ?_ | refine bz rfl (ep rfl rfl (Enc.len _)) ?_ | refine bz rfl (ep rfl rfl rfl) ?_ | refine bz rfl (fe rfl rfl zG trivial (by first | rfl | assumption)) ?_ | refine bz rfl (iu rfl rfl zG trivial (by rfl)) ?_ | refine bz rfl (pr rfl rfl zG trivial (by simp)) ?_ | refine bz rfl (ku rfl rfl zG trivial (qg (by assumption) rfl)) ?_ | refine bz rfl (ku rfl rfl zG trivial (by assumption)) ?_ | refine bz rfl (qx rfl rfl zG trivial rfl (by assumption) rfl (by decide)) ?_ | refine bz rfl (mw rfl rfl zG (by rfl)) ?_
 refine aa rfl (vt (n := n) rfl rfl rfl (by omega)) ?_
 refine aa rfl (gq rfl (by constructor)) ?_
 refine iy ?_
 dsimp only [St.put]
 show j0 _ _ _ _ _ _ _
 refine pg ok rfl ⟨rfl, rfl, zK, zN, zS, zK⟩ ?_
 refine rn ?_
 refine kg 9 ?_
 refine zQ ?_
 refine zj (X := Nat) (fun s => s ≤ 2 ^ n) (fun s => 2 ^ n - s) (fun s => [(3, .any), (4, .any), (5, .any), (8, .v (.int .i64 (s : Int)))]) (fun s => s) 0 rfl ?_ ?_ ?_ ?_ ?_
 ·exact Nat.zero_le _
 ·exact zF
 ·rfl
 ·rintro s hI
  exact zL
 ·rintro s hI
  dsimp only at hI ⊢
  refine kg 9 ?_
  refine zQ ?_
  refine pf ?_
  dsimp only [FC.st]
  refine bu fun hlt => ?_
  dsimp only at hlt
  refine ix ?_
  refine aa rfl (cb rfl rfl rfl) ?_
  refine iy ?_
  dsimp only [St.put]
  show j0 _ _ _ _ _ _ _
  refine pg ok rfl ⟨rfl, rfl, zK, zN, zS, zK⟩ ?_
  refine pd fun K1 hK1 => ?_
  refine t8 rfl (fun hc => ?_) (fun hc => ?_)
  ·replace hc := of_decide_eq_true hc
   have hs : s < 2 ^ n := by omega
   refine t7 ?_
   refine hK1 _ _ ?_
   refine pd fun K2 hK2 => ?_
   refine rn ?_
   refine kg 9 ?_
   refine zQ ?_
   refine pf ?_
   dsimp only [FC.st]
   refine bu fun hlt => ?_
   dsimp only at hlt
   refine ix ?_
   refine aa rfl (gq rfl (by constructor)) ?_
   refine aa rfl (fh rfl (by constructor)) ?_
   refine iy ?_
   dsimp only [St.put]
   show j0 _ _ _ _ _ _ _
   refine wl ?_
   refine ix ?_
   refine aa rfl (fh rfl (by constructor)) ?_
   refine iy ?_
   dsimp only [St.put]
   show j0 _ _ _ _ _ _ _
   refine wl ?_
   refine oo 4 3 1 rfl (by decide) ?_
   dsimp only [List.set_cons_zero, List.set_cons_succ]
   refine qm fun K3 hK3 => ?_
   refine ix ?_
   try dsimp only [St.put]
   first | refine bz rfl (ca rfl rfl) ?_ | refine bz rfl (ep rfl rfl (Enc.len _)) ?_ | refine bz rfl (ep rfl rfl rfl) ?_ | refine bz rfl (fe rfl rfl zG trivial (by first | rfl | assumption)) ?_ | refine bz rfl (iu rfl rfl zG trivial (by rfl)) ?_ | refine bz rfl (pr rfl rfl zG trivial (by simp)) ?_ | refine bz rfl (ku rfl rfl zG trivial (qg (by assumption) rfl)) ?_ | refine bz rfl (ku rfl rfl zG trivial (by assumption)) ?_ | refine bz rfl (qx rfl rfl zG trivial rfl (by assumption) rfl (by decide)) ?_ | refine bz rfl (mw rfl rfl zG (by rfl)) ?_
   refine aa rfl (gq rfl (by constructor)) ?_
   refine iy ?_
   dsimp only [St.put]
   refine hK3 _ ?_
   refine az ?_
   refine ce 13 ?_
   refine zQ ?_
   refine cy ((ak (I.G s) I.nx (.tip (cd 0 s).length 3 1))) zX ?_
   dsimp only
   refine cx (X := Nat) (fun k => k ≤ n) (fun k => n - k) (fun k => [(4, .list ((cd k s).map cells) (.tip I.nx)), (5, .any), (12, .v (.int .i64 (k : Int)))]) (fun k G' => (ak (I.G s) I.nx (.tip (cd k s).length 3 1))) 0 rfl ?_ ?_ ?_ ?_ ?_ ?_
   ·exact Nat.zero_le _
   ·exact zF
   ·exact zX
   ·rintro k hI
    exact zL
   ·rintro k hI
    exact zH
   ·rintro k hK
    dsimp only at hK ⊢
    refine qm fun K4 hK4 => ?_
    refine ix ?_
    refine aa rfl (cb rfl rfl rfl) ?_
    refine iy ?_
    dsimp only [St.put]
    refine hK4 _ ?_
    refine qm fun K5 hK5 => ?_
    refine am rfl (fun hc => ?_) (fun hc => ?_)
    ·replace hc := of_decide_eq_true hc
     have hml := m5 k s
     refine av ?_
     refine hK5 _ ?_
     refine qm fun K6 hK6 => ?_
     refine az ?_
     refine qm fun K7 hK7 => ?_
     refine ix ?_
     refine aa rfl (gq rfl (by constructor)) ?_
     refine aa rfl (fh rfl (by constructor)) ?_
     refine iy ?_
     dsimp only [St.put]
     refine hK7 _ ?_
     refine qm fun K8 hK8 => ?_
     refine ix ?_
     refine aa rfl (gq rfl (by constructor)) ?_
     refine aa rfl (gq rfl (by constructor)) ?_
     refine aa rfl (vr (m := s) (n := k) rfl rfl rfl (by show k ≤ 64; omega) (by show (s : Int) ≤ 9223372036854775807; omega) (by decide)) ?_
     refine aa rfl (vw (m := s / 2 ^ k) rfl rfl rfl (Nat.lt_of_le_of_lt (Nat.div_le_self _ _) (by show s < 2 ^ 64; omega)) (by decide)) ?_
     refine aa rfl (fg rfl rfl rfl) ?_
     refine iy ?_
     dsimp only [St.put]
     refine hK8 _ ?_
     refine am rfl (fun hc => ?_) (fun hc => ?_)
     ·have hb1 : s.testBit k = true := bit_eq.1 (of_decide_eq_true hc)
      refine ix ?_
      refine aa rfl (gq rfl (by constructor)) ?_
      refine aa rfl (gq rfl (by constructor)) ?_
      try dsimp only [St.put]
      refine ae rfl (dj rfl rfl rfl (by decide) (by decide) zR (by decide) ?_)
      try dsimp only [St.put]
      refine ae rfl (jc ([(k : Int)]) rfl rfl zG zE rfl rfl zA ?_ zA)
      refine aa rfl (fh rfl (by constructor)) ?_
      refine iy ?_
      dsimp only [St.put]
      refine hK6 _ ?_
      refine ix ?_
      first | refine aa rfl (bq rfl rfl rfl (by omega)) ?_ | refine aa rfl (th rfl rfl rfl) ?_
      refine aa rfl (gq rfl (by constructor)) ?_
      refine iy ?_
      dsimp only [St.put]
      have e := vx k s
      first
      | (have q : s.testBit k = true := hb1
         rw [q, cond_true] at e
         rw [← e]
         exact ⟨k + 1, by omega, by omega, ⟨⟨rfl, rfl⟩, zF, zB, zN, zX⟩⟩)
      | (have q : s.testBit k = false := hb0
         rw [q, cond_false, List.append_nil] at e
         rw [← e]
         exact ⟨k + 1, by omega, by omega, ⟨⟨rfl, rfl⟩, zF, zB, zN, zX⟩⟩)
     ·have hb0 : s.testBit k = false := by
       have := of_decide_eq_false hc
       rw [bit_eq, Bool.not_eq_true] at this
       exact this
      refine av ?_
      refine hK6 _ ?_
      refine ix ?_
      first | refine aa rfl (bq rfl rfl rfl (by omega)) ?_ | refine aa rfl (th rfl rfl rfl) ?_
      refine aa rfl (gq rfl (by constructor)) ?_
      refine iy ?_
      dsimp only [St.put]
      have e := vx k s
      first
      | (have q : s.testBit k = true := hb1
         rw [q, cond_true] at e
         rw [← e]
         exact ⟨k + 1, by omega, by omega, ⟨⟨rfl, rfl⟩, zF, zB, zN, zX⟩⟩)
      | (have q : s.testBit k = false := hb0
         rw [q, cond_false, List.append_nil] at e
         rw [← e]
         exact ⟨k + 1, by omega, by omega, ⟨⟨rfl, rfl⟩, zF, zB, zN, zX⟩⟩)
    ·replace hc := of_decide_eq_false hc
     obtain rfl : k = n := by omega
     refine w5 4 (lst (cd k s)) rfl Wk.tok ?_
     refine cv ?_
     show j0 _ _ _ _ _ _ _
     refine pg ok rfl ⟨rfl, rfl, zK, zN, zS, zK⟩ ?_
     refine pd fun K9 hK9 => ?_
     refine ud5 ?_
     refine qf rfl (gq rfl (by constructor)) ?_
     refine qf rfl (gq rfl (by constructor)) ?_
     refine qf rfl (gq rfl (by constructor)) ?_
     try dsimp only [St.put]
     refine ud8 ok (by rw [hN]; exact hs) rfl rfl rfl rfl (by rw [hcl]; rfl) ?_
     refine qf rfl (dl rfl rfl) ?_
     refine ud9 ?_
     dsimp only [St.put]
     refine hK9 _ _ ?_
     refine t8 rfl (fun h => by cases h) (fun _ => ?_)
     refine t7 ?_
     refine hK2 _ _ ?_
     refine kg 9 ?_
     refine zQ ?_
     refine zi ok rfl ?_
     dsimp only [FC.st]
     refine bu fun hlt => ?_
     dsimp only at hlt
     refine ix ?_
     first | refine aa rfl (bq rfl rfl rfl (by omega)) ?_ | refine aa rfl (th rfl rfl rfl) ?_
     refine aa rfl (gq rfl (by constructor)) ?_
     refine iy ?_
     dsimp only [St.put]
     refine ⟨⟨rfl, rfl, zK, zN, zS, zK⟩, ?_⟩
     exact ⟨s + 1, by omega, by omega, rfl, ⟨⟨rfl, rfl⟩, zF, zB, zN, zX⟩⟩
  ·replace hc := of_decide_eq_false hc
   obtain rfl : s = 2 ^ n := by omega
   refine zk ?_
   exact ⟨.inl rfl, rfl⟩
end Go.Proofs.YtbbdginipiljdaaGreatDoor
namespace Go.AB
open Go Go.RowKit
open Go.AB.Enc (cells)
open Go.PB (aw ai PlaceD ba bf bd bn aq af cj bj cz c5)
theorem unz {so : Nat → Bool} {n k : Nat} : ((ez so n k).getD []).length ≤ n := by
 rcases uf so n k with ⟨h, _⟩ | ⟨b, h, k⟩
 ·rw [h]; exact Nat.zero_le _
 rw [h]
 obtain ⟨s, _, _, rfl⟩ := k.get
 exact m5 n s
theorem unx {so : Nat → Bool} {n k : Nat} (h : so k = false) : ez so n (k + 1) = ez so n k := by
 cases hb : ez so n k with
 | none => rw [ufj hb, h]; rfl
 | some b => rw [z7 hb, h]; rfl
theorem un0 {so : Nat → Bool} {n k : Nat} (hb : ez so n k = none) (h : so k = true) : ez so n (k + 1) = some (cd n k) := by rw [ufj hb, h]; rfl
theorem uny {so : Nat → Bool} {n k : Nat} {b : List Int} (hb : ez so n k = some b) (h : so k = true) : ez so n (k + 1) = bif gt (cd n k) b then some (cd n k) else some b := by rw [z7 hb, h]; rfl
theorem uay {α : Type} {l : List α} {k : Nat} {x : α} (h : l[k]? = some x) : l.take (k + 1) = l.take k ++ [x] := by rw [List.take_add_one, h]; rfl
theorem ugw (p : af) (l : List Int) (z : Int) : nk p (l ++ [z]) = nk p l ++ bif decide (z < (p.firsts.length : Int)) then [z] else [] := by
 unfold nk
 rw [List.filter_append]
 cases h : decide (z < (p.firsts.length : Int)) <;> simp [h]
theorem ugt (p : af) (l : List Int) (z : Int) : mr p (l ++ [z]) = mr p l ++ bif decide (z < (p.firsts.length : Int)) then [] else [z - (p.firsts.length : Int)] := by
 unfold mr
 rw [List.filter_append, List.map_append]
 cases h : decide (z < (p.firsts.length : Int)) <;> simp [h]
theorem ugx (p : af) (l : List Int) : (nk p l).length ≤ l.length := List.length_filter_le _ _
theorem ugu (p : af) (l : List Int) : (mr p l).length ≤ l.length := by
 unfold mr
 rw [List.length_map]
 exact List.length_filter_le _ _
theorem ugv {p : af} {z : Int} (h : z ∈ g6 p) : 0 ≤ z ∧ z < (bv p : Int) := by
 unfold g6 jy at h
 rcases uf (qt p) (bv p) (2 ^ bv p) with ⟨q, _⟩ | ⟨b, q, k⟩
 ·rw [q] at h; cases h
 rw [q] at h
 obtain ⟨s, _, _, rfl⟩ := k.get
 obtain ⟨i, rfl, hi, _⟩ := membersL_mem.1 h
 omega
end Go.AB
namespace Go.Proofs.YtbbdginipiljdaaGreatDoor
set_option maxRecDepth 10000
open Go.RowKit Go.AB
open Go.AB.Enc (cells)
open Go.PB (aw ai PlaceD ba bf bd bn aq af cj bj cz c5)
end Go.Proofs.YtbbdginipiljdaaGreatDoor
namespace Go.AB
open Go Go.RowKit
open Go.AB.Enc (cells)
open Go.PB (aw ai PlaceD ba bf bd bn aq af cj bj cz c5)
theorem unw {so : Nat → Bool} {n k : Nat} {b : List Int} (hb : ez so n k = some b) (h : gt (cd n k) b = false) : ez so n (k + 1) = some b := by rw [z7 hb, h, Bool.and_false]; rfl
theorem ufm {p : af} {R C : Nat → Int} (h : Bd p R C) (l : List Int) : Bd p R (gw C l) := ⟨h.r, fun j => by
 have := h.c j
 unfold gw
 cases decide ((j : Int) ∈ l)
 ·exact this
 exact ⟨Int.le_refl _, by show (0 : Int) ≤ 1000000; omega⟩, h.nr, h.np⟩
theorem unj {p : af} {m : Int} (h : cg p ≠ 0) : iw p m = cg p := by unfold iw; rw [decide_eq_false h]; rfl
theorem uni {p : af} {m : Int} (h : cg p = 0) (hm : m < 0) : iw p m = 2 := by unfold iw; rw [decide_eq_true h, decide_eq_true hm]; rfl
theorem ufa {p : af} {m : Int} (h : cg p = 0) (hm : ¬ m < 0) (ht : gd p = false) : iw p m = 8 := by unfold iw; rw [decide_eq_true h, decide_eq_false hm, ht]; rfl
theorem ue9 {p : af} {m : Int} (h : cg p = 0) (hm : ¬ m < 0) (ht : gd p = true) : iw p m = 0 := by unfold iw; rw [decide_eq_true h, decide_eq_false hm, ht]; rfl
end Go.AB
namespace Go.Proofs.YtbbdginipiljdaaGreatDoor
set_option maxRecDepth 10000
open Go.RowKit Go.AB
open Go.AB.Enc (cells)
open Go.PB (aw ai PlaceD ba bf bd bn aq af cj bj cz c5)
end Go.Proofs.YtbbdginipiljdaaGreatDoor
namespace Go.AB
open Go Go.RowKit
open Go.AB.Enc (cells)
open Go.PB (aw ai PlaceD ba bf bd bn aq af cj bj cz c5)
/-- whether a set is taken, and how often one was -/
def kp (so : Nat → Bool) (n k : Nat) : Bool := so k && match ez so n k with
 | none => true
 | some b => gt (cd n k) b
def l3 (so : Nat → Bool) (n : Nat) : Nat → Nat
 | 0 => 0
 | k + 1 => l3 so n k + (kp so n k).toNat
theorem xl {so : Nat → Bool} {n k : Nat} (h : kp so n k = true) : ez so n (k + 1) = some (cd n k) ∧ l3 so n (k + 1) = l3 so n k + 1 := by
 refine ⟨?_, by show l3 so n k + (kp so n k).toNat = _; rw [h]; rfl⟩
 unfold kp at h
 rw [Bool.and_eq_true] at h
 cases hb : ez so n k with
 | none => exact un0 hb h.1
 | some b =>
  have h2 := h.2
  rw [hb] at h2
  have h3 : gt (cd n k) b = true := h2
  rw [uny hb h.1, h3]; rfl
theorem xm {so : Nat → Bool} {n k : Nat} (h : kp so n k = false) : ez so n (k + 1) = ez so n k ∧ l3 so n (k + 1) = l3 so n k := by
 refine ⟨?_, by show l3 so n k + (kp so n k).toNat = _; rw [h]; rfl⟩
 unfold kp at h
 cases hs : so k
 ·exact unx hs
 rw [hs, Bool.true_and] at h
 cases hb : ez so n k with
 | none => rw [hb] at h; cases h
 | some b =>
  rw [hb] at h
  have h3 : gt (cd n k) b = false := h
  rw [unw hb h3]
theorem uhc {so : Nat → Bool} {n k : Nat} (h : so k = false) : kp so n k = false := by unfold kp; rw [h]; rfl
theorem uhd {so : Nat → Bool} {n k : Nat} (h : so k = true) (hb : ez so n k = none) : kp so n k = true := by unfold kp; rw [h, hb]; rfl
theorem uu {so : Nat → Bool} {n k : Nat} {b : List Int} (h : so k = true) (hb : ez so n k = some b) : kp so n k = gt (cd n k) b := by unfold kp; rw [h, hb]; rfl
end Go.AB
namespace Go.Proofs.YtbbdginipiljdaaGreatDoor
set_option maxRecDepth 10000
open Go Go.RowKit Go.AB
open Go.AB.Enc (cells)
open Go.PB (aw ai PlaceD ba bf bd bn aq af cj bj cz c5)
theorem ubh (m : Nat) : Pure Tryz.prog 54 [.v (.int .i64 (m : Int))] (.fn (.func 89) [.elem [.v (.int .i64 (m : Int))]]) := by
 refine ct Tryz.func54 rfl (fun m => (.fn (cc (.elem (cc .v da)) da))) fun G nx => ?_
 simp only [Tryz.ntmps54, List.length_cons, List.length_nil, Nat.reduceAdd, Nat.reduceSub]
 refine bu fun hlt => ?_
 dsimp only at hlt
 refine yS fun _ K1 => ?_
 refine yR ?_
 try dsimp only [St.put]
 refine yB rfl rfl rfl ?_
 refine yA rfl rfl ?_
 refine yN ?_
 dsimp only [St.put]
 refine K1 _ ?_
 refine yS fun _ K2 => ?_
 refine yR ?_
 refine aa rfl (p8 rfl rfl) ?_
 refine yA rfl rfl ?_
 refine yN ?_
 dsimp only [St.put]
 refine K2 _ ?_
 refine ar ?_
 refine bc rfl (by constructor) zN zS ?_
 rfl
set_option maxHeartbeats 1000000 in
theorem ueg (n : Nat) (m : Nat) (so : Nat → Bool) (k0 : FuncId) (caps : List C) [Fun Tryz.prog k0] (hm : m ≤ 8) (hcl : ∀ N, ∀ c ∈ caps, C.low N c) (hso : ∀ s : Nat, s < 2 ^ m → AB.Pure Tryz.prog k0 (.v (.int .i64 (s : Int)) :: lst (cd m s) :: caps) (.v (.bool (so s)))) : ei n eg Tryz.prog 53 [.fn (.func 89) [.elem [.v (.int .i64 (m : Int))]], .fn (.func k0) caps, .fn (.func 57) []] (lst (jy so m)) := fun G nx hF hnx => by
 refine g7 (G) (nx) Tryz.func53 rfl ((br _ _)) zN (fun hlt => zH) ?_
 simp only [Tryz.ntmps53, List.length_cons, List.length_nil, Nat.reduceAdd, Nat.reduceSub]
 refine bu fun hlt => ?_
 dsimp only at hlt
 refine yS fun _ K1 => ?_
 refine yR ?_
 try dsimp only [St.put]
 refine yB rfl rfl rfl ?_
 try dsimp only [St.put]
 refine yB rfl rfl rfl ?_
 refine yA rfl rfl ?_
 refine yN ?_
 dsimp only [St.put]
 refine K1 _ ?_
 refine yS fun _ K2 => ?_
 refine yR ?_
 try dsimp only [St.put]
 refine ae rfl (dr rfl ?_)
 refine yN ?_
 dsimp only [St.put]
 refine K2 _ ?_
 refine yS fun _ K3 => ?_
 refine yR ?_
 try dsimp only [St.put]
 refine ae rfl (dr rfl ?_)
 try dsimp only [St.put]
 refine ae rfl (c6 rfl rfl rfl zG rfl rfl (by rfl) ?_)
 refine yN ?_
 dsimp only [St.put]
 refine K3 _ ?_
 refine yS fun _ K4 => ?_
 refine yS fun _ K5 => ?_
 refine w6 nx 0 [lst ([] : List Int)] zG zW ?_
 refine yR ?_
 refine yM rfl rfl ?_
 refine yN ?_
 dsimp only [St.put]
 refine K5 _ ?_
 refine az ?_
 refine ce 12 ?_
 refine zQ ?_
 refine cy ((ak (ak G nx (.box (l3 so m 0) [lst ((ez so m 0).getD [])])) (nx + 1) (.box (1 + l3 so m 0) [.v (.bool (ez so m 0).isSome)]))) zX ?_
 dsimp only
 refine ufo [12, 13] (fun k => (ak (ak G nx (.box (l3 so m k) [lst ((ez so m k).getD [])])) (nx + 1) (.box (1 + l3 so m k) [.v (.bool (ez so m k).isSome)]))) (fun k => [(13, lst (cd m k)), (12, .v (.int .i64 (k : Int)))]) (uh7 n m hm) (fun k => zG) (by (try dsimp only); omega) rfl rfl (fun _ => rfl) ?_ ?_ ?_ (fun lr k hrk => ?_) ?_
 ·intro k
  rfl
 ·exact zX
 ·intro k
  exact zH
 ·have hbl := unz (so := so) (n := m) (k := k)
  have hml := m5 m k
  refine yS fun _ K6 => ?_
  refine yR ?_
  refine yA rfl rfl ?_
  refine yN ?_
  dsimp only [St.put]
  refine K6 _ ?_
  refine yR ?_
  refine yA rfl rfl ?_
  refine yN ?_
  dsimp only [St.put]
  show AW _ _ _ _ _
  refine az ?_
  refine yS fun _ K7 => ?_
  refine yR ?_
  refine yL rfl rfl rfl ?_
  refine yM rfl rfl ?_
  refine yM rfl rfl ?_
  try dsimp only [St.put]
  refine ae rfl (ax rfl rfl rfl (hso k hrk) ?_)
  refine yM rfl rfl ?_
  refine em (fun hs => ?_) (fun hs => ?_)
  ·have hw : so k = true := hs
   try dsimp only [St.put]
   refine bz rfl (fe rfl rfl zG trivial (by first | rfl | assumption)) ?_
   refine aa rfl (dl rfl rfl) ?_
   refine yM rfl rfl ?_
   refine em (fun hs => ?_) (fun hs => ?_)
   ·have hb0 : ez so m k = none := by simpa using hs
    have htk := xl (uhd hw hb0)
    refine yK rfl ?_
    refine yK rfl ?_
    refine yK rfl ?_
    refine yK rfl ?_
    refine yK rfl ?_
    refine aa rfl (bw rfl rfl (by constructor)) ?_
    refine aa rfl (bw rfl rfl (by constructor)) ?_
    refine yN ?_
    dsimp only [St.put]
    refine K7 _ ?_
    refine am rfl (fun _ => ?_) (fun h => by cases h)
    first
    | (have hbf : gt (cd m k) b = true := (u7 _ _).symm.trans hc
       have htk := xl ((uu hw hb0).trans hbf))
    | skip
    refine yR ?_
    refine yM rfl rfl ?_
    try dsimp only [St.put]
    refine ae rfl (c6 rfl rfl rfl zG rfl rfl (by rfl) ?_)
    try dsimp only [St.put]
    refine ae rfl (c6 rfl rfl rfl zG rfl rfl (by rfl) ?_)
    refine yN ?_
    dsimp only [St.put]
    dsimp only [se, uk]
    first
    | (rw [htk.1, htk.2]
       exact zX)
    | (rw [hke.1, hke.2]
       try rw [hb0]
       exact zX)
   obtain ⟨b, hb0⟩ : ∃ b, ez so m k = some b := by
     cases hb : ez so m k with
     | none => rw [hb] at hs; cases hs
     | some b => exact ⟨b, rfl⟩
   rw [hb0] at hbl
   rw [hb0]
   have hbl2 : b.length ≤ m := hbl
   refine yL rfl rfl rfl ?_
   refine yM rfl rfl ?_
   try dsimp only [St.put]
   refine bz rfl (fe rfl rfl zG trivial (by first | rfl | assumption)) ?_
   try dsimp only [St.put]
   refine ae rfl (ax rfl rfl rfl (ujm (cd m k) b (by omega) (by omega)) ?_)
   refine aa rfl (cb rfl rfl rfl) ?_
   refine aa rfl (cm rfl rfl (by constructor)) ?_
   refine aa rfl (bw rfl rfl (by constructor)) ?_
   refine yN ?_
   dsimp only [St.put]
   refine K7 _ ?_
   refine am rfl (fun hc => ?_) (fun hc => ?_)
   ·first
    | (have hbf : gt (cd m k) b = true := (u7 _ _).symm.trans hc
       have htk := xl ((uu hw hb0).trans hbf))
    | skip
    refine yR ?_
    refine yM rfl rfl ?_
    try dsimp only [St.put]
    refine ae rfl (c6 rfl rfl rfl zG rfl rfl (by rfl) ?_)
    try dsimp only [St.put]
    refine ae rfl (c6 rfl rfl rfl zG rfl rfl (by rfl) ?_)
    refine yN ?_
    dsimp only [St.put]
    dsimp only [se, uk]
    first
    | (rw [htk.1, htk.2]
       exact zX)
    | (rw [hke.1, hke.2]
       try rw [hb0]
       exact zX)
   first
   | (have hbf : gt (cd m k) b = false := (u7 _ _).symm.trans hc
      have hke := xm ((uu hw hb0).trans hbf))
   | skip
   refine av ?_
   dsimp only [se, uk]
   first
   | (rw [htk.1, htk.2]
      exact zX)
   | (rw [hke.1, hke.2]
      try rw [hb0]
      exact zX)
  have hw : so k = false := hs
  have hke := xm (uhc (n := m) hw)
  refine yK rfl ?_
  refine yK rfl ?_
  refine yK rfl ?_
  refine yK rfl ?_
  refine yK rfl ?_
  refine yK rfl ?_
  refine yK rfl ?_
  refine yK rfl ?_
  refine yK rfl ?_
  refine aa rfl (cm rfl rfl (by constructor)) ?_
  refine yN ?_
  dsimp only [St.put]
  refine K7 _ ?_
  refine am rfl (fun h => by cases h) (fun _ => ?_)
  first
  | (have hbf : gt (cd m k) b = false := (u7 _ _).symm.trans hc
     have hke := xm ((uu hw hb0).trans hbf))
  | skip
  refine av ?_
  dsimp only [se, uk]
  first
  | (rw [htk.1, htk.2]
     exact zX)
  | (rw [hke.1, hke.2]
     try rw [hb0]
     exact zX)
 dsimp only
 refine K4 _ ?_
 refine yS fun _ K8 => ?_
 refine yR ?_
 try dsimp only [St.put]
 refine bz rfl (fe rfl rfl zG trivial (by first | rfl | assumption)) ?_
 refine yA rfl rfl ?_
 refine yN ?_
 dsimp only [St.put]
 refine K8 _ ?_
 refine ar ?_
 refine bc rfl (by constructor) zN zS ?_
 rfl
theorem ujj (p : af) (R C : Nat → Int) (a : Int) (s : Nat) (l : List Int) (h : dg p) (hB : Bd p R C) (hs : s ≤ 1000) : Pure Tryz.prog 55 [.v (.int .i64 (s : Int)), lst l, .elem (cells (f4 p R C)), .elem [.v (.int .i64 a)]] (.v (.bool (decide ((bi p).f R C (fun i => s.testBit i) = a)))) := by
 refine ct Tryz.func55 rfl (fun m => .v) fun G nx => ?_
 simp only [Tryz.ntmps55, List.length_cons, List.length_nil, Nat.reduceAdd, Nat.reduceSub]
 refine bu fun hlt => ?_
 dsimp only at hlt
 refine yS fun _ K1 => ?_
 refine yR ?_
 refine yA rfl rfl ?_
 refine yN ?_
 dsimp only [St.put]
 refine K1 _ ?_
 refine yS fun _ K2 => ?_
 refine gu [(0, none), (1, none), (3, none), (2, none), (4, none), (5, none)] (fun i => [].contains i) (fun i => [2].contains i) (fun i => [1, 4, 5].contains i) [] (by kernel_rfl) (by kernel_rfl) ?_
 try dsimp only [St.put]
 refine ay rfl rfl rfl rfl (ep rfl rfl (Enc.len _)) ?_
 refine xM rfl rfl rfl rfl rfl ?_
 try dsimp only [St.put]
 refine ay rfl rfl rfl rfl (ca rfl rfl) ?_
 refine jg ?_
 try dsimp only [St.put]
 refine jz rfl rfl rfl (ax rfl rfl rfl (ucg p R C s h hB hs) ⟨zD, ?_⟩)
 refine ef rfl rfl rfl rfl (fg rfl rfl rfl) ?_
 refine ef rfl rfl rfl rfl (fh rfl (by constructor)) ?_
 refine jf ?_
 dsimp only [St.put]
 refine K2 _ ?_
 refine ar ?_
 refine bc rfl (by constructor) zN zS ?_
 rfl
theorem ujt (p : af) (m : Int) (s : Int) (l : List Int) (h : dg p) (hl : l.length ≤ 1000) (hm : ∀ z ∈ l, 0 ≤ z ∧ z < (p.pages.length : Int)) : Pure Tryz.prog 78 [.v (.int .i64 s), lst l, .elem (cells (f4 p (ck p) (cr p))), .elem [.v (.int .i64 m)]] (.v (.bool (decide (jq p l ≤ m)))) := by
 refine ct Tryz.func78 rfl (fun m => .v) fun G nx => ?_
 simp only [Tryz.ntmps78, List.length_cons, List.length_nil, Nat.reduceAdd, Nat.reduceSub]
 refine bu fun hlt => ?_
 dsimp only at hlt
 refine yS fun _ K1 => ?_
 refine yR ?_
 refine yA rfl rfl ?_
 refine yN ?_
 dsimp only [St.put]
 refine K1 _ ?_
 refine yS fun _ K2 => ?_
 refine yR ?_
 refine yE rfl rfl rfl ?_
 try dsimp only [St.put]
 refine ae rfl (dr rfl ?_)
 try dsimp only [St.put]
 refine ae rfl (c6 rfl rfl rfl zG rfl rfl (by rfl) ?_)
 refine yN ?_
 dsimp only [St.put]
 rw [show cells (f4 p (ck p) (cr p)) = cells (f4 p (ck p) (gw (cr p) (l.take 0))) by rw [List.take_zero, uga]]
 refine K2 _ ?_
 refine yS fun _ K3 => ?_
 refine yS fun _ K4 => ?_
 refine yR ?_
 refine yM rfl rfl ?_
 refine aa rfl (bg rfl rfl (List.length_map _)) ?_
 refine yM rfl rfl ?_
 refine yN ?_
 dsimp only [St.put]
 refine K4 _ ?_
 refine az ?_
 refine ce 14 ?_
 refine zQ ?_
 refine cy ((ak G nx (.box (0 + 1) (cells (f4 p (ck p) (gw (cr p) (l.take 0))))))) zX ?_
 dsimp only
 refine cx (X := Nat) (fun k => k ≤ l.length) (fun k => l.length - k) (fun k => [(8, .any), (9, .any), (13, .v (.int .i64 (k : Int)))]) (fun k G' => (ak G nx (.box (k + 1) (cells (f4 p (ck p) (gw (cr p) (l.take k))))))) 0 rfl ?_ ?_ ?_ ?_ ?_ ?_
 ·exact Nat.zero_le _
 ·exact zF
 ·exact zX
 ·rintro k hI
  exact zL
 ·rintro k hI
  exact zH
 rintro k hI
 dsimp only at hI ⊢
 refine yS fun _ K5 => ?_
 refine yR ?_
 refine aa rfl (cb rfl rfl rfl) ?_
 refine yN ?_
 dsimp only [St.put]
 refine K5 _ ?_
 refine yS fun _ K6 => ?_
 refine am rfl (fun hc => ?_) (fun hc => ?_)
 ·replace hc := of_decide_eq_true hc
  obtain ⟨z0, hz0⟩ : ∃ z, l[k]? = some z := c7 (by omega)
  have hzb := hm z0 (fm hz0)
  obtain ⟨j, rfl⟩ : ∃ j : Nat, z0 = (j : Int) := ⟨z0.toNat, by omega⟩
  have hz := hz0
  obtain ⟨x, hx⟩ : ∃ x, p.pages[j]? = some x := c7 (by omega)
  have hB := ufm (ug h) (l.take k)
  refine av ?_
  refine K6 _ ?_
  refine yS fun _ K7 => ?_
  refine az ?_
  refine yS fun _ K8 => ?_
  refine yR ?_
  refine aa rfl (bp rfl rfl rfl rfl (bk (by assumption)) (Enc.len _)) ?_
  refine yL rfl rfl rfl ?_
  refine yA rfl rfl ?_
  refine yN ?_
  dsimp only [St.put]
  refine K8 _ ?_
  refine yR ?_
  try dsimp only [St.put]
  refine bz rfl (iu rfl rfl zG trivial (by rfl)) ?_
  refine yM rfl rfl ?_
  try dsimp only [St.put]
  refine ae rfl (ax rfl rfl rfl (yf p (ck p) (gw (cr p) (l.take k)) j x 0 h hx (by omega) hB.r) ?_)
  try dsimp only [St.put]
  refine ae rfl (c6 rfl rfl rfl zG rfl rfl (by rfl) ?_)
  refine yN ?_
  dsimp only [St.put]
  refine K7 _ ?_
  refine yR ?_
  refine aa rfl (bq rfl rfl rfl (by omega)) ?_
  refine yM rfl rfl ?_
  refine yN ?_
  dsimp only [St.put]
  rw [ulb, ← uf9, ← uay hz]
  exact ⟨k + 1, by omega, by omega, ⟨⟨rfl, rfl⟩, zF, zB, zN, zX⟩⟩
 replace hc := of_decide_eq_false hc
 rw [fu (show l.length ≤ k by omega)]
 refine cv ?_
 refine K3 _ ?_
 refine yS fun _ K9 => ?_
 refine gu [(0, none), (2, none), (1, none), (3, none), (4, none)] (fun i => [].contains i) (fun i => [1].contains i) (fun i => [3, 4].contains i) [nx] (by kernel_rfl) (by kernel_rfl) ?_
 try dsimp only [St.put]
 refine ay rfl rfl rfl rfl (iu rfl rfl zG (by simp) (by rfl)) ?_
 try dsimp only [St.put]
 refine ay rfl rfl rfl rfl (ca rfl rfl) ?_
 refine jg ?_
 try dsimp only [St.put]
 refine jz rfl rfl rfl (ax rfl rfl rfl (ta p (ck p) (gw (cr p) l) h (ufm (ug h) l)) ⟨zD, ?_⟩)
 refine ef rfl rfl rfl rfl (o8 rfl rfl rfl) ?_
 refine ef rfl rfl rfl rfl (fh rfl (by constructor)) ?_
 refine jf ?_
 dsimp only [St.put]
 refine K9 _ ?_
 refine ar ?_
 refine bc rfl (by constructor) zN zS ?_
 rfl
theorem ubw (p : af) (R Q : Nat → Int) (a : Int) (N : Nat) : ∀ c ∈ [C.elem (cells (f4 p R Q)), C.elem [C.v (.int .i64 a)]], C.low N c := cc (fb _ _) (cc (.elem (cc .v da)) da)
set_option maxHeartbeats 1000000 in
theorem uji (n : Nat) (p : af) : ei n eg Tryz.prog 17 [val p] (.tup [lst (atE (fa p (cg p)) [] (nk p (g6 p))), lst (atE (fa p (cg p)) [] (mr p (g6 p))), .v (.int .i64 (fa p (cg p)))]) := fun G nx hF hnx => by
 refine g7 (G) (nx) Tryz.func17 rfl (.tup (cc (br _ _) (cc (br _ _) (cc .v da)))) zN (fun hlt => zH) ?_
 simp only [Tryz.ntmps17, List.length_cons, List.length_nil, Nat.reduceAdd, Nat.reduceSub]
 refine bu fun hlt => ?_
 dsimp only at hlt
 refine yS fun _ K1 => ?_
 refine yR ?_
 try dsimp only [St.put]
 refine yB rfl rfl rfl ?_
 refine yA rfl rfl ?_
 refine yA rfl rfl ?_
 refine yA rfl rfl ?_
 refine yN ?_
 dsimp only [St.put]
 refine K1 _ ?_
 refine yS fun _ K2 => ?_
 by_cases hL : fa p (cg p) = 0
 ·refine yR ?_
  refine yE rfl rfl rfl ?_
  try dsimp only [St.put]
  refine ae rfl (dw rfl rfl rfl (n1 n p) zG (by dsimp only [St.put]; omega) ?_)
  refine yX rfl rfl rfl rfl ?_
  refine yX rfl rfl rfl rfl ?_
  try dsimp only [St.put]
  refine ae rfl (dw rfl rfl rfl (s8 n p (jl p) (cg p) pk hL) zG (by dsimp only [St.put]; omega) ?_)
  refine yM rfl rfl ?_
  refine yX rfl rfl rfl rfl ?_
  refine yX rfl rfl rfl rfl ?_
  try dsimp only [St.put]
  refine ae rfl (dr rfl ?_)
  try dsimp only [St.put]
  refine ae rfl (c6 rfl rfl rfl zG rfl rfl (by rfl) ?_)
  refine yA rfl rfl ?_
  refine yN ?_
  dsimp only [St.put]
  refine K2 _ ?_
  refine yS fun _ K3 => ?_
  refine yS fun _ K4 => ?_
  refine yR ?_
  refine yM rfl rfl ?_
  refine aa rfl (et rfl rfl rfl) ?_
  refine yN ?_
  dsimp only [St.put]
  refine K4 _ ?_
  refine am rfl (fun hc => ?_) (fun hc => ?_)
  ·exact absurd hc (by decide)
  obtain ⟨h0, hTB⟩ := tq hL
  obtain ⟨hok, _⟩ := lg h0
  have hn1 := hok.nf
  have hn2 := hok.ns
  have hnr : bv p = p.firsts.length + p.seconds.length := rfl
  have hl1 := gk (bv p) (ck p)
  have hB := ug hok
  have h64 : 2 ^ bv p ≤ 2 ^ 6 := Nat.pow_le_pow_right (by omega) (by omega)
  have hwl : (g6 p).length ≤ 6 := by
   have := ufk (qt p) (bv p)
   show (jy (qt p) (bv p)).length ≤ 6
   omega
  refine av ?_
  refine K3 _ ?_
  refine yS fun _ K5 => ?_
  refine yR ?_
  try dsimp only [St.put]
  refine bz rfl (iu rfl rfl zG trivial (by rfl)) ?_
  try dsimp only [St.put]
  refine ae rfl (ax rfl rfl rfl (ta p (ck p) (cr p) hok hB) ?_)
  try dsimp only [St.put]
  refine ae rfl (dr rfl ?_)
  try dsimp only [St.put]
  refine ae rfl (c6 rfl rfl rfl zG rfl rfl (by rfl) ?_)
  refine yN ?_
  dsimp only [St.put]
  refine K5 _ ?_
  refine gh (i := 5) rfl zG zC ?_
  refine gh (i := 6) rfl zG zC ?_
  dsimp only
  refine yS fun _ K6 => ?_
  refine yS fun _ K7 => ?_
  refine yR ?_
  refine yF rfl rfl rfl rfl ?_
  refine yL rfl rfl rfl ?_
  refine aa rfl (bg rfl rfl (List.length_map _)) ?_
  try dsimp only [St.put]
  refine ae rfl (ax rfl rfl rfl (ubh (bh (bv p) (ck p)).length) ?_)
  refine aa rfl (p8 rfl rfl) ?_
  try dsimp only [St.put]
  refine ae rfl (dw rfl rfl rfl (ueg n (bh (bv p) (ck p)).length (qt p) 55 [.elem (cells (f4 p (ck p) (cr p))), .elem [.v (.int .i64 ((bi p).most (ck p) (cr p)))]] (by rw [hl1]; omega) (ubw p _ _ _) (fun s hs => ujj p (ck p) (cr p) _ s _ hok hB (by rw [hl1] at hs; omega))) zG (by dsimp only [St.put]; omega) ?_)
  refine aa rfl (bg rfl rfl (List.length_map _)) ?_
  refine yM rfl rfl ?_
  refine yN ?_
  dsimp only [St.put]
  rw [hl1, show jy (qt p) (bv p) = g6 p from rfl]
  refine K7 _ ?_
  refine oo 2 3 1 rfl (by decide) ?_
  refine oo 3 3 1 rfl (by decide) ?_
  dsimp only [List.set_cons_zero, List.set_cons_succ]
  refine az ?_
  refine ce 30 ?_
  refine zQ ?_
  refine cy ((ak (ak G (nx + 1 + 1) (.tip (nk p ((g6 p).take 0)).length 3 1)) (nx + 1 + 1 + 1) (.tip (mr p ((g6 p).take 0)).length 3 1))) zX ?_
  dsimp only
  refine cx (X := Nat) (fun k => k ≤ (g6 p).length) (fun k => (g6 p).length - k) (fun k => [(2, .list ((nk p ((g6 p).take k)).map cells) (.tip (nx + 1 + 1))), (3, .list ((mr p ((g6 p).take k)).map cells) (.tip (nx + 1 + 1 + 1))), (8, .any), (29, .v (.int .i64 (k : Int)))]) (fun k G' => (ak (ak G (nx + 1 + 1) (.tip (nk p ((g6 p).take k)).length 3 1)) (nx + 1 + 1 + 1) (.tip (mr p ((g6 p).take k)).length 3 1))) 0 rfl ?_ ?_ ?_ ?_ ?_ ?_
  ·exact Nat.zero_le _
  ·exact zF
  ·exact zX
  ·rintro k hI
   exact zL
  ·rintro k hI
   exact zH
  rintro k hK
  dsimp only at hK ⊢
  refine yS fun _ K8 => ?_
  refine yR ?_
  refine aa rfl (cb rfl rfl rfl) ?_
  refine yN ?_
  dsimp only [St.put]
  refine K8 _ ?_
  refine yS fun _ K9 => ?_
  refine am rfl (fun hc => ?_) (fun hc => ?_)
  ·replace hc := of_decide_eq_true hc
   obtain ⟨z, hz⟩ : ∃ z, (g6 p)[k]? = some z := c7 (by omega)
   have hzb := ugv (fm hz)
   have hF3 := ugw p ((g6 p).take k) z
   have hS3 := ugt p ((g6 p).take k) z
   rw [← uay hz] at hF3 hS3
   have hlF := ugx p ((g6 p).take k)
   have hlS := ugu p ((g6 p).take k)
   have hlt2 : ((g6 p).take k).length ≤ 6 := by rw [List.length_take]; omega
   refine av ?_
   refine K9 _ ?_
   refine yS fun _ K10 => ?_
   refine az ?_
   refine yS fun _ K11 => ?_
   refine yR ?_
   refine aa rfl (bp rfl rfl rfl rfl (bk (by assumption)) (Enc.len _)) ?_
   refine yL rfl rfl rfl ?_
   refine yA rfl rfl ?_
   refine yN ?_
   dsimp only [St.put]
   refine K11 _ ?_
   refine yS fun _ K12 => ?_
   refine yR ?_
   refine yM rfl rfl ?_
   refine yF rfl rfl rfl rfl ?_
   refine yL rfl rfl rfl ?_
   refine aa rfl (bg rfl rfl (List.length_map _)) ?_
   refine aa rfl (cb rfl rfl rfl) ?_
   refine yN ?_
   dsimp only [St.put]
   refine K12 _ ?_
   refine am rfl (fun hc => ?_) (fun hc => ?_)
   ·have hyes := of_decide_eq_true hc
    refine yR ?_
    refine yM rfl rfl ?_
    refine yM rfl rfl ?_
    try dsimp only [St.put]
    refine ae rfl (dj rfl rfl rfl (by decide) (by decide) zR (by decide) ?_)
    try dsimp only [St.put]
    refine ae rfl (jc ([z]) rfl rfl zG zE rfl rfl zA ?_ zA)
    refine yA rfl rfl ?_
    refine yN ?_
    dsimp only [St.put]
    refine K10 _ ?_
    refine yR ?_
    refine aa rfl (bq rfl rfl rfl (by omega)) ?_
    refine yM rfl rfl ?_
    refine yN ?_
    dsimp only [St.put]
    first
    | (have hy2 : z < (p.firsts.length : Int) := hyes
       rw [decide_eq_true hy2, cond_true] at hF3 hS3
       rw [List.append_nil] at hS3
       simp only [← hF3]
       rw [← hS3]
       exact ⟨k + 1, by omega, by omega, ⟨⟨rfl, rfl⟩, zF, zB, zN, zX⟩⟩)
    | (have hy2 : ¬ z < (p.firsts.length : Int) := hno
       rw [decide_eq_false hy2, cond_false] at hF3 hS3
       rw [List.append_nil] at hF3
       simp only [← hS3]
       rw [← hF3]
       exact ⟨k + 1, by omega, by omega, ⟨⟨rfl, rfl⟩, zF, zB, zN, zX⟩⟩)
   have hno := of_decide_eq_false hc
   refine yR ?_
   refine yM rfl rfl ?_
   refine yM rfl rfl ?_
   refine yF rfl rfl rfl rfl ?_
   refine yL rfl rfl rfl ?_
   refine aa rfl (bg rfl rfl (List.length_map _)) ?_
   refine aa rfl (f7 rfl rfl rfl (by omega)) ?_
   try dsimp only [St.put]
   refine ae rfl (dj rfl rfl rfl (by decide) (by decide) zR (by decide) ?_)
   try dsimp only [St.put]
   refine ae rfl (jc ([z - (p.firsts.length : Int)]) rfl rfl zG zE rfl rfl zA ?_ zA)
   refine yA rfl rfl ?_
   refine yN ?_
   dsimp only [St.put]
   refine K10 _ ?_
   refine yR ?_
   refine aa rfl (bq rfl rfl rfl (by omega)) ?_
   refine yM rfl rfl ?_
   refine yN ?_
   dsimp only [St.put]
   first
   | (have hy2 : z < (p.firsts.length : Int) := hyes
      rw [decide_eq_true hy2, cond_true] at hF3 hS3
      rw [List.append_nil] at hS3
      simp only [← hF3]
      rw [← hS3]
      exact ⟨k + 1, by omega, by omega, ⟨⟨rfl, rfl⟩, zF, zB, zN, zX⟩⟩)
   | (have hy2 : ¬ z < (p.firsts.length : Int) := hno
      rw [decide_eq_false hy2, cond_false] at hF3 hS3
      rw [List.append_nil] at hF3
      simp only [← hS3]
      rw [← hF3]
      exact ⟨k + 1, by omega, by omega, ⟨⟨rfl, rfl⟩, zF, zB, zN, zX⟩⟩)
  replace hc := of_decide_eq_false hc
  refine cv ?_
  refine K6 _ ?_
  refine yS fun _ K13 => ?_
  refine yR ?_
  refine yM rfl rfl ?_
  refine yM rfl rfl ?_
  refine yA rfl rfl ?_
  refine yA rfl rfl ?_
  refine yA rfl rfl ?_
  refine yN ?_
  dsimp only [St.put]
  refine K13 _ ?_
  refine ar ?_
  refine uep rfl (dx (by constructor)) (dx (by constructor)) (dx (by constructor)) zN zS ?_ ?_ ?_
  ·rw [hL, ot, fu (show (g6 p).length ≤ k by omega)]; exact zW
  ·rw [hL, ot, fu (show (g6 p).length ≤ k by omega)]; exact zW
  rw [hL]; exact zW
 refine yR ?_
 refine yE rfl rfl rfl ?_
 try dsimp only [St.put]
 refine ae rfl (dw rfl rfl rfl (n1 n p) zG (by dsimp only [St.put]; omega) ?_)
 refine yX rfl rfl rfl rfl ?_
 refine yX rfl rfl rfl rfl ?_
 try dsimp only [St.put]
 refine ae rfl (dw rfl rfl rfl (s9 n p (jl p) (cg p) pk hL) zG (by dsimp only [St.put]; omega) ?_)
 refine yM rfl rfl ?_
 refine yX rfl rfl rfl rfl ?_
 refine yX rfl rfl rfl rfl ?_
 try dsimp only [St.put]
 refine ae rfl (dr rfl ?_)
 try dsimp only [St.put]
 refine ae rfl (c6 rfl rfl rfl zG rfl rfl (by rfl) ?_)
 refine yA rfl rfl ?_
 refine yN ?_
 dsimp only [St.put]
 refine K2 _ ?_
 refine yS fun _ K14 => ?_
 refine yS fun _ K15 => ?_
 refine yR ?_
 refine yM rfl rfl ?_
 refine aa rfl (et rfl rfl rfl) ?_
 refine yN ?_
 dsimp only [St.put]
 refine K15 _ ?_
 refine am rfl (fun hc => ?_) (fun hc => ?_)
 ·try replace hc := of_decide_eq_true hc
  refine yS fun _ K16 => ?_
  refine yR ?_
  refine yM rfl rfl ?_
  refine yA rfl rfl ?_
  refine yA rfl rfl ?_
  refine yA rfl rfl ?_
  refine yN ?_
  dsimp only [St.put]
  refine K16 _ ?_
  refine ar ?_
  refine uep rfl (dx (by constructor)) (dx (by constructor)) (dx (by constructor)) zN zS ?_ ?_ ?_
  ·rw [lh hL]; exact zW
  ·rw [lh hL]; exact zW
  exact zW
 exact absurd (g3 hc) hL
set_option maxHeartbeats 1000000 in
theorem yh (n : Nat) (p : af) (m : Int) : ei n eg Tryz.prog 35 [val p, .v (.int .i64 m)] (.tup [lst (jd p m), .v (.int .i64 (iw p m))]) := fun G nx hF hnx => by
 refine g7 (G) (nx) Tryz.func35 rfl (.tup (cc (br _ _) (cc .v da))) zN (fun hlt => zH) ?_
 simp only [Tryz.ntmps35, List.length_cons, List.length_nil, Nat.reduceAdd, Nat.reduceSub]
 refine bu fun hlt => ?_
 dsimp only at hlt
 refine yS fun _ K1 => ?_
 refine yR ?_
 try dsimp only [St.put]
 refine yB rfl rfl rfl ?_
 try dsimp only [St.put]
 refine yB rfl rfl rfl ?_
 refine yA rfl rfl ?_
 refine yA rfl rfl ?_
 refine yN ?_
 dsimp only [St.put]
 refine K1 _ ?_
 refine yS fun _ K2 => ?_
 refine yR ?_
 refine yE rfl rfl rfl ?_
 try dsimp only [St.put]
 refine ae rfl (dw rfl rfl rfl (n1 n p) zG (by dsimp only [St.put]; omega) ?_)
 refine yM rfl rfl ?_
 refine yX rfl rfl rfl rfl ?_
 refine yX rfl rfl rfl rfl ?_
 refine yA rfl rfl ?_
 refine yA rfl rfl ?_
 refine yN ?_
 dsimp only [St.put]
 refine K2 _ ?_
 refine yS fun _ K3 => ?_
 refine yS fun _ K4 => ?_
 refine yR ?_
 refine yM rfl rfl ?_
 refine aa rfl (et rfl rfl rfl) ?_
 refine yN ?_
 dsimp only [St.put]
 refine K4 _ ?_
 refine am rfl (fun hc => ?_) (fun hc => ?_)
 ·have h0 : cg p ≠ 0 := i9 hc
  have hE : iw p m = cg p := unj h0
  have hV : jd p m = [] := by unfold jd; rw [hE, lh h0]
  refine yS fun _ K5 => ?_
  refine yR ?_
  refine yM rfl rfl ?_
  refine yA rfl rfl ?_
  refine yA rfl rfl ?_
  refine yN ?_
  dsimp only [St.put]
  refine K5 _ ?_
  refine ar ?_
  refine gy rfl (dx (by constructor)) (dx (by constructor)) zN zS ?_ ?_
  ·rw [hV]; exact zW
  rw [hE]; exact zW
 have h0 : cg p = 0 := g3 hc
 obtain ⟨hok, _⟩ := lg h0
 have hnp := hok.np
 refine av ?_
 refine K3 _ ?_
 refine yS fun _ K6 => ?_
 refine yS fun _ K7 => ?_
 refine yR ?_
 refine yL rfl rfl rfl ?_
 refine aa rfl (cb rfl rfl rfl) ?_
 refine yN ?_
 dsimp only [St.put]
 refine K7 _ ?_
 refine am rfl (fun hc => ?_) (fun hc => ?_)
 ·have hm : m < 0 := of_decide_eq_true hc
  have hE : iw p m = 2 := uni h0 hm
  have hV : jd p m = [] := by unfold jd; rw [hE, lh (by decide)]
  refine yS fun _ K8 => ?_
  refine yR ?_
  refine yA rfl rfl ?_
  refine yA rfl rfl ?_
  refine yN ?_
  dsimp only [St.put]
  refine K8 _ ?_
  refine ar ?_
  refine gy rfl (dx (by constructor)) (dx (by constructor)) zN zS ?_ ?_
  ·rw [hV]; exact zW
  rw [hE]; exact zW
 have hm : ¬ m < 0 := of_decide_eq_false hc
 refine av ?_
 refine K6 _ ?_
 refine yS fun _ K9 => ?_
 by_cases hL : fa p (cg p) = 0
 ·refine yR ?_
  refine yM rfl rfl ?_
  refine yM rfl rfl ?_
  try dsimp only [St.put]
  refine ae rfl (dw rfl rfl rfl (s8 n p (jl p) (cg p) pk hL) zG (by dsimp only [St.put]; omega) ?_)
  refine yM rfl rfl ?_
  refine yX rfl rfl rfl rfl ?_
  refine yX rfl rfl rfl rfl ?_
  try dsimp only [St.put]
  refine ae rfl (dr rfl ?_)
  try dsimp only [St.put]
  refine ae rfl (c6 rfl rfl rfl zG rfl rfl (by rfl) ?_)
  refine yA rfl rfl ?_
  refine yN ?_
  dsimp only [St.put]
  refine K9 _ ?_
  refine gh (i := 8) rfl zG zC ?_
  dsimp only
  refine yS fun _ K10 => ?_
  refine yS fun _ K11 => ?_
  refine yR ?_
  refine yM rfl rfl ?_
  refine aa rfl (et rfl rfl rfl) ?_
  refine yN ?_
  dsimp only [St.put]
  refine K11 _ ?_
  refine am rfl (fun hc => ?_) (fun hc => ?_)
  ·exact absurd hc (by decide)
  have hTB := (tq hL).2
  have hE : iw p m = 0 := ue9 h0 hm hTB
  have hV : jd p m = jy (lx p m) p.pages.length := by unfold jd; rw [hE, ot]
  refine av ?_
  refine K10 _ ?_
  refine yS fun _ K12 => ?_
  refine yR ?_
  refine yF rfl rfl rfl rfl ?_
  refine yL rfl rfl rfl ?_
  refine aa rfl (bg rfl rfl (List.length_map _)) ?_
  try dsimp only [St.put]
  refine ae rfl (ax rfl rfl rfl (ubh p.pages.length) ?_)
  refine aa rfl (p8 rfl rfl) ?_
  try dsimp only [St.put]
  refine ae rfl (dw rfl rfl rfl (ueg n p.pages.length (lx p m) 78 [.elem (cells (f4 p (ck p) (cr p))), .elem [.v (.int .i64 m)]] hnp (ubw p _ _ _) (fun s _ => ujt p m s _ hok (by have := m5 p.pages.length s; omega) (fun z hz => by obtain ⟨i, rfl, hi, _⟩ := membersL_mem.1 hz; omega))) zG (by dsimp only [St.put]; omega) ?_)
  refine yA rfl rfl ?_
  refine yA rfl rfl ?_
  refine yN ?_
  dsimp only [St.put]
  refine K12 _ ?_
  refine ar ?_
  refine gy rfl (dx (by constructor)) (dx (by constructor)) zN zS ?_ ?_
  ·rw [hV]; exact zW
  rw [hE]; exact zW
 refine yR ?_
 refine yM rfl rfl ?_
 refine yM rfl rfl ?_
 try dsimp only [St.put]
 refine ae rfl (dw rfl rfl rfl (s9 n p (jl p) (cg p) pk hL) zG (by dsimp only [St.put]; omega) ?_)
 refine yM rfl rfl ?_
 refine yX rfl rfl rfl rfl ?_
 refine yX rfl rfl rfl rfl ?_
 try dsimp only [St.put]
 refine ae rfl (dr rfl ?_)
 try dsimp only [St.put]
 refine ae rfl (c6 rfl rfl rfl zG rfl rfl (by rfl) ?_)
 refine yA rfl rfl ?_
 refine yN ?_
 dsimp only [St.put]
 refine K9 _ ?_
 refine gh (i := 8) rfl zG zC ?_
 dsimp only
 refine yS fun _ K13 => ?_
 refine yS fun _ K14 => ?_
 refine yR ?_
 refine yM rfl rfl ?_
 refine aa rfl (et rfl rfl rfl) ?_
 refine yN ?_
 dsimp only [St.put]
 refine K14 _ ?_
 refine am rfl (fun hc => ?_) (fun hc => ?_)
 ·have hTB : gd p = false := by
   cases h : gd p
   ·rfl
   exact absurd (by rw [h0, rk, h]; rfl) hL
  have hE : iw p m = 8 := ufa h0 hm hTB
  have hV : jd p m = [] := by unfold jd; rw [hE, lh (by decide)]
  have hL8 : fa p (cg p) = 8 := by rw [h0, rk, hTB]; rfl
  refine yS fun _ K15 => ?_
  refine yR ?_
  refine yM rfl rfl ?_
  refine yA rfl rfl ?_
  refine yA rfl rfl ?_
  refine yN ?_
  dsimp only [St.put]
  refine K15 _ ?_
  refine ar ?_
  refine gy rfl (dx (by constructor)) (dx (by constructor)) zN zS ?_ ?_
  ·rw [hV]; exact zW
  rw [hE, hL8]; exact zW
 exact absurd (g3 hc) hL
end Go.Proofs.YtbbdginipiljdaaGreatDoor
namespace Go.AB
open Go Go.RowKit
open Go.AB.Enc (cells)
open Go.PB (aw ai PlaceD ba bf bd bn aq af cj bj cz c5)
def qy (p : af) : Bool := !n8 p && decide (cg p = 0)
section
variable {P : Program} {o : Oper} {st : St} {K : St → Prop}
/-- What stands in a slot is known less well, ahead of an operation. -/
theorem e_wk (i : Nat) {c : C} (c' : C) (h0 : st.at i = c) (hw : Wk c c') (h : EStep P o { st with r := (i, c') :: st.r } K) : EStep P o st K := by
 intro E w a hs
 have hp := hs.at i
 rw [h0] at hp
 refine h E w a ⟨hs.d, hs.sz, fun j v hj => ?_, hs.g⟩
 simp only [cp]
 cases hb : Nat.beq i j
 ·exact hs.t j v hj
 have hij := Nat.eq_of_beq_eq_true hb
 subst hij
 have hv : a.tmps.getD i undef = v := by rw [Array.getD_eq_getD_getElem?, hj]; rfl
 rw [hv] at hp
 exact hw.2 _ _ _ hp
end
theorem lk {α : Type} [Enc α] (l : List α) : ∀ r ∈ l.map cells, r.length = Enc.n α := fun r hr => by
 obtain ⟨y, _, rfl⟩ := List.mem_map.1 hr
 exact Enc.len y
theorem readyP_true {p : af} : qy p = true ↔ n8 p = false ∧ cg p = 0 := by simp [qy]
end Go.AB
namespace Go.Proofs.YtbbdginipiljdaaGreatDoor
set_option maxRecDepth 10000
open Go Go.RowKit Go.AB
open Go.AB.Enc (cells)
open Go.PB (aw ai PlaceD ba bf bd bn aq af cj bj cz c5)
theorem udq (a : List PlaceD) : Pure Tryz.prog 61 [lst a, lst a] (.v (.bool true)) := by
 have := uo2 a a
 rwa [decide_eq_true rfl] at this
theorem udr (a : List Int) (ha : a.length ≤ 1000) : Pure Tryz.prog 19 [lst a, lst a] (.v (.bool true)) := by
 have := ub1 a a ha
 rwa [decide_eq_true rfl] at this
theorem qd (a b c : Int) : Pure Tryz.prog 68 [.v (.int .i64 a), .v (.int .i64 b), .v (.int .i64 c)] (val (⟨a, b, c⟩ : PlaceD)) := by
 refine ct Tryz.func68 rfl (fun m => (ec _ _)) fun G nx => ?_
 simp only [Tryz.ntmps68, List.length_cons, List.length_nil, Nat.reduceAdd, Nat.reduceSub]
 refine bu fun hlt => ?_
 dsimp only at hlt
 refine yS fun _ K1 => ?_
 refine yR ?_
 try dsimp only [St.put]
 refine ae rfl (dr rfl ?_)
 refine yN ?_
 dsimp only [St.put]
 refine K1 _ ?_
 refine yS fun _ K2 => ?_
 refine yR ?_
 refine yM rfl rfl ?_
 refine yM rfl rfl ?_
 refine yM rfl rfl ?_
 refine aa rfl (ia rfl rfl) ?_
 try dsimp only [St.put]
 refine ae rfl (c6 rfl rfl rfl zG rfl rfl (by rfl) ?_)
 refine yN ?_
 dsimp only [St.put]
 refine K2 _ ?_
 refine ar ?_
 refine qh rfl (jv rfl zG (by rfl) zC rfl) zN zS ?_
 exact zW
theorem tw (l : List PlaceD) : Pure Tryz.prog 67 [lst l] (lst l) := by
 refine ct Tryz.func67 rfl (fun m => (br _ _)) fun G nx => ?_
 simp only [Tryz.ntmps67, List.length_cons, List.length_nil, Nat.reduceAdd, Nat.reduceSub]
 refine bu fun hlt => ?_
 dsimp only at hlt
 refine yS fun _ K1 => ?_
 refine yR ?_
 refine yA rfl rfl ?_
 refine yN ?_
 dsimp only [St.put]
 refine K1 _ ?_
 refine yS fun _ K2 => ?_
 refine yR ?_
 refine yM rfl rfl ?_
 refine yA rfl rfl ?_
 refine yN ?_
 dsimp only [St.put]
 refine K2 _ ?_
 refine ar ?_
 refine bc rfl (by constructor) zN zS ?_
 rfl
theorem m8 : Pure Tryz.prog 63 [] (val exPr) := by
 refine ct Tryz.func63 rfl (fun m => (ec _ _)) fun G nx => ?_
 simp only [Tryz.ntmps63, List.length_cons, List.length_nil, Nat.reduceAdd, Nat.reduceSub]
 refine bu fun hlt => ?_
 dsimp only at hlt
 refine yS fun _ K1 => ?_
 refine yR ?_
 try dsimp only [St.put]
 refine ae rfl (dr rfl ?_)
 refine yN ?_
 dsimp only [St.put]
 refine K1 _ ?_
 refine yS fun _ K2 => ?_
 refine yR ?_
 try dsimp only [St.put]
 refine ae rfl (dj (rows := ([mn, iz, xIs, mo] : List ByteArray).map cells) rfl rfl rfl (by decide) (by decide) (lk _) (by decide) ?_)
 try dsimp only [St.put]
 refine ae rfl (dj (rows := ([mo, mn, iz] : List ByteArray).map cells) rfl rfl rfl (by decide) (by decide) (lk _) (by decide) ?_)
 try dsimp only [St.put]
 refine ae rfl (dj (rows := ([[mn, iz, xIs, mo], [mo, mn, iz]] : List (List ByteArray)).map cells) rfl rfl rfl (by decide) (by decide) (lk _) (by decide) ?_)
 refine aa rfl (ia (cs := cells (⟨7, [[mn, iz, xIs, mo], [mo, mn, iz]]⟩ : aw)) rfl rfl) ?_
 try dsimp only [St.put]
 refine ae rfl (dj (rows := ([iz, sf, iz] : List ByteArray).map cells) rfl rfl rfl (by decide) (by decide) (lk _) (by decide) ?_)
 try dsimp only [St.put]
 refine ae rfl (dj (rows := ([[iz, sf, iz]] : List (List ByteArray)).map cells) rfl rfl rfl (by decide) (by decide) (lk _) (by decide) ?_)
 refine aa rfl (ia (cs := cells (⟨3, [[iz, sf, iz]]⟩ : aw)) rfl rfl) ?_
 try dsimp only [St.put]
 refine ae rfl (dj (rows := ([⟨7, [[mn, iz, xIs, mo], [mo, mn, iz]]⟩, ⟨3, [[iz, sf, iz]]⟩] : List aw).map cells) rfl rfl rfl (by decide) (by decide) (lk _) (by decide) ?_)
 refine aa rfl (ia (cs := [lst exTx]) rfl rfl) ?_
 refine aa rfl (ia (cs := cells (⟨1, 50⟩ : bn)) rfl rfl) ?_
 refine aa rfl (ia (cs := cells (⟨2, 0⟩ : bn)) rfl rfl) ?_
 try dsimp only [St.put]
 refine ae rfl (dj (rows := ([⟨1, 50⟩, ⟨2, 0⟩] : List bn).map cells) rfl rfl rfl (by decide) (by decide) (lk _) (by decide) ?_)
 refine aa rfl (ia (cs := cells (⟨3, 60⟩ : bn)) rfl rfl) ?_
 try dsimp only [St.put]
 refine ae rfl (dj (rows := ([⟨3, 60⟩] : List bn).map cells) rfl rfl rfl (by decide) (by decide) (lk _) (by decide) ?_)
 try dsimp only [St.put]
 refine ae rfl (ax rfl rfl rfl (qd _ _ _) ?_)
 try dsimp only [St.put]
 refine ae rfl (dj (rows := ([⟨0, 0, 0⟩] : List PlaceD).map cells) rfl rfl rfl (by decide) (by decide) (lk _) (by decide) ?_)
 try dsimp only [St.put]
 refine ae rfl (ax rfl rfl rfl (tw [⟨0, 0, 0⟩]) ?_)
 try dsimp only [St.put]
 refine ae rfl (ax rfl rfl rfl (qd _ _ _) ?_)
 try dsimp only [St.put]
 refine ae rfl (ax rfl rfl rfl (qd _ _ _) ?_)
 try dsimp only [St.put]
 refine ae rfl (dj (rows := ([⟨0, 0, 0⟩, ⟨0, 0, 3⟩] : List PlaceD).map cells) rfl rfl rfl (by decide) (by decide) (lk _) (by decide) ?_)
 try dsimp only [St.put]
 refine ae rfl (ax rfl rfl rfl (tw [⟨0, 0, 0⟩, ⟨0, 0, 3⟩]) ?_)
 refine aa rfl (ia (cs := cells (⟨0, 0, 0, 0, [⟨0, 0, 0⟩], [⟨0, 0, 0⟩, ⟨0, 0, 3⟩]⟩ : aq)) rfl rfl) ?_
 try dsimp only [St.put]
 refine ae rfl (ax rfl rfl rfl (qd _ _ _) ?_)
 try dsimp only [St.put]
 refine ae rfl (dj (rows := ([⟨0, 1, 1⟩] : List PlaceD).map cells) rfl rfl rfl (by decide) (by decide) (lk _) (by decide) ?_)
 try dsimp only [St.put]
 refine ae rfl (ax rfl rfl rfl (tw [⟨0, 1, 1⟩]) ?_)
 refine aa rfl (ia (cs := [.v (.int .i64 1), .v (.int .i64 2), .v (.int .i64 0), .v (.int .i64 (-1)), lst ([⟨0, 1, 1⟩] : List PlaceD), .list [] .nil]) rfl rfl) ?_
 try dsimp only [St.put]
 refine ae rfl (e_wk 26 (val (⟨1, 2, 0, -1, [⟨0, 1, 1⟩], []⟩ : aq)) rfl (by show Wk _ (.agg _); exact zW) ?_)
 dsimp only
 refine dj (rows := ([⟨0, 0, 0, 0, [⟨0, 0, 0⟩], [⟨0, 0, 0⟩, ⟨0, 0, 3⟩]⟩, ⟨1, 2, 0, -1, [⟨0, 1, 1⟩], []⟩] : List aq).map cells) rfl rfl rfl (by decide) (by decide) (lk _) (by decide) ?_
 refine aa rfl (ia (cs := [lst exTx, lst exPr.firsts, lst exPr.seconds, lst exPr.pages]) rfl rfl) ?_
 try dsimp only [St.put]
 refine ae rfl (c6 rfl rfl rfl zG rfl rfl (by rfl) ?_)
 refine yN ?_
 dsimp only [St.put]
 refine K2 _ ?_
 refine ar ?_
 refine qh rfl (jv rfl zG (by rfl) zC rfl) zN zS ?_
 exact zW
theorem ulz (n : Nat) (b : Bool) (r want : Int) : ei n eg Tryz.prog 69 [.v (.bool b), .v (.int .i64 r), .v (.int .i64 want)] (.v (.bool (decide (jt exPr b r = 0) && decide (mh exPr b r = want)))) := fun G nx hF hnx => by
 refine g7 (G) (nx) Tryz.func69 rfl (.v) zN (fun hlt => zH) ?_
 simp only [Tryz.ntmps69, List.length_cons, List.length_nil, Nat.reduceAdd, Nat.reduceSub]
 refine bu fun hlt => ?_
 dsimp only at hlt
 refine yS fun _ K1 => ?_
 refine yR ?_
 refine yA rfl rfl ?_
 refine yN ?_
 dsimp only [St.put]
 refine K1 _ ?_
 refine yS fun _ K2 => ?_
 refine yR ?_
 try dsimp only [St.put]
 refine ae rfl (ax rfl rfl rfl (m8) ?_)
 refine yM rfl rfl ?_
 refine yM rfl rfl ?_
 try dsimp only [St.put]
 refine ae rfl (dw rfl rfl rfl (uck n exPr b r) zG (by dsimp only [St.put]; omega) ?_)
 refine yM rfl rfl ?_
 refine yX rfl rfl rfl rfl ?_
 refine yX rfl rfl rfl rfl ?_
 refine yA rfl rfl ?_
 refine yA rfl rfl ?_
 refine yN ?_
 dsimp only [St.put]
 refine K2 _ ?_
 refine yS fun _ K3 => ?_
 refine yR ?_
 refine yM rfl rfl ?_
 refine aa rfl (fg rfl rfl rfl) ?_
 refine em (fun hs => ?_) (fun hs => ?_)
 ·have h1 : decide (jt exPr b r = 0) = true := hs
  refine yM rfl rfl ?_
  refine yM rfl rfl ?_
  refine yM rfl rfl ?_
  refine aa rfl (fg rfl rfl rfl) ?_
  refine aa rfl (bw rfl rfl (by constructor)) ?_
  refine yA rfl rfl ?_
  refine yN ?_
  dsimp only [St.put]
  refine K3 _ ?_
  refine ar ?_
  refine bc rfl (by constructor) zN zS ?_
  exact vb (by rw [h1]; rfl)
 have h1 : decide (jt exPr b r = 0) = false := hs
 refine yM rfl rfl ?_
 refine yK rfl ?_
 refine yK rfl ?_
 refine yK rfl ?_
 refine aa rfl (cm rfl rfl (by constructor)) ?_
 refine yA rfl rfl ?_
 refine yN ?_
 dsimp only [St.put]
 refine K3 _ ?_
 refine ar ?_
 refine bc rfl (by constructor) zN zS ?_
 exact vb (by rw [h1]; rfl)
theorem ulw (n : Nat) (m : Int) (want : List Int) : ei n eg Tryz.prog 70 [.v (.int .i64 m), lst want] (.v (.bool (decide (iw exPr m = 0) && decide (jd exPr m = want)))) := fun G nx hF hnx => by
 refine g7 (G) (nx) Tryz.func70 rfl (.v) zN (fun hlt => zH) ?_
 simp only [Tryz.ntmps70, List.length_cons, List.length_nil, Nat.reduceAdd, Nat.reduceSub]
 refine bu fun hlt => ?_
 dsimp only at hlt
 have hcl : (jd exPr m).length ≤ 1000 := by
  unfold jd atE
  cases decide (iw exPr m = 0)
  ·exact Nat.zero_le _
  have := ufk (lx exPr m) exPr.pages.length
  have e : exPr.pages.length = 2 := rfl
  show (jy (lx exPr m) exPr.pages.length).length ≤ 1000
  omega
 refine yS fun _ K1 => ?_
 refine yR ?_
 refine yA rfl rfl ?_
 refine yN ?_
 dsimp only [St.put]
 refine K1 _ ?_
 refine yS fun _ K2 => ?_
 refine yR ?_
 try dsimp only [St.put]
 refine ae rfl (ax rfl rfl rfl (m8) ?_)
 refine yM rfl rfl ?_
 try dsimp only [St.put]
 refine ae rfl (dw rfl rfl rfl (yh n exPr m) zG (by dsimp only [St.put]; omega) ?_)
 refine yM rfl rfl ?_
 refine yX rfl rfl rfl rfl ?_
 refine yX rfl rfl rfl rfl ?_
 refine yA rfl rfl ?_
 refine yA rfl rfl ?_
 refine yN ?_
 dsimp only [St.put]
 refine K2 _ ?_
 refine yS fun _ K3 => ?_
 refine yR ?_
 refine yM rfl rfl ?_
 refine aa rfl (fg rfl rfl rfl) ?_
 refine em (fun hs => ?_) (fun hs => ?_)
 ·have h1 : decide (iw exPr m = 0) = true := hs
  refine yM rfl rfl ?_
  refine yM rfl rfl ?_
  refine yM rfl rfl ?_
  try dsimp only [St.put]
  refine ae rfl (ax rfl rfl rfl (ub1 (jd exPr m) want hcl) ?_)
  refine aa rfl (bw rfl rfl (by constructor)) ?_
  refine yA rfl rfl ?_
  refine yN ?_
  dsimp only [St.put]
  refine K3 _ ?_
  refine ar ?_
  refine bc rfl (by constructor) zN zS ?_
  exact vb (by rw [h1]; rfl)
 have h1 : decide (iw exPr m = 0) = false := hs
 refine yM rfl rfl ?_
 refine yK rfl ?_
 refine yK rfl ?_
 refine yK rfl ?_
 refine aa rfl (cm rfl rfl (by constructor)) ?_
 refine yA rfl rfl ?_
 refine yN ?_
 dsimp only [St.put]
 refine K3 _ ?_
 refine ar ?_
 refine bc rfl (by constructor) zN zS ?_
 exact vb (by rw [h1]; rfl)
theorem uom (n : Nat) : ei n eg Tryz.prog 62 [val exPr, .v (.int .i64 1)] (.tup [.v (.int .i64 6), .v (.int .i64 0)]) := by
 have := uce n exPr 1
 rwa [xp_words.1, xp_words.2.1] at this
theorem uoq (n : Nat) : ei n eg Tryz.prog 64 [val exPr, .v (.int .i64 0)] (.tup [lst ([⟨0, 0, 0⟩, ⟨0, 0, 3⟩] : List PlaceD), .v (.int .i64 0)]) := by
 have := ucj n exPr 0
 rwa [xp_found.1, xp_words.2.2.2] at this
theorem uot (n : Nat) : ei n eg Tryz.prog 65 [val exPr, .v (.int .i64 0)] (.tup [lst ([⟨0, 0, 0⟩] : List PlaceD), .v (.int .i64 0)]) := by
 have := uju n exPr 0
 rwa [xp_found.2, xp_words.2.2.2] at this
theorem uop (n : Nat) : ei n eg Tryz.prog 66 [val exPr, .v (.int .i64 0)] (.tup [val (⟨2, 2⟩ : bj), .v (.int .i64 0)]) := by
 have := ujs n exPr 0
 rwa [xp_guess.1, xp_guess.2] at this
theorem uoo (n : Nat) : ei n eg Tryz.prog 11 [val exPr, .v (.int .i64 1)] (.tup [val (⟨0, 1⟩ : bj), .v (.int .i64 0)]) := by
 have := ujo n exPr 1
 rwa [xp_remain.1, xp_remain.2.1] at this
theorem uon (n : Nat) : ei n eg Tryz.prog 13 [val exPr] (.tup [val (⟨0, 1⟩ : bj), .v (.int .i64 0)]) := by
 have := ujk n exPr
 rwa [ugc, um] at this
theorem uol (n : Nat) : ei n eg Tryz.prog 15 [val exPr] (.tup [lst ([1, 0] : List Int), .v (.int .i64 0)]) := by
 have := ye n exPr
 rwa [ugb, um] at this
theorem alWhy (n : Nat) : ei n eg Tryz.prog 17 [val exPr] (.tup [lst ([0] : List Int), lst ([] : List Int), .v (.int .i64 0)]) := by
 have := uji n exPr
 rwa [um, ot, ot, xp_why.1, xp_why.2] at this
theorem uos (n : Nat) : ei n eg Tryz.prog 69 [.v (.bool false), .v (.int .i64 0), .v (.int .i64 4)] (.v (.bool true)) := by
 have := ulz n false 0 4
 rwa [xp_bound.1, xp_bound.2.1] at this
theorem uor (n : Nat) : ei n eg Tryz.prog 70 [.v (.int .i64 0), lst ([0, 1] : List Int)] (.v (.bool true)) := by
 have := ulw n 0 [0, 1]
 rwa [xp_chief.1, xp_chief.2.1] at this
set_option maxHeartbeats 4000000 in
theorem uok (n : Nat) : ei n eg Tryz.prog 21 [] (.v (.bool true)) := fun G nx hF hnx => by
 refine g7 (G) (nx) Tryz.func21 rfl (.v) zN (fun hlt => zH) ?_
 simp only [Tryz.ntmps21, List.length_cons, List.length_nil, Nat.reduceAdd, Nat.reduceSub]
 refine bu fun hlt => ?_
 dsimp only at hlt
 refine yS fun _ K1 => ?_
 refine yR ?_
 refine yA rfl rfl ?_
 refine yN ?_
 dsimp only [St.put]
 refine K1 _ ?_
 refine yS fun _ K2 => ?_
 refine yR ?_
 try dsimp only [St.put]
 refine ae rfl (ax rfl rfl rfl (m8) ?_)
 try dsimp only [St.put]
 refine ae rfl ((dw rfl rfl rfl ((uom n)) zG (by dsimp only [St.put]; omega) ?_))
 refine yM rfl rfl ?_
 refine yX rfl rfl rfl rfl ?_
 refine yX rfl rfl rfl rfl ?_
 refine yA rfl rfl ?_
 refine yA rfl rfl ?_
 refine yN ?_
 dsimp only [St.put]
 refine K2 _ ?_
 refine yS fun _ K3 => ?_
 refine yR ?_
 try dsimp only [St.put]
 refine ae rfl (ax rfl rfl rfl (m8) ?_)
 try dsimp only [St.put]
 refine ae rfl ((dw rfl rfl rfl ((uoq n)) zG (by dsimp only [St.put]; omega) ?_))
 refine yM rfl rfl ?_
 refine yX rfl rfl rfl rfl ?_
 refine yX rfl rfl rfl rfl ?_
 refine yA rfl rfl ?_
 refine yA rfl rfl ?_
 refine yN ?_
 dsimp only [St.put]
 refine K3 _ ?_
 refine yS fun _ K4 => ?_
 refine yR ?_
 try dsimp only [St.put]
 refine ae rfl (ax rfl rfl rfl (m8) ?_)
 try dsimp only [St.put]
 refine ae rfl ((dw rfl rfl rfl ((uot n)) zG (by dsimp only [St.put]; omega) ?_))
 refine yM rfl rfl ?_
 refine yX rfl rfl rfl rfl ?_
 refine yX rfl rfl rfl rfl ?_
 refine yA rfl rfl ?_
 refine yA rfl rfl ?_
 refine yN ?_
 dsimp only [St.put]
 refine K4 _ ?_
 refine yS fun _ K5 => ?_
 refine yR ?_
 try dsimp only [St.put]
 refine ae rfl (ax rfl rfl rfl (m8) ?_)
 try dsimp only [St.put]
 refine ae rfl ((dw rfl rfl rfl ((uop n)) zG (by dsimp only [St.put]; omega) ?_))
 refine yM rfl rfl ?_
 refine yX rfl rfl rfl rfl ?_
 refine yX rfl rfl rfl rfl ?_
 try dsimp only [St.put]
 refine ae rfl (dr rfl ?_)
 try dsimp only [St.put]
 refine ae rfl (c6 rfl rfl rfl zG rfl rfl (by rfl) ?_)
 refine yA rfl rfl ?_
 refine yN ?_
 dsimp only [St.put]
 refine K5 _ ?_
 refine gh (i := 7) rfl zG zC ?_
 dsimp only
 refine yS fun _ K6 => ?_
 refine yR ?_
 try dsimp only [St.put]
 refine ae rfl (ax rfl rfl rfl (m8) ?_)
 try dsimp only [St.put]
 refine ae rfl ((dw rfl rfl rfl ((uoo n)) zG (by dsimp only [St.put]; omega) ?_))
 refine yM rfl rfl ?_
 refine yX rfl rfl rfl rfl ?_
 refine yX rfl rfl rfl rfl ?_
 try dsimp only [St.put]
 refine ae rfl (dr rfl ?_)
 try dsimp only [St.put]
 refine ae rfl (c6 rfl rfl rfl zG rfl rfl (by rfl) ?_)
 refine yA rfl rfl ?_
 refine yN ?_
 dsimp only [St.put]
 refine K6 _ ?_
 refine gh (i := 9) rfl zG zC ?_
 dsimp only
 refine yS fun _ K7 => ?_
 refine yR ?_
 try dsimp only [St.put]
 refine ae rfl (ax rfl rfl rfl (m8) ?_)
 try dsimp only [St.put]
 refine ae rfl ((dw rfl rfl rfl ((uon n)) zG (by dsimp only [St.put]; omega) ?_))
 refine yM rfl rfl ?_
 refine yX rfl rfl rfl rfl ?_
 refine yX rfl rfl rfl rfl ?_
 try dsimp only [St.put]
 refine ae rfl (dr rfl ?_)
 try dsimp only [St.put]
 refine ae rfl (c6 rfl rfl rfl zG rfl rfl (by rfl) ?_)
 refine yA rfl rfl ?_
 refine yN ?_
 dsimp only [St.put]
 refine K7 _ ?_
 refine gh (i := 11) rfl zG zC ?_
 dsimp only
 refine yS fun _ K8 => ?_
 refine yR ?_
 try dsimp only [St.put]
 refine ae rfl (ax rfl rfl rfl (m8) ?_)
 try dsimp only [St.put]
 refine ae rfl ((dw rfl rfl rfl ((uol n)) zG (by dsimp only [St.put]; omega) ?_))
 refine yM rfl rfl ?_
 refine yX rfl rfl rfl rfl ?_
 refine yX rfl rfl rfl rfl ?_
 refine yA rfl rfl ?_
 refine yA rfl rfl ?_
 refine yN ?_
 dsimp only [St.put]
 refine K8 _ ?_
 refine yS fun _ K9 => ?_
 refine yR ?_
 try dsimp only [St.put]
 refine ae rfl (ax rfl rfl rfl (m8) ?_)
 try dsimp only [St.put]
 refine ae rfl ((dw rfl rfl rfl ((alWhy n)) zG (by dsimp only [St.put]; omega) ?_))
 refine yM rfl rfl ?_
 refine yX rfl rfl rfl rfl ?_
 refine yX rfl rfl rfl rfl ?_
 refine yX rfl rfl rfl rfl ?_
 refine yA rfl rfl ?_
 refine yA rfl rfl ?_
 refine yA rfl rfl ?_
 refine yN ?_
 dsimp only [St.put]
 refine K9 _ ?_
 refine yS fun _ K10 => ?_
 refine ce 18 ?_
 refine zQ ?_
 refine cy G zX ?_
 dsimp only
 refine yR ?_
 refine yM rfl rfl ?_
 refine aa rfl (dz (fg rfl rfl rfl) (decide_eq_true (by omega))) ?_
 refine yM rfl rfl ?_
 refine yM rfl rfl ?_
 ((first | refine aa rfl ((dz (c := true) (fg rfl rfl rfl) (decide_eq_true rfl))) ?_ | refine ah rfl rfl rfl rfl ((dz (c := true) (fg rfl rfl rfl) (decide_eq_true rfl))) ?_ | refine ef rfl rfl rfl rfl ((dz (c := true) (fg rfl rfl rfl) (decide_eq_true rfl))) ?_ | refine ui rfl rfl rfl ((dz (c := true) (fg rfl rfl rfl) (decide_eq_true rfl))) ?_))
 refine aa rfl (bw rfl rfl (by constructor)) ?_
 refine yM rfl rfl ?_
 refine yM rfl rfl ?_
 refine aa rfl (dz (fg rfl rfl rfl) (decide_eq_true (by omega))) ?_
 refine aa rfl (bw rfl rfl (by constructor)) ?_
 refine yM rfl rfl ?_
 refine yM rfl rfl ?_
 try dsimp only [St.put]
 refine ae rfl (ax rfl rfl rfl (qd _ _ _) ?_)
 try dsimp only [St.put]
 refine ae rfl (ax rfl rfl rfl (qd _ _ _) ?_)
 try dsimp only [St.put]
 refine ae rfl (dj rfl rfl rfl (by decide) (by decide) zR (by decide) ?_)
 try dsimp only [St.put]
 refine ae rfl (ax rfl rfl rfl (tw [⟨0, 0, 0⟩, ⟨0, 0, 3⟩]) ?_)
 try dsimp only [St.put]
 refine ae rfl (ax rfl rfl rfl (udq [⟨0, 0, 0⟩, ⟨0, 0, 3⟩]) ?_)
 refine aa rfl (bw rfl rfl (by constructor)) ?_
 refine yM rfl rfl ?_
 refine yM rfl rfl ?_
 refine aa rfl (dz (fg rfl rfl rfl) (decide_eq_true (by omega))) ?_
 refine aa rfl (bw rfl rfl (by constructor)) ?_
 refine yM rfl rfl ?_
 refine yM rfl rfl ?_
 try dsimp only [St.put]
 refine ae rfl (ax rfl rfl rfl (qd _ _ _) ?_)
 try dsimp only [St.put]
 refine ae rfl (dj rfl rfl rfl (by decide) (by decide) zR (by decide) ?_)
 try dsimp only [St.put]
 refine ae rfl (ax rfl rfl rfl (tw [⟨0, 0, 0⟩]) ?_)
 try dsimp only [St.put]
 refine ae rfl (ax rfl rfl rfl (udq [⟨0, 0, 0⟩]) ?_)
 refine aa rfl (bw rfl rfl (by constructor)) ?_
 refine yM rfl rfl ?_
 try dsimp only [St.put]
 refine ae rfl ((dw rfl rfl rfl ((uos n)) zG (by dsimp only [St.put]; omega) ?_))
 refine aa rfl (bw rfl rfl (by constructor)) ?_
 refine yM rfl rfl ?_
 refine yM rfl rfl ?_
 refine aa rfl (dz (fg rfl rfl rfl) (decide_eq_true (by omega))) ?_
 refine aa rfl (bw rfl rfl (by constructor)) ?_
 refine yM rfl rfl ?_
 refine yE rfl rfl rfl ?_
 refine aa rfl (ia rfl rfl) ?_
 ((first | refine aa rfl ((dz (c := true) (lp (x := (⟨2, 2⟩ : bj)) (y := (⟨2, 2⟩ : bj)) rfl rfl rfl) (decide_eq_true rfl))) ?_ | refine ah rfl rfl rfl rfl ((dz (c := true) (lp (x := (⟨2, 2⟩ : bj)) (y := (⟨2, 2⟩ : bj)) rfl rfl rfl) (decide_eq_true rfl))) ?_ | refine ef rfl rfl rfl rfl ((dz (c := true) (lp (x := (⟨2, 2⟩ : bj)) (y := (⟨2, 2⟩ : bj)) rfl rfl rfl) (decide_eq_true rfl))) ?_ | refine ui rfl rfl rfl ((dz (c := true) (lp (x := (⟨2, 2⟩ : bj)) (y := (⟨2, 2⟩ : bj)) rfl rfl rfl) (decide_eq_true rfl))) ?_))
 refine aa rfl (bw rfl rfl (by constructor)) ?_
 refine yM rfl rfl ?_
 refine yM rfl rfl ?_
 refine aa rfl (dz (fg rfl rfl rfl) (decide_eq_true (by omega))) ?_
 refine aa rfl (bw rfl rfl (by constructor)) ?_
 refine yM rfl rfl ?_
 refine yE rfl rfl rfl ?_
 refine aa rfl (ia rfl rfl) ?_
 ((first | refine aa rfl ((dz (c := true) (lp (x := (⟨0, 1⟩ : bj)) (y := (⟨0, 1⟩ : bj)) rfl rfl rfl) (decide_eq_true rfl))) ?_ | refine ah rfl rfl rfl rfl ((dz (c := true) (lp (x := (⟨0, 1⟩ : bj)) (y := (⟨0, 1⟩ : bj)) rfl rfl rfl) (decide_eq_true rfl))) ?_ | refine ef rfl rfl rfl rfl ((dz (c := true) (lp (x := (⟨0, 1⟩ : bj)) (y := (⟨0, 1⟩ : bj)) rfl rfl rfl) (decide_eq_true rfl))) ?_ | refine ui rfl rfl rfl ((dz (c := true) (lp (x := (⟨0, 1⟩ : bj)) (y := (⟨0, 1⟩ : bj)) rfl rfl rfl) (decide_eq_true rfl))) ?_))
 refine aa rfl (bw rfl rfl (by constructor)) ?_
 refine yM rfl rfl ?_
 refine yM rfl rfl ?_
 refine aa rfl (dz (fg rfl rfl rfl) (decide_eq_true (by omega))) ?_
 refine aa rfl (bw rfl rfl (by constructor)) ?_
 refine yM rfl rfl ?_
 refine yE rfl rfl rfl ?_
 refine aa rfl (ia rfl rfl) ?_
 ((first | refine aa rfl ((dz (c := true) (lp (x := (⟨0, 1⟩ : bj)) (y := (⟨0, 1⟩ : bj)) rfl rfl rfl) (decide_eq_true rfl))) ?_ | refine ah rfl rfl rfl rfl ((dz (c := true) (lp (x := (⟨0, 1⟩ : bj)) (y := (⟨0, 1⟩ : bj)) rfl rfl rfl) (decide_eq_true rfl))) ?_ | refine ef rfl rfl rfl rfl ((dz (c := true) (lp (x := (⟨0, 1⟩ : bj)) (y := (⟨0, 1⟩ : bj)) rfl rfl rfl) (decide_eq_true rfl))) ?_ | refine ui rfl rfl rfl ((dz (c := true) (lp (x := (⟨0, 1⟩ : bj)) (y := (⟨0, 1⟩ : bj)) rfl rfl rfl) (decide_eq_true rfl))) ?_))
 refine aa rfl (bw rfl rfl (by constructor)) ?_
 refine yM rfl rfl ?_
 refine yM rfl rfl ?_
 refine aa rfl (dz (fg rfl rfl rfl) (decide_eq_true (by omega))) ?_
 refine aa rfl (bw rfl rfl (by constructor)) ?_
 refine yM rfl rfl ?_
 refine yM rfl rfl ?_
 try dsimp only [St.put]
 refine ae rfl (dj rfl rfl rfl (by decide) (by decide) zR (by decide) ?_)
 try dsimp only [St.put]
 refine ae rfl (ax rfl rfl rfl (udr [1, 0] (by decide)) ?_)
 refine aa rfl (bw rfl rfl (by constructor)) ?_
 refine yM rfl rfl ?_
 refine yM rfl rfl ?_
 refine aa rfl (dz (fg rfl rfl rfl) (decide_eq_true (by omega))) ?_
 refine aa rfl (bw rfl rfl (by constructor)) ?_
 refine yM rfl rfl ?_
 refine yM rfl rfl ?_
 try dsimp only [St.put]
 refine ae rfl (dj rfl rfl rfl (by decide) (by decide) zR (by decide) ?_)
 try dsimp only [St.put]
 refine ae rfl (ax rfl rfl rfl (udr [0] (by decide)) ?_)
 refine aa rfl (bw rfl rfl (by constructor)) ?_
 refine yM rfl rfl ?_
 refine yM rfl rfl ?_
 refine aa rfl (bg rfl rfl (List.length_map _)) ?_
 ((first | refine aa rfl ((dz (c := true) (fg rfl rfl rfl) (decide_eq_true rfl))) ?_ | refine ah rfl rfl rfl rfl ((dz (c := true) (fg rfl rfl rfl) (decide_eq_true rfl))) ?_ | refine ef rfl rfl rfl rfl ((dz (c := true) (fg rfl rfl rfl) (decide_eq_true rfl))) ?_ | refine ui rfl rfl rfl ((dz (c := true) (fg rfl rfl rfl) (decide_eq_true rfl))) ?_))
 refine aa rfl (bw rfl rfl (by constructor)) ?_
 refine yM rfl rfl ?_
 try dsimp only [St.put]
 refine ae rfl (dj rfl rfl rfl (by decide) (by decide) zR (by decide) ?_)
 try dsimp only [St.put]
 refine ae rfl ((dw rfl rfl rfl ((uor n)) zG (by dsimp only [St.put]; omega) ?_))
 refine aa rfl (bw rfl rfl (by constructor)) ?_
 refine yA rfl rfl ?_
 refine yN ?_
 dsimp only [St.put]
 refine K10 _ ?_
 refine ar ?_
 refine bc rfl (by constructor) zN zS ?_
 rfl
theorem ulr (p : af) : Pure Tryz.prog 22 [val p] (.v (.bool (qy p))) := by
 refine ct Tryz.func22 rfl (fun m => .v) fun G nx => ?_
 simp only [Tryz.ntmps22, List.length_cons, List.length_nil, Nat.reduceAdd, Nat.reduceSub]
 refine bu fun hlt => ?_
 dsimp only at hlt
 refine yS fun _ K1 => ?_
 refine yR ?_
 try dsimp only [St.put]
 refine yB rfl rfl rfl ?_
 refine yA rfl rfl ?_
 refine yN ?_
 dsimp only [St.put]
 refine K1 _ ?_
 refine yS fun _ K2 => ?_
 refine yR ?_
 refine yE rfl rfl rfl ?_
 try dsimp only [St.put]
 refine ae rfl (ax rfl rfl rfl (ui7 p) ?_)
 refine aa rfl (dl rfl rfl) ?_
 refine yM rfl rfl ?_
 refine em (fun hs => ?_) (fun hs => ?_)
 ·have h1 : n8 p = false := by simpa using hs
  refine yE rfl rfl rfl ?_
  try dsimp only [St.put]
  refine ae rfl (ax rfl rfl rfl (ui8 p) ?_)
  refine aa rfl (fg rfl rfl rfl) ?_
  refine aa rfl (bw rfl rfl (by constructor)) ?_
  refine yA rfl rfl ?_
  refine yN ?_
  dsimp only [St.put]
  refine K2 _ ?_
  refine ar ?_
  refine bc rfl (by constructor) zN zS ?_
  exact vb (by simp [qy, h1])
 have h1 : n8 p = true := by simpa using hs
 refine yK rfl ?_
 refine yK rfl ?_
 refine yK rfl ?_
 refine aa rfl (cm rfl rfl (by constructor)) ?_
 refine yA rfl rfl ?_
 refine yN ?_
 dsimp only [St.put]
 refine K2 _ ?_
 refine ar ?_
 refine bc rfl (by constructor) zN zS ?_
 exact vb (by simp [qy, h1])
end Go.Proofs.YtbbdginipiljdaaGreatDoor
namespace Go.AB
open Go Go.RowKit
open Go.AB.Enc (cells)
open Go.PB (aw ai PlaceD ba bf bd bn aq af cj bj)
end Go.AB
namespace Go.AB
open Go Go.RowKit
open Go.AB.Enc (cells)
open Go.PB (aw ai PlaceD ba bf bd bn aq af cj bj cz c5)
theorem ukg {P : Program} {o : Oper} {st : St} {xt yt : TypeId} {x y : Operand} {m n r : Int} (hr : m % n = r) (ho : o.op = .binOp .rem xt x y yt) (hx : evC st x = .v (.int .i64 m)) (hy : evC st y = .v (.int .i64 n)) (hm : 0 ≤ m ∧ m ≤ 9223372036854775807) (hn : 0 < n) : NStep P o st (.v (.int .i64 r)) := hr ▸ n_rem ho hx hy hm hn
section
variable {p : af} {i : Nat} {x : aq}
theorem w7 (h : cg p = 0) (hx : p.pages[i]? = some x) : ed p (i : Int) = 0 := by
 have := (List.getElem?_eq_some_iff.1 hx).1
 unfold ed
 rw [decide_eq_true h, cond_true, inB_true.2 (by omega)]
 rfl
theorem ucd (hx : p.pages[i]? = some x) : l5 p (i : Int) = x := by
 unfold l5
 rw [Int.toNat_natCast, hx]; rfl
end
end Go.AB
namespace Go.Proofs.YtbbdginipiljdaaGreatDoor
set_option maxRecDepth 10000
open Go Go.RowKit Go.AB
open Go.AB.Enc (cells)
open Go.PB (aw ai PlaceD ba bf bd bn aq af cj bj cz c5)
section
variable {p : af} {i : Nat} {x : aq}
theorem ulq (n : Nat) (h : cg p = 0) (hx : p.pages[i]? = some x) : ei n eg Tryz.prog 62 [val p, .v (.int .i64 (i : Int))] (.tup [.v (.int .i64 (el p.text x : Int)), .v (.int .i64 0)]) := by
 have := uce n p (i : Int)
 rwa [w7 h hx, show nj p (i : Int) = (el p.text x : Int) by unfold nj; rw [w7 h hx, ucd hx]; rfl] at this
theorem ulv (n : Nat) (h : cg p = 0) (hx : p.pages[i]? = some x) : ei n eg Tryz.prog 64 [val p, .v (.int .i64 (i : Int))] (.tup [lst (dm p.text x), .v (.int .i64 0)]) := by
 have := ucj n p (i : Int)
 rwa [w7 h hx, show ph p (i : Int) = dm p.text x by unfold ph; rw [w7 h hx, ucd hx]; rfl] at this
end
end Go.Proofs.YtbbdginipiljdaaGreatDoor
namespace Go.AB
open Go Go.RowKit
open Go.AB.Enc (cells)
open Go.PB (aw ai PlaceD ba bf bd bn aq af cj bj cz c5)
theorem ua0 {l : List Int} {k : Nat} {z : Int} (h : l[k]? = some z) : (l.take (k + 1)).sum = (l.take k).sum + z := by
 rw [List.take_add_one, h, Option.toList_some, List.sum_append]; simp
theorem ua1 {l : List Int} {m : Int} (h0 : 0 ≤ m) (h : ∀ z ∈ l, -m ≤ z ∧ z ≤ m) : ∀ k, k ≤ l.length → -(k * m) ≤ (l.take k).sum ∧ (l.take k).sum ≤ k * m
 | 0, _ => by simp
 | k + 1, hk => by
  have ih := ua1 h0 h k (by omega)
  have e := List.getElem?_eq_getElem (show k < l.length by omega)
  have hz := h _ (List.mem_of_getElem? e)
  rw [ua0 e]
  have e2 : ((k + 1 : Nat) : Int) * m = (k : Int) * m + m := by rw [Int.natCast_add, Int.add_mul]; simp
  omega
theorem ukx {l : List Int} {k : Nat} {z n : Int} (h : l[k]? = some z) : n ∈ l.take (k + 1) ↔ n ∈ l.take k ∨ n = z := by rw [List.take_add_one, h]; simp
theorem uax {p : af} (h : dg p) (j : Nat) : 0 ≤ cn p j ∧ cn p j ≤ 600 := by
 refine ⟨ug6 p j, ?_⟩
 have hq := nh h.text
 unfold cn j2
 cases p.pages[j]? with
 | none => show (0 : Int) ≤ 600; omega
 | some x => have := ua p.text x; show ((dm p.text x).length : Int) ≤ 600; omega
end Go.AB
namespace Go.Proofs.YtbbdginipiljdaaGreatDoor
set_option maxRecDepth 10000
open Go Go.RowKit Go.AB
open Go.AB.Enc (cells)
open Go.PB (aw ai PlaceD ba bf bd bn aq af cj bj cz c5)
theorem upc (l : List Int) (hl : l.length ≤ 100) (hb : ∀ z ∈ l, -1000000000 ≤ z ∧ z ≤ 1000000000) : Pure Tryz.prog 30 [lst l] (.v (.int .i64 l.sum)) := by
 refine ct Tryz.func30 rfl (fun m => .v) fun G nx => ?_
 simp only [Tryz.ntmps30, List.length_cons, List.length_nil, Nat.reduceAdd, Nat.reduceSub]
 refine bu fun hlt => ?_
 dsimp only at hlt
 refine yS fun _ K1 => ?_
 refine yR ?_
 refine yA rfl rfl ?_
 refine yN ?_
 dsimp only [St.put]
 refine K1 _ ?_
 refine yS fun _ K2 => ?_
 refine yR ?_
 refine yA rfl rfl ?_
 refine yN ?_
 dsimp only [St.put]
 refine K2 _ ?_
 refine yS fun _ K3 => ?_
 refine yS fun _ K4 => ?_
 refine yR ?_
 refine yM rfl rfl ?_
 refine aa rfl (bg rfl rfl (List.length_map _)) ?_
 refine yM rfl rfl ?_
 refine yN ?_
 dsimp only [St.put]
 refine K4 _ ?_
 refine az ?_
 refine ce 9 ?_
 refine zQ ?_
 refine cy (G) zX ?_
 dsimp only
 refine cx (X := Nat) (fun k => k ≤ l.length) (fun k => l.length - k) (fun k => [(3, .v (.int .i64 (l.take k).sum)), (5, .any), (8, .v (.int .i64 (k : Int)))]) (fun k G' => G') 0 rfl ?_ ?_ (fun _ _ h => h) ?_ ?_ ?_
 ·exact Nat.zero_le _
 ·exact zF
 ·rintro k hI
  exact zL
 ·exact fun _ _ _ _ h => .inl h
 rintro k hI
 dsimp only at hI ⊢
 refine yS fun _ K5 => ?_
 refine yR ?_
 refine aa rfl (cb rfl rfl rfl) ?_
 refine yN ?_
 dsimp only [St.put]
 refine K5 _ ?_
 refine yS fun _ K6 => ?_
 refine am rfl (fun hc => ?_) (fun hc => ?_)
 ·replace hc := of_decide_eq_true hc
  obtain ⟨z, hz⟩ : ∃ z, l[k]? = some z := c7 (by omega)
  have h1 := ua1 (m := 1000000000) (by omega) hb k (by omega)
  have h2 := hb z (fm hz)
  refine av ?_
  refine K6 _ ?_
  refine yS fun _ K7 => ?_
  refine az ?_
  refine yS fun _ K8 => ?_
  refine yR ?_
  refine aa rfl (bp rfl rfl rfl rfl (bk (by assumption)) (Enc.len _)) ?_
  refine yL rfl rfl rfl ?_
  refine yA rfl rfl ?_
  refine yN ?_
  dsimp only [St.put]
  refine K8 _ ?_
  refine yR ?_
  refine yM rfl rfl ?_
  refine yM rfl rfl ?_
  refine aa rfl (bq rfl rfl rfl (by omega)) ?_
  refine yA rfl rfl ?_
  refine yN ?_
  dsimp only [St.put]
  refine K7 _ ?_
  refine yR ?_
  refine aa rfl (bq rfl rfl rfl (by omega)) ?_
  refine yM rfl rfl ?_
  refine yN ?_
  dsimp only [St.put]
  rw [← ua0 hz]
  exact ⟨k + 1, by omega, by omega, ⟨⟨rfl, rfl⟩, zF, zB, zN, zX⟩⟩
 replace hc := of_decide_eq_false hc
 refine cv ?_
 refine K3 _ ?_
 refine yS fun _ K9 => ?_
 refine yR ?_
 refine yM rfl rfl ?_
 refine yA rfl rfl ?_
 refine yN ?_
 dsimp only [St.put]
 refine K9 _ ?_
 refine ar ?_
 refine bc rfl (by constructor) zN zS ?_
 exact vi (by rw [fu (show l.length ≤ k by omega)])
theorem m9 (l : List Int) (n : Int) (hl : l.length ≤ 100) : Pure Tryz.prog 36 [lst l, .v (.int .i64 n)] (.v (.bool (decide (n ∈ l)))) := by
 refine ct Tryz.func36 rfl (fun m => .v) fun G nx => ?_
 simp only [Tryz.ntmps36, List.length_cons, List.length_nil, Nat.reduceAdd, Nat.reduceSub]
 refine bu fun hlt => ?_
 dsimp only at hlt
 refine yS fun _ K1 => ?_
 refine yR ?_
 refine yA rfl rfl ?_
 refine yN ?_
 dsimp only [St.put]
 refine K1 _ ?_
 refine yS fun _ K2 => ?_
 refine yS fun _ K3 => ?_
 refine yR ?_
 refine yM rfl rfl ?_
 refine aa rfl (bg rfl rfl (List.length_map _)) ?_
 refine yM rfl rfl ?_
 refine yN ?_
 dsimp only [St.put]
 refine K3 _ ?_
 refine az ?_
 refine ce 10 ?_
 refine zQ ?_
 refine cy (G) zX ?_
 dsimp only
 refine cx (X := Nat) (fun k => k ≤ l.length ∧ n ∉ l.take k) (fun k => l.length - k) (fun k => [(6, .any), (9, .v (.int .i64 (k : Int)))]) (fun k G' => G') 0 rfl ?_ ?_ (fun _ _ h => h) ?_ ?_ ?_
 ·exact ⟨Nat.zero_le _, by simp⟩
 ·exact zF
 ·rintro k hI
  exact zL
 ·exact fun _ _ _ _ h => .inl h
 rintro k hI
 dsimp only at hI ⊢
 refine yS fun _ K4 => ?_
 refine yR ?_
 refine aa rfl (cb rfl rfl rfl) ?_
 refine yN ?_
 dsimp only [St.put]
 refine K4 _ ?_
 refine yS fun _ K5 => ?_
 refine am rfl (fun hc => ?_) (fun hc => ?_)
 ·replace hc := of_decide_eq_true hc
  obtain ⟨z, hz⟩ : ∃ z, l[k]? = some z := c7 (by omega)
  refine av ?_
  refine K5 _ ?_
  refine yS fun _ K6 => ?_
  refine az ?_
  refine yS fun _ K7 => ?_
  refine yR ?_
  refine aa rfl (bp rfl rfl rfl rfl (bk (by assumption)) (Enc.len _)) ?_
  refine yL rfl rfl rfl ?_
  refine yA rfl rfl ?_
  refine yN ?_
  dsimp only [St.put]
  refine K7 _ ?_
  refine yS fun _ K8 => ?_
  refine yR ?_
  refine yM rfl rfl ?_
  refine yM rfl rfl ?_
  refine aa rfl (fg rfl rfl rfl) ?_
  refine yN ?_
  dsimp only [St.put]
  refine K8 _ ?_
  refine am rfl (fun hc => ?_) (fun hc => ?_)
  ·have heq := of_decide_eq_true hc
   refine yS fun _ K9 => ?_
   refine yR ?_
   refine yA rfl rfl ?_
   refine yN ?_
   dsimp only [St.put]
   refine K9 _ ?_
   refine ar ?_
   refine bc rfl (by constructor) zN zS ?_
   exact vb (decide_eq_true (by rw [← heq]; exact fm hz)).symm
  have hne := of_decide_eq_false hc
  refine av ?_
  refine K6 _ ?_
  refine yR ?_
  refine aa rfl (bq rfl rfl rfl (by omega)) ?_
  refine yM rfl rfl ?_
  refine yN ?_
  dsimp only [St.put]
  exact ⟨k + 1, by omega, ⟨by omega, by rw [ukx hz]; rintro (h | h); exact hI.2 h; exact hne h.symm⟩, ⟨⟨rfl, rfl⟩, zF, zB, zN, zX⟩⟩
 replace hc := of_decide_eq_false hc
 refine cv ?_
 refine K2 _ ?_
 refine yS fun _ K10 => ?_
 refine yR ?_
 refine yA rfl rfl ?_
 refine yN ?_
 dsimp only [St.put]
 refine K10 _ ?_
 refine ar ?_
 refine bc rfl (by constructor) zN zS ?_
 exact vb (decide_eq_false (by
  have := hI.2
  rwa [fu (show l.length ≤ k by omega)] at this)).symm
theorem ulu (n : Nat) (p : af) (h : cg p = 0) : ei n eg Tryz.prog 27 [val p] (.tup [lst (bh p.pages.length (cn p)), .v (.bool true)]) := fun G nx hF hnx => by
 refine g7 (G) (nx) Tryz.func27 rfl (.tup (cc (br _ _) (cc .v da))) zN (fun hlt => zH) ?_
 simp only [Tryz.ntmps27, List.length_cons, List.length_nil, Nat.reduceAdd, Nat.reduceSub]
 refine bu fun hlt => ?_
 dsimp only at hlt
 have hnp := (lg h).1.np
 refine yS fun _ K1 => ?_
 refine yR ?_
 try dsimp only [St.put]
 refine yB rfl rfl rfl ?_
 refine yA rfl rfl ?_
 refine yA rfl rfl ?_
 refine yN ?_
 dsimp only [St.put]
 refine K1 _ ?_
 refine yS fun _ K2 => ?_
 refine yR ?_
 refine yA rfl rfl ?_
 refine yN ?_
 dsimp only [St.put]
 refine K2 _ ?_
 refine oo 4 3 1 rfl (by decide) ?_
 dsimp only [List.set_cons_zero, List.set_cons_succ]
 refine yS fun _ K3 => ?_
 refine yS fun _ K4 => ?_
 refine yR ?_
 refine yF rfl rfl rfl rfl ?_
 refine yL rfl rfl rfl ?_
 refine aa rfl (bg rfl rfl (List.length_map _)) ?_
 refine yM rfl rfl ?_
 refine yN ?_
 dsimp only [St.put]
 refine K4 _ ?_
 refine az ?_
 refine ce 12 ?_
 refine zQ ?_
 refine cy ((ak G nx (.tip (bh 0 (cn p)).length 3 1))) zX ?_
 dsimp only
 refine cx (X := Nat) (fun k => k ≤ p.pages.length) (fun k => p.pages.length - k) (fun k => [(4, .list ((bh k (cn p)).map cells) (.tip nx)), (5, .any), (6, .any), (7, .any), (11, .v (.int .i64 (k : Int)))]) (fun k G' => (ak G nx (.tip (bh k (cn p)).length 3 1))) 0 rfl ?_ ?_ ?_ ?_ ?_ ?_
 ·exact Nat.zero_le _
 ·exact zF
 ·exact zX
 ·rintro k hI
  exact zL
 ·rintro k hI
  exact zH
 rintro k hI
 dsimp only at hI ⊢
 refine yS fun _ K5 => ?_
 refine yR ?_
 refine aa rfl (cb rfl rfl rfl) ?_
 refine yN ?_
 dsimp only [St.put]
 refine K5 _ ?_
 refine yS fun _ K6 => ?_
 refine am rfl (fun hc => ?_) (fun hc => ?_)
 ·replace hc := of_decide_eq_true hc
  obtain ⟨x, hx⟩ : ∃ x, p.pages[k]? = some x := c7 (by omega)
  have e := pq k (cn p)
  rw [show cn p k = ((dm p.text x).length : Int) from my hx _] at e
  have hll := gk k (cn p)
  refine av ?_
  refine K6 _ ?_
  refine yS fun _ K7 => ?_
  refine az ?_
  refine yS fun _ K8 => ?_
  refine yR ?_
  refine yM rfl rfl ?_
  refine yA rfl rfl ?_
  refine yN ?_
  dsimp only [St.put]
  refine K8 _ ?_
  refine yS fun _ K9 => ?_
  refine yR ?_
  refine yE rfl rfl rfl ?_
  refine yM rfl rfl ?_
  try dsimp only [St.put]
  refine ae rfl ((dw rfl rfl rfl ((ulv n h hx)) zG (by dsimp only [St.put]; omega) ?_))
  refine yM rfl rfl ?_
  refine yX rfl rfl rfl rfl ?_
  refine yX rfl rfl rfl rfl ?_
  refine yA rfl rfl ?_
  refine yA rfl rfl ?_
  refine yN ?_
  dsimp only [St.put]
  refine K9 _ ?_
  refine yS fun _ K10 => ?_
  refine yS fun _ K11 => ?_
  refine yR ?_
  refine yM rfl rfl ?_
  refine aa rfl (dz (c := false) (et rfl rfl rfl) (p7 rfl)) ?_
  refine yN ?_
  dsimp only [St.put]
  refine K11 _ ?_
  refine am rfl (fun h => by cases h) (fun _ => ?_)
  refine av ?_
  refine K10 _ ?_
  refine yR ?_
  refine yM rfl rfl ?_
  refine yM rfl rfl ?_
  refine aa rfl (bg rfl rfl (List.length_map _)) ?_
  try dsimp only [St.put]
  refine ae rfl (dj rfl rfl rfl (by decide) (by decide) zR (by decide) ?_)
  try dsimp only [St.put]
  refine ae rfl (jc ([((dm p.text x).length : Int)]) rfl rfl zG zE rfl rfl zA ?_ zA)
  refine yA rfl rfl ?_
  refine yN ?_
  dsimp only [St.put]
  refine K7 _ ?_
  refine yR ?_
  refine aa rfl (bq rfl rfl rfl (by omega)) ?_
  refine yM rfl rfl ?_
  refine yN ?_
  dsimp only [St.put]
  rw [← e]
  exact ⟨k + 1, by omega, by omega, ⟨⟨rfl, rfl⟩, zF, zB, zN, zX⟩⟩
 replace hc := of_decide_eq_false hc
 obtain rfl : k = p.pages.length := by omega
 refine cv ?_
 refine K3 _ ?_
 refine yS fun _ K12 => ?_
 refine yR ?_
 refine yM rfl rfl ?_
 refine yA rfl rfl ?_
 refine yA rfl rfl ?_
 refine yN ?_
 dsimp only [St.put]
 refine K12 _ ?_
 refine ar ?_
 refine gy rfl (dx (by constructor)) (dx (by constructor)) zN zS ?_ ?_
 ·exact zW
 exact zW
theorem ulp (n : Nat) (p : af) (h : fa p (cg p) = 0) : ei n eg Tryz.prog 15 [val p] (.tup [lst (bh p.pages.length (fp p)), .v (.int .i64 0)]) := by
 have := ye n p
 rwa [h, show mp p = bh p.pages.length (fp p) by unfold mp; rw [h]; rfl] at this
end Go.Proofs.YtbbdginipiljdaaGreatDoor
namespace Go.PB
/-- what is told of all pages and readers -/
structure pn where
 words : List Int
 told : List Int
 firsts : List Int
 seconds : List Int
end Go.PB
namespace Go.AB
open Go Go.RowKit
open Go.AB.Enc (cells)
open Go.PB (aw ai PlaceD ba bf bd bn aq af cj bj cz c5 pn)
instance : Enc pn := ⟨fun x => [lst x.words, lst x.told, lst x.firsts, lst x.seconds], 4, fun _ => rfl, fun m x c h => by
 simp only [List.mem_cons, List.not_mem_nil, or_false] at h
 rcases h with rfl | rfl | rfl | rfl
 ·exact br m _
 ·exact br m _
 ·exact br m _
 ·exact br m _, fun x c h => by
 simp only [List.mem_cons, List.not_mem_nil, or_false] at h; rcases h with rfl | rfl | rfl | rfl <;> rfl⟩
def pc (p : af) : pn := ⟨bh p.pages.length (fq p), bh p.pages.length (cn p), bh p.firsts.length (cw p false), bh p.seconds.length (cw p true)⟩
theorem Rs.wk {E : Env} {w : World} : ∀ {cs cs' : List C} {vs : List Value}, Wks cs cs' → Rs E w cs vs → Rs E w cs' vs := fun {cs cs' vs} hw h =>
 ⟨hw.len ▸ h.1, fun j c v hj hv => by
  obtain ⟨c0, h1, h2⟩ := hw.get j c hj
  exact h2.2 _ _ _ (h.2 j c0 v h1 hv)⟩
theorem Pure.wk {P : Program} {f : FuncId} {al bl : List C} {r : C} (h : Pure P f bl r) (hw : Wks al bl) : Pure P f al r := fun G nx E w vs h3 h4 => h G nx E w vs (h3.wk hw) h4
theorem ujf {p : af} (h : dg p) (F S but : List Int) (j : Nat) : -1200 ≤ bx p F S but j ∧ bx p F S but j ≤ 1200 := by
 have h1 := uax h j
 have h2 := w4 h j
 unfold bx j2
 unfold cn j2 at h1
 unfold cr j2 at h2
 cases hx : p.pages[j]? with
 | none => show (-1200 : Int) ≤ 0 ∧ (0 : Int) ≤ 1200; omega
 | some x =>
  rw [hx] at h1 h2
  dsimp only at h1 h2 ⊢
  cases !decide (x.fst ∈ F) && !decide (x.snd ∈ S) && !decide ((j : Int) ∈ but) <;> cases decide (x.fst ∈ F) <;> cases decide (x.snd ∈ S) <;> simp only [cond_true, cond_false] <;> omega
theorem ua2 {p : af} (h : dg p) (F S but : List Int) (k : Nat) (hk : k ≤ 8) : -9600 ≤ sm k (bx p F S but) ∧ sm k (bx p F S but) ≤ 9600 := by
 have := uz (g := bx p F S but) (m := 1200) (fun j => ujf h F S but j) k
 omega
theorem eo (k : Nat) (g : Nat → Int) : sm (k + 1) g = sm k g + g k := rfl
theorem udx {l : List Int} {g : Int → Int} {k : Nat} {z : Int} (h : l[k]? = some z) : ib (l.take (k + 1)) g = ib (l.take k) g + g z := by
 rw [List.take_add_one, h, Option.toList_some, udy]
theorem wc {g : Int → Int} (hg : ∀ z, 0 ≤ g z ∧ g z ≤ 48000) : ∀ l : List Int, 0 ≤ ib l g ∧ ib l g ≤ l.length * 48000
 | [] => by simp [ib]
 | z :: l => by
  have ih := wc hg l
  have := hg z
  have e : ib (z :: l) g = g z + ib l g := by simp [ib]
  have e2 : ((z :: l).length : Int) * 48000 = (l.length : Int) * 48000 + 48000 := by rw [List.length_cons, Int.natCast_add, Int.add_mul]; simp
  omega
end Go.AB
namespace Go.Proofs.YtbbdginipiljdaaGreatDoor
set_option maxRecDepth 10000
open Go Go.RowKit Go.AB
open Go.AB.Enc (cells)
open Go.PB (aw ai PlaceD ba bf bd bn aq af cj bj cz c5 pn)
theorem udu (n : Nat) (p : af) (b : Bool) (h : cg p = 0) {i : Nat} (hi : i < (di p b).length) : ei n eg Tryz.prog 29 [val p, .v (.bool b), .v (.int .i64 (i : Int))] (.tup [.v (.int .i64 (cw p b i)), .v (.int .i64 0)]) := by
 have := uck n p b (i : Int)
 have e : jt p b (i : Int) = 0 := by
  unfold jt
  rw [decide_eq_true h, cond_true, inB_true.2 (by omega)]; rfl
 rwa [e, show mh p b (i : Int) = cw p b i by unfold mh; rw [e, Int.toNat_natCast]; rfl] at this
set_option maxHeartbeats 2000000 in
theorem ul0 (n : Nat) (p : af) (h : cg p = 0) : ei n eg Tryz.prog 31 [val p] (.tup [val (pc p), .v (.bool true)]) := fun G nx hF hnx => by
 refine g7 (G) (nx) Tryz.func31 rfl (.tup (cc (ec _ _) (cc .v da))) zN (fun hlt => zH) ?_
 simp only [Tryz.ntmps31, List.length_cons, List.length_nil, Nat.reduceAdd, Nat.reduceSub]
 refine bu fun hlt => ?_
 dsimp only at hlt
 have hok := (lg h).1
 have hn1 := hok.nf
 have hn2 := hok.ns
 have hnp := hok.np
 have hal := nh hok.text
 have hs1 : (di p false).length = p.firsts.length := rfl
 have hs2 : (di p true).length = p.seconds.length := rfl
 refine yS fun _ K1 => ?_
 refine yR ?_
 try dsimp only [St.put]
 refine yB rfl rfl rfl ?_
 try dsimp only [St.put]
 refine ae rfl (dr rfl ?_)
 refine yA rfl rfl ?_
 refine yN ?_
 dsimp only [St.put]
 refine K1 _ ?_
 refine yS fun _ K2 => ?_
 refine yR ?_
 try dsimp only [St.put]
 refine ae rfl (dr rfl ?_)
 refine yN ?_
 dsimp only [St.put]
 refine K2 _ ?_
 refine om (nx + 1) 0 _ _ 3 1 zG rfl (by decide) ?_
 refine om (nx + 1) 2 _ _ 3 1 zG rfl (by decide) ?_
 refine om (nx + 1) 3 _ _ 3 1 zG rfl (by decide) ?_
 dsimp only [List.set_cons_zero, List.set_cons_succ]
 refine yS fun _ K3 => ?_
 refine yR ?_
 refine yE rfl rfl rfl ?_
 try dsimp only [St.put]
 refine ae rfl ((dw rfl rfl rfl ((ulu n p h)) zG (by dsimp only [St.put]; omega) ?_))
 refine yM rfl rfl ?_
 refine yX rfl rfl rfl rfl ?_
 refine yX rfl rfl rfl rfl ?_
 refine yA rfl rfl ?_
 refine yA rfl rfl ?_
 refine yN ?_
 dsimp only [St.put]
 refine K3 _ ?_
 refine yS fun _ K4 => ?_
 refine yS fun _ K5 => ?_
 refine yR ?_
 refine yM rfl rfl ?_
 refine aa rfl (dl rfl rfl) ?_
 refine yN ?_
 dsimp only [St.put]
 refine K5 _ ?_
 refine am rfl (fun h => by cases h) (fun _ => ?_)
 refine av ?_
 refine K4 _ ?_
 refine yS fun _ K6 => ?_
 refine yR ?_
 refine yM rfl rfl ?_
 refine aa rfl (eb rfl rfl) ?_
 try dsimp only [St.put]
 refine ae rfl (jb rfl rfl rfl zG (by constructor) rfl (by show 1 < 4; decide) ?_)
 refine yN ?_
 dsimp only [St.put]
 refine K6 _ ?_
 refine yS fun _ K7 => ?_
 refine yS fun _ K8 => ?_
 refine yR ?_
 refine yF rfl rfl rfl rfl ?_
 refine yL rfl rfl rfl ?_
 refine aa rfl (bg rfl rfl (List.length_map _)) ?_
 refine yM rfl rfl ?_
 refine yN ?_
 dsimp only [St.put]
 refine K8 _ ?_
 refine az ?_
 refine ce 30 ?_
 refine zQ ?_
 refine cy ((ak (ak (ak (ak (ak G nx (.box 0 [.list [] .nil, .list [] .nil, .list [] .nil, .list [] .nil])) (nx + 1) (.box (1) [.list ((bh 0 (fq p)).map cells) (.tip (nx + 1 + 1)), lst (bh p.pages.length (cn p)), .list ((bh 0 (cw p false)).map cells) (.tip (nx + 1 + 1 + 1)), .list ((bh 0 (cw p true)).map cells) (.tip (nx + 1 + 1 + 1 + 1))])) (nx + 1 + 1) (.tip (bh 0 (fq p)).length 3 1)) (nx + 1 + 1 + 1) (.tip (bh 0 (cw p false)).length 3 1)) (nx + 1 + 1 + 1 + 1) (.tip (bh 0 (cw p true)).length 3 1))) zX ?_
 dsimp only
 refine cx (X := Nat) (fun k => k ≤ p.pages.length) (fun k => p.pages.length - k) (fun k => [(7, .any), (8, .any), (9, .any), (29, .v (.int .i64 (k : Int)))]) (fun k G' => (ak (ak (ak (ak (ak G nx (.box 0 [.list [] .nil, .list [] .nil, .list [] .nil, .list [] .nil])) (nx + 1) (.box ((1 + k)) [.list ((bh k (fq p)).map cells) (.tip (nx + 1 + 1)), lst (bh p.pages.length (cn p)), .list ((bh 0 (cw p false)).map cells) (.tip (nx + 1 + 1 + 1)), .list ((bh 0 (cw p true)).map cells) (.tip (nx + 1 + 1 + 1 + 1))])) (nx + 1 + 1) (.tip (bh k (fq p)).length 3 1)) (nx + 1 + 1 + 1) (.tip (bh 0 (cw p false)).length 3 1)) (nx + 1 + 1 + 1 + 1) (.tip (bh 0 (cw p true)).length 3 1))) 0 rfl ?_ ?_ ?_ ?_ ?_ ?_
 ·exact Nat.zero_le _
 ·exact zF
 ·exact zX
 ·rintro k hI
  exact zL
 ·rintro k hI
  exact zH
 rintro k hI
 dsimp only at hI ⊢
 refine yS fun _ K9 => ?_
 refine yR ?_
 refine aa rfl (cb rfl rfl rfl) ?_
 refine yN ?_
 dsimp only [St.put]
 refine K9 _ ?_
 refine yS fun _ K10 => ?_
 refine am rfl (fun hc => ?_) (fun hc => ?_)
 ·replace hc := of_decide_eq_true hc
  obtain ⟨x, hx⟩ : ∃ x, p.pages[k]? = some x := c7 (by omega)
  have e := pq k (fq p)
  rw [show fq p k = (el p.text x : Int) from my hx _] at e
  have hll := gk k (fq p)
  have hwx := si p.text x
  refine av ?_
  refine K10 _ ?_
  refine yS fun _ K11 => ?_
  refine az ?_
  refine yS fun _ K12 => ?_
  refine yR ?_
  refine yM rfl rfl ?_
  refine yA rfl rfl ?_
  refine yN ?_
  dsimp only [St.put]
  refine K12 _ ?_
  refine yS fun _ K13 => ?_
  refine yR ?_
  refine yE rfl rfl rfl ?_
  refine yM rfl rfl ?_
  try dsimp only [St.put]
  refine ae rfl ((dw rfl rfl rfl ((ulq n h hx)) zG (by dsimp only [St.put]; omega) ?_))
  refine yM rfl rfl ?_
  refine yX rfl rfl rfl rfl ?_
  refine yX rfl rfl rfl rfl ?_
  refine yA rfl rfl ?_
  refine yA rfl rfl ?_
  refine yN ?_
  dsimp only [St.put]
  refine K13 _ ?_
  refine yS fun _ K14 => ?_
  refine yS fun _ K15 => ?_
  refine yR ?_
  refine yM rfl rfl ?_
  refine aa rfl (dz (c := false) (et rfl rfl rfl) (p7 rfl)) ?_
  refine yN ?_
  dsimp only [St.put]
  refine K15 _ ?_
  refine am rfl (fun h => by cases h) (fun _ => ?_)
  refine av ?_
  refine K14 _ ?_
  refine yR ?_
  refine aa rfl (eb rfl rfl) ?_
  try dsimp only [St.put]
  refine bz rfl (fe rfl rfl zG trivial (by first | rfl | assumption)) ?_
  refine yM rfl rfl ?_
  try dsimp only [St.put]
  refine ae rfl (dj rfl rfl rfl (by decide) (by decide) zR (by decide) ?_)
  try dsimp only [St.put]
  refine ae rfl (jc ([(el p.text x : Int)]) rfl rfl zG zE rfl rfl zA ?_ zA)
  refine aa rfl (eb rfl rfl) ?_
  try dsimp only [St.put]
  refine ae rfl (jb rfl rfl rfl zG (by constructor) rfl zO ?_)
  refine yN ?_
  dsimp only [St.put]
  refine K11 _ ?_
  refine yR ?_
  refine aa rfl (bq rfl rfl rfl (by omega)) ?_
  refine yM rfl rfl ?_
  refine yN ?_
  dsimp only [St.put]
  rw [← e]
  exact ⟨k + 1, by omega, by omega, ⟨⟨rfl, rfl⟩, zF, zB, zN, zX⟩⟩
 replace hc := of_decide_eq_false hc
 obtain rfl : k = p.pages.length := by omega
 refine cv ?_
 refine K7 _ ?_
 refine yS fun _ K16 => ?_
 refine yS fun _ K17 => ?_
 refine yR ?_
 refine yF rfl rfl rfl rfl ?_
 refine yL rfl rfl rfl ?_
 refine aa rfl (bg rfl rfl (List.length_map _)) ?_
 refine yM rfl rfl ?_
 refine yN ?_
 dsimp only [St.put]
 refine K17 _ ?_
 refine az ?_
 refine ce 52 ?_
 refine zQ ?_
 refine cy ((ak (ak (ak (ak (ak G nx (.box 0 [.list [] .nil, .list [] .nil, .list [] .nil, .list [] .nil])) (nx + 1) (.box ((1 + p.pages.length)) [.list ((bh p.pages.length (fq p)).map cells) (.tip (nx + 1 + 1)), lst (bh p.pages.length (cn p)), .list ((bh 0 (cw p false)).map cells) (.tip (nx + 1 + 1 + 1)), .list ((bh 0 (cw p true)).map cells) (.tip (nx + 1 + 1 + 1 + 1))])) (nx + 1 + 1) (.tip (bh p.pages.length (fq p)).length 3 1)) (nx + 1 + 1 + 1) (.tip (bh 0 (cw p false)).length 3 1)) (nx + 1 + 1 + 1 + 1) (.tip (bh 0 (cw p true)).length 3 1))) zX ?_
 dsimp only
 refine cx (X := Nat) (fun i => i ≤ p.firsts.length) (fun i => p.firsts.length - i) (fun i => [(10, .any), (11, .any), (12, .any), (51, .v (.int .i64 (i : Int)))]) (fun i G' => (ak (ak (ak (ak (ak G nx (.box 0 [.list [] .nil, .list [] .nil, .list [] .nil, .list [] .nil])) (nx + 1) (.box ((1 + p.pages.length + i)) [.list ((bh p.pages.length (fq p)).map cells) (.tip (nx + 1 + 1)), lst (bh p.pages.length (cn p)), .list ((bh i (cw p false)).map cells) (.tip (nx + 1 + 1 + 1)), .list ((bh 0 (cw p true)).map cells) (.tip (nx + 1 + 1 + 1 + 1))])) (nx + 1 + 1) (.tip (bh p.pages.length (fq p)).length 3 1)) (nx + 1 + 1 + 1) (.tip (bh i (cw p false)).length 3 1)) (nx + 1 + 1 + 1 + 1) (.tip (bh 0 (cw p true)).length 3 1))) 0 rfl ?_ ?_ ?_ ?_ ?_ ?_
 ·exact Nat.zero_le _
 ·exact zF
 ·exact zX
 ·rintro i hI
  exact zL
 ·rintro i hI
  exact zH
 rintro i hJ
 dsimp only at hJ ⊢
 refine yS fun _ K18 => ?_
 refine yR ?_
 refine aa rfl (cb rfl rfl rfl) ?_
 refine yN ?_
 dsimp only [St.put]
 refine K18 _ ?_
 refine yS fun _ K19 => ?_
 refine am rfl (fun hc => ?_) (fun hc => ?_)
 ·replace hc := of_decide_eq_true hc
  have e := pq i (cw p false)
  have hll := gk i (cw p false)
  have hbb := oh hok false i
  refine av ?_
  refine K19 _ ?_
  refine yS fun _ K20 => ?_
  refine az ?_
  refine yS fun _ K21 => ?_
  refine yR ?_
  refine yM rfl rfl ?_
  refine yA rfl rfl ?_
  refine yN ?_
  dsimp only [St.put]
  refine K21 _ ?_
  refine yS fun _ K22 => ?_
  refine yR ?_
  refine yE rfl rfl rfl ?_
  refine yM rfl rfl ?_
  try dsimp only [St.put]
  refine ae rfl ((dw rfl rfl rfl ((udu n p false h (i := i) (by omega))) zG (by dsimp only [St.put]; omega) ?_))
  refine yM rfl rfl ?_
  refine yX rfl rfl rfl rfl ?_
  refine yX rfl rfl rfl rfl ?_
  refine yA rfl rfl ?_
  refine yA rfl rfl ?_
  refine yN ?_
  dsimp only [St.put]
  refine K22 _ ?_
  refine yS fun _ K23 => ?_
  refine yS fun _ K24 => ?_
  refine yR ?_
  refine yM rfl rfl ?_
  refine aa rfl (dz (c := false) (et rfl rfl rfl) (p7 rfl)) ?_
  refine yN ?_
  dsimp only [St.put]
  refine K24 _ ?_
  refine am rfl (fun h => by cases h) (fun _ => ?_)
  refine av ?_
  refine K23 _ ?_
  refine yR ?_
  refine aa rfl (eb rfl rfl) ?_
  try dsimp only [St.put]
  refine bz rfl (fe rfl rfl zG trivial (by first | rfl | assumption)) ?_
  refine yM rfl rfl ?_
  try dsimp only [St.put]
  refine ae rfl (dj rfl rfl rfl (by decide) (by decide) zR (by decide) ?_)
  try dsimp only [St.put]
  refine ae rfl (jc ([cw p false i]) rfl rfl zG zE rfl rfl zA ?_ zA)
  refine aa rfl (eb rfl rfl) ?_
  try dsimp only [St.put]
  refine ae rfl (jb rfl rfl rfl zG (by constructor) rfl zO ?_)
  refine yN ?_
  dsimp only [St.put]
  refine K20 _ ?_
  refine yR ?_
  refine aa rfl (bq rfl rfl rfl (by omega)) ?_
  refine yM rfl rfl ?_
  refine yN ?_
  dsimp only [St.put]
  rw [← e]
  exact ⟨i + 1, by omega, by omega, ⟨⟨rfl, rfl⟩, zF, zB, zN, zX⟩⟩
 replace hc := of_decide_eq_false hc
 obtain rfl : i = p.firsts.length := by omega
 refine cv ?_
 refine K16 _ ?_
 refine yS fun _ K25 => ?_
 refine yS fun _ K26 => ?_
 refine yR ?_
 refine yF rfl rfl rfl rfl ?_
 refine yL rfl rfl rfl ?_
 refine aa rfl (bg rfl rfl (List.length_map _)) ?_
 refine yM rfl rfl ?_
 refine yN ?_
 dsimp only [St.put]
 refine K26 _ ?_
 refine az ?_
 refine ce 74 ?_
 refine zQ ?_
 refine cy ((ak (ak (ak (ak (ak G nx (.box 0 [.list [] .nil, .list [] .nil, .list [] .nil, .list [] .nil])) (nx + 1) (.box ((1 + p.pages.length + p.firsts.length)) [.list ((bh p.pages.length (fq p)).map cells) (.tip (nx + 1 + 1)), lst (bh p.pages.length (cn p)), .list ((bh p.firsts.length (cw p false)).map cells) (.tip (nx + 1 + 1 + 1)), .list ((bh 0 (cw p true)).map cells) (.tip (nx + 1 + 1 + 1 + 1))])) (nx + 1 + 1) (.tip (bh p.pages.length (fq p)).length 3 1)) (nx + 1 + 1 + 1) (.tip (bh p.firsts.length (cw p false)).length 3 1)) (nx + 1 + 1 + 1 + 1) (.tip (bh 0 (cw p true)).length 3 1))) zX ?_
 dsimp only
 refine cx (X := Nat) (fun j => j ≤ p.seconds.length) (fun j => p.seconds.length - j) (fun j => [(13, .any), (14, .any), (15, .any), (73, .v (.int .i64 (j : Int)))]) (fun j G' => (ak (ak (ak (ak (ak G nx (.box 0 [.list [] .nil, .list [] .nil, .list [] .nil, .list [] .nil])) (nx + 1) (.box ((1 + p.pages.length + p.firsts.length + j)) [.list ((bh p.pages.length (fq p)).map cells) (.tip (nx + 1 + 1)), lst (bh p.pages.length (cn p)), .list ((bh p.firsts.length (cw p false)).map cells) (.tip (nx + 1 + 1 + 1)), .list ((bh j (cw p true)).map cells) (.tip (nx + 1 + 1 + 1 + 1))])) (nx + 1 + 1) (.tip (bh p.pages.length (fq p)).length 3 1)) (nx + 1 + 1 + 1) (.tip (bh p.firsts.length (cw p false)).length 3 1)) (nx + 1 + 1 + 1 + 1) (.tip (bh j (cw p true)).length 3 1))) 0 rfl ?_ ?_ ?_ ?_ ?_ ?_
 ·exact Nat.zero_le _
 ·exact zF
 ·exact zX
 ·rintro j hI
  exact zL
 ·rintro j hI
  exact zH
 rintro j hM
 dsimp only at hM ⊢
 refine yS fun _ K27 => ?_
 refine yR ?_
 refine aa rfl (cb rfl rfl rfl) ?_
 refine yN ?_
 dsimp only [St.put]
 refine K27 _ ?_
 refine yS fun _ K28 => ?_
 refine am rfl (fun hc => ?_) (fun hc => ?_)
 ·replace hc := of_decide_eq_true hc
  have e := pq j (cw p true)
  have hll := gk j (cw p true)
  have hbb := oh hok true j
  refine av ?_
  refine K28 _ ?_
  refine yS fun _ K29 => ?_
  refine az ?_
  refine yS fun _ K30 => ?_
  refine yR ?_
  refine yM rfl rfl ?_
  refine yA rfl rfl ?_
  refine yN ?_
  dsimp only [St.put]
  refine K30 _ ?_
  refine yS fun _ K31 => ?_
  refine yR ?_
  refine yE rfl rfl rfl ?_
  refine yM rfl rfl ?_
  try dsimp only [St.put]
  refine ae rfl ((dw rfl rfl rfl ((udu n p true h (i := j) (by omega))) zG (by dsimp only [St.put]; omega) ?_))
  refine yM rfl rfl ?_
  refine yX rfl rfl rfl rfl ?_
  refine yX rfl rfl rfl rfl ?_
  refine yA rfl rfl ?_
  refine yA rfl rfl ?_
  refine yN ?_
  dsimp only [St.put]
  refine K31 _ ?_
  refine yS fun _ K32 => ?_
  refine yS fun _ K33 => ?_
  refine yR ?_
  refine yM rfl rfl ?_
  refine aa rfl (dz (c := false) (et rfl rfl rfl) (p7 rfl)) ?_
  refine yN ?_
  dsimp only [St.put]
  refine K33 _ ?_
  refine am rfl (fun h => by cases h) (fun _ => ?_)
  refine av ?_
  refine K32 _ ?_
  refine yR ?_
  refine aa rfl (eb rfl rfl) ?_
  try dsimp only [St.put]
  refine bz rfl (fe rfl rfl zG trivial (by first | rfl | assumption)) ?_
  refine yM rfl rfl ?_
  try dsimp only [St.put]
  refine ae rfl (dj rfl rfl rfl (by decide) (by decide) zR (by decide) ?_)
  try dsimp only [St.put]
  refine ae rfl (jc ([cw p true j]) rfl rfl zG zE rfl rfl zA ?_ zA)
  refine aa rfl (eb rfl rfl) ?_
  try dsimp only [St.put]
  refine ae rfl (jb rfl rfl rfl zG (by constructor) rfl zO ?_)
  refine yN ?_
  dsimp only [St.put]
  refine K29 _ ?_
  refine yR ?_
  refine aa rfl (bq rfl rfl rfl (by omega)) ?_
  refine yM rfl rfl ?_
  refine yN ?_
  dsimp only [St.put]
  rw [← e]
  exact ⟨j + 1, by omega, by omega, ⟨⟨rfl, rfl⟩, zF, zB, zN, zX⟩⟩
 replace hc := of_decide_eq_false hc
 obtain rfl : j = p.seconds.length := by omega
 refine w6 (nx + 1) (1 + p.pages.length + p.firsts.length + p.seconds.length) (cells (pc p)) zG zW ?_
 refine cv ?_
 refine K25 _ ?_
 refine yS fun _ K34 => ?_
 refine yR ?_
 try dsimp only [St.put]
 refine bz rfl (iu rfl rfl zG trivial (by rfl)) ?_
 try dsimp only [St.put]
 refine ae rfl (c6 rfl rfl rfl zG rfl rfl (by rfl) ?_)
 refine yA rfl rfl ?_
 refine yN ?_
 dsimp only [St.put]
 refine K34 _ ?_
 refine ar ?_
 refine gy rfl (jv rfl zG (by rfl) zC rfl) (dx (by constructor)) zN zS ?_ ?_
 ·exact zW
 exact zW
set_option maxHeartbeats 2000000 in
theorem uds (p : af) (F S but : List Int) (h : dg p) (hF : ∀ z ∈ F, 0 ≤ z ∧ z < (p.firsts.length : Int)) (hS : ∀ z ∈ S, 0 ≤ z ∧ z < (p.seconds.length : Int)) (lF : F.length ≤ 20) (lS : S.length ≤ 20) (lB : but.length ≤ 20) : Pure Tryz.prog 32 [val (pc p), val p, lst F, lst S, lst but] (.v (.int .i64 (nz p F S but))) := by
 refine ct Tryz.func32 rfl (fun m => .v) fun G nx => ?_
 simp only [Tryz.ntmps32, List.length_cons, List.length_nil, Nat.reduceAdd, Nat.reduceSub]
 refine bu fun hlt => ?_
 dsimp only at hlt
 have hnp := h.np
 have hl1 := gk p.pages.length (fq p)
 have hl2 := gk p.pages.length (cn p)
 have hl3 := gk p.firsts.length (cw p false)
 have hk3 : (pc p).firsts.length = p.firsts.length := gk _ _
 have hk4 : (pc p).seconds.length = p.seconds.length := gk _ _
 have hl4 := gk p.seconds.length (cw p true)
 refine yS fun _ K1 => ?_
 refine yR ?_
 try dsimp only [St.put]
 refine yB rfl rfl rfl ?_
 try dsimp only [St.put]
 refine yB rfl rfl rfl ?_
 refine yA rfl rfl ?_
 refine yN ?_
 dsimp only [St.put]
 refine K1 _ ?_
 refine yS fun _ K2 => ?_
 refine yR ?_
 refine yA rfl rfl ?_
 refine yN ?_
 dsimp only [St.put]
 refine K2 _ ?_
 refine yS fun _ K3 => ?_
 refine yS fun _ K4 => ?_
 refine yR ?_
 refine yF rfl rfl rfl rfl ?_
 refine yL rfl rfl rfl ?_
 refine aa rfl (bg rfl rfl (List.length_map _)) ?_
 refine yM rfl rfl ?_
 refine yN ?_
 dsimp only [St.put]
 refine K4 _ ?_
 refine az ?_
 refine ce 22 ?_
 refine zQ ?_
 refine cy (G) zX ?_
 dsimp only
 refine cx (X := Nat) (fun k => k ≤ p.pages.length) (fun k => p.pages.length - k) (fun k => [(11, .v (.int .i64 (sm k (bx p F S but)))), (12, .any), (13, .any), (21, .v (.int .i64 (k : Int)))]) (fun k G' => G') 0 rfl ?_ ?_ (fun _ _ h => h) ?_ ?_ ?_
 ·exact Nat.zero_le _
 ·exact zF
 ·rintro k hI
  exact zL
 ·exact fun _ _ _ _ h => .inl h
 rintro k hI
 dsimp only at hI ⊢
 refine yS fun _ K5 => ?_
 refine yR ?_
 refine aa rfl (cb rfl rfl rfl) ?_
 refine yN ?_
 dsimp only [St.put]
 refine K5 _ ?_
 refine yS fun _ K6 => ?_
 refine am rfl (fun hc => ?_) (fun hc => ?_)
 ·replace hc := of_decide_eq_true hc
  obtain ⟨x, hx⟩ : ∃ x, p.pages[k]? = some x := c7 (by omega)
  have hkl : k < p.pages.length := by omega
  have e : bx p F S but k = (bif !decide (x.fst ∈ F) && !decide (x.snd ∈ S) && !decide ((k : Int) ∈ but) then fq p k - cn p k else 0) - (bif decide (x.fst ∈ F) then cn p k else 0) - (bif decide (x.snd ∈ S) then cn p k else 0) := by
   unfold bx fq cn
   rw [my hx, my hx, my hx]; rfl
  have hw := ugr h k
  have ht := uax h k
  have hsb := ua2 h F S but k (by omega)
  have hgw := j1 (fq p) hkl
  have hgt := j1 (cn p) hkl
  refine av ?_
  refine K6 _ ?_
  refine yS fun _ K7 => ?_
  refine az ?_
  refine yS fun _ K8 => ?_
  refine yR ?_
  refine yM rfl rfl ?_
  refine aa rfl (bp rfl rfl rfl rfl (bk (by assumption)) (Enc.len _)) ?_
  refine yE rfl rfl rfl ?_
  try dsimp only [St.put]
  refine ae rfl (dr rfl ?_)
  refine yA rfl rfl ?_
  try dsimp only [St.put]
  refine ae rfl (c6 rfl rfl rfl zG rfl rfl (by rfl) ?_)
  refine yN ?_
  dsimp only [St.put]
  refine K8 _ ?_
  refine gh (i := 13) rfl zG zC ?_
  dsimp only
  refine yS fun _ K9 => ?_
  refine ce 22 ?_
  refine zQ ?_
  refine kj (X := Bool) (fun d => (!decide (x.fst ∈ F) && !decide (x.snd ∈ S) && !decide ((k : Int) ∈ but)) = d) (fun d => [(43, .v (.bool d))]) (fun d G' => G') rfl ?_ (fun _ _ _ _ h => .inl h) ?_ ?_
  ·rintro d hI
   exact zL
  ·refine yR ?_
   refine yM rfl rfl ?_
   refine yF rfl rfl rfl rfl ?_
   refine yL rfl rfl rfl ?_
   try dsimp only [St.put]
   refine ae rfl (ax rfl rfl rfl (m9 F x.fst (by omega)) ?_)
   refine aa rfl (dl rfl rfl) ?_
   refine em (fun hs => ?_) (fun hs => ?_)
   ·have c1 : decide (x.fst ∈ F) = false := by simpa using hs
    refine yM rfl rfl ?_
    refine yM rfl rfl ?_
    refine yF rfl rfl rfl rfl ?_
    refine yL rfl rfl rfl ?_
    try dsimp only [St.put]
    refine ae rfl (ax rfl rfl rfl (m9 S x.snd (by omega)) ?_)
    refine aa rfl (dl rfl rfl) ?_
    refine aa rfl (bw rfl rfl (by constructor)) ?_
    refine em (fun hs => ?_) (fun hs => ?_)
    ·have c2 : decide (x.snd ∈ S) = false := by simpa using hs
     refine yM rfl rfl ?_
     refine yM rfl rfl ?_
     refine yM rfl rfl ?_
     try dsimp only [St.put]
     refine ae rfl (ax rfl rfl rfl (m9 but (k : Int) (by omega)) ?_)
     refine aa rfl (dl rfl rfl) ?_
     refine aa rfl (bw rfl rfl (by constructor)) ?_
     refine yN ?_
     dsimp only [St.put]
     refine ⟨_, ?_, ⟨⟨rfl, rfl⟩, zF, zB, zN, zX⟩⟩
     simp_all
    have c2 : decide (x.snd ∈ S) = true := by simpa using hs
    refine yM rfl rfl ?_
    refine yK rfl ?_
    refine yK rfl ?_
    refine yK rfl ?_
    refine yK rfl ?_
    refine aa rfl (cm rfl rfl (by constructor)) ?_
    refine yN ?_
    dsimp only [St.put]
    refine ⟨_, ?_, ⟨⟨rfl, rfl⟩, zF, zB, zN, zX⟩⟩
    simp_all
   have c1 : decide (x.fst ∈ F) = true := by simpa using hs
   refine yM rfl rfl ?_
   refine yK rfl ?_
   refine yK rfl ?_
   refine yK rfl ?_
   refine yK rfl ?_
   refine yK rfl ?_
   refine aa rfl (cm rfl rfl (by constructor)) ?_
   refine yM rfl rfl ?_
   refine yK rfl ?_
   refine yK rfl ?_
   refine yK rfl ?_
   refine yK rfl ?_
   refine aa rfl (cm rfl rfl (by constructor)) ?_
   refine yN ?_
   dsimp only [St.put]
   refine ⟨_, ?_, ⟨⟨rfl, rfl⟩, zF, zB, zN, zX⟩⟩
   simp_all
  rintro d hst
  dsimp only at hst ⊢
  refine am rfl (fun hc => ?_) (fun hc => ?_)
  ·have hd1 := hst.trans hc
   refine gu [(0, none), (1, none), (2, none), (3, none), (4, none), (5, none), (6, none), (7, none), (8, none), (9, none), (10, none), (11, none), (12, none), (13, none)] (fun i => [].contains i) (fun i => [].contains i) (fun i => [0, 1, 3, 4, 6, 8, 9, 11, 12, 13].contains i) [] (by kernel_rfl) (by kernel_rfl) ?_
   refine xM rfl rfl rfl rfl rfl ?_
   refine ah rfl rfl rfl rfl (co rfl rfl rfl) ?_
   try dsimp only [St.put]
   refine ay rfl rfl rfl rfl (ca rfl rfl) ?_
   refine xM rfl rfl rfl rfl rfl ?_
   try dsimp only [St.put]
   refine ah rfl rfl rfl rfl (bp rfl rfl rfl rfl (bk (by assumption)) (Enc.len _)) ?_
   try dsimp only [St.put]
   refine ay rfl rfl rfl rfl (ca rfl rfl) ?_
   refine ah rfl rfl rfl rfl (co rfl rfl rfl) ?_
   try dsimp only [St.put]
   refine ay rfl rfl rfl rfl (ca rfl rfl) ?_
   refine xM rfl rfl rfl rfl rfl ?_
   try dsimp only [St.put]
   refine ah rfl rfl rfl rfl (bp rfl rfl rfl rfl (bk (by assumption)) (Enc.len _)) ?_
   try dsimp only [St.put]
   refine ay rfl rfl rfl rfl (ca rfl rfl) ?_
   refine ah rfl rfl rfl rfl (f7 rfl rfl rfl (by omega)) ?_
   refine ah rfl rfl rfl rfl (bq rfl rfl rfl (by omega)) ?_
   refine ah rfl rfl rfl rfl (fh rfl (by constructor)) ?_
   refine ci ?_
   dsimp only [St.put]
   refine K9 _ ?_
   refine yS fun _ K11 => ?_
   refine yS fun _ K12 => ?_
   refine yR ?_
   refine yM rfl rfl ?_
   refine yF rfl rfl rfl rfl ?_
   refine yL rfl rfl rfl ?_
   try dsimp only [St.put]
   refine ae rfl (ax rfl rfl rfl (m9 F x.fst (by omega)) ?_)
   refine yN ?_
   dsimp only [St.put]
   refine K12 _ ?_
   refine am rfl (fun hc => ?_) (fun hc => ?_)
   ·have hf1 : decide (x.fst ∈ F) = true := hc
    refine yR ?_
    refine yM rfl rfl ?_
    refine yF rfl rfl rfl rfl ?_
    refine yL rfl rfl rfl ?_
    refine yM rfl rfl ?_
    refine aa rfl (bp rfl rfl rfl rfl (bk (by assumption)) (Enc.len _)) ?_
    refine yL rfl rfl rfl ?_
    refine aa rfl (f7 rfl rfl rfl (by omega)) ?_
    refine yA rfl rfl ?_
    refine yN ?_
    dsimp only [St.put]
    refine K11 _ ?_
    refine yS fun _ K13 => ?_
    refine yR ?_
    refine yM rfl rfl ?_
    refine yF rfl rfl rfl rfl ?_
    refine yL rfl rfl rfl ?_
    try dsimp only [St.put]
    refine ae rfl (ax rfl rfl rfl (m9 S x.snd (by omega)) ?_)
    refine yN ?_
    dsimp only [St.put]
    refine K13 _ ?_
    refine am rfl (fun hc => ?_) (fun hc => ?_)
    ·have hg1 : decide (x.snd ∈ S) = true := hc
     refine yR ?_
     refine yM rfl rfl ?_
     refine yF rfl rfl rfl rfl ?_
     refine yL rfl rfl rfl ?_
     refine yM rfl rfl ?_
     refine aa rfl (bp rfl rfl rfl rfl (bk (by assumption)) (Enc.len _)) ?_
     refine yL rfl rfl rfl ?_
     refine aa rfl (f7 rfl rfl rfl (by omega)) ?_
     refine yA rfl rfl ?_
     refine yN ?_
     dsimp only [St.put]
     refine K7 _ ?_
     refine yR ?_
     refine aa rfl (bq rfl rfl rfl (by omega)) ?_
     refine yM rfl rfl ?_
     refine yN ?_
     dsimp only [St.put]
     first
     | (have q1 : (!decide (x.fst ∈ F) && !decide (x.snd ∈ S) && !decide ((k : Int) ∈ but)) = true := hd1
        have q2 : decide (x.fst ∈ F) = true := hf1
        rw [q2] at q1
        exact absurd q1 (by simp))
     | (have q1 : (!decide (x.fst ∈ F) && !decide (x.snd ∈ S) && !decide ((k : Int) ∈ but)) = true := hd1
        have q3 : decide (x.snd ∈ S) = true := hg1
        rw [q3] at q1
        exact absurd q1 (by simp))
     | (have q1 : (!decide (x.fst ∈ F) && !decide (x.snd ∈ S) && !decide ((k : Int) ∈ but)) = true := hd1
        have q2 : decide (x.fst ∈ F) = false := hf0
        have q3 : decide (x.snd ∈ S) = false := hg0
        rw [q1, q2, q3] at e
        simp only [cond_true, cond_false] at e
        rw [show sm k (bx p F S but) + (fq p k - cn p k) = sm (k + 1) (bx p F S but) by rw [eo, e]; omega]
        exact ⟨k + 1, by omega, by omega, ⟨⟨rfl, rfl⟩, zF, zB, zN, zX⟩⟩)
     | (have q1 : (!decide (x.fst ∈ F) && !decide (x.snd ∈ S) && !decide ((k : Int) ∈ but)) = false := hd0
        have q2 : decide (x.fst ∈ F) = true := hf1
        have q3 : decide (x.snd ∈ S) = true := hg1
        rw [q1, q2, q3] at e
        simp only [cond_true, cond_false] at e
        rw [show sm k (bx p F S but) - cn p k - cn p k = sm (k + 1) (bx p F S but) by rw [eo, e]; omega]
        exact ⟨k + 1, by omega, by omega, ⟨⟨rfl, rfl⟩, zF, zB, zN, zX⟩⟩)
     | (have q1 : (!decide (x.fst ∈ F) && !decide (x.snd ∈ S) && !decide ((k : Int) ∈ but)) = false := hd0
        have q2 : decide (x.fst ∈ F) = true := hf1
        have q3 : decide (x.snd ∈ S) = false := hg0
        rw [q1, q2, q3] at e
        simp only [cond_true, cond_false] at e
        rw [show sm k (bx p F S but) - cn p k = sm (k + 1) (bx p F S but) by rw [eo, e]; omega]
        exact ⟨k + 1, by omega, by omega, ⟨⟨rfl, rfl⟩, zF, zB, zN, zX⟩⟩)
     | (have q1 : (!decide (x.fst ∈ F) && !decide (x.snd ∈ S) && !decide ((k : Int) ∈ but)) = false := hd0
        have q2 : decide (x.fst ∈ F) = false := hf0
        have q3 : decide (x.snd ∈ S) = true := hg1
        rw [q1, q2, q3] at e
        simp only [cond_true, cond_false] at e
        rw [show sm k (bx p F S but) - cn p k = sm (k + 1) (bx p F S but) by rw [eo, e]; omega]
        exact ⟨k + 1, by omega, by omega, ⟨⟨rfl, rfl⟩, zF, zB, zN, zX⟩⟩)
     | (have q1 : (!decide (x.fst ∈ F) && !decide (x.snd ∈ S) && !decide ((k : Int) ∈ but)) = false := hd0
        have q2 : decide (x.fst ∈ F) = false := hf0
        have q3 : decide (x.snd ∈ S) = false := hg0
        rw [q1, q2, q3] at e
        simp only [cond_false] at e
        rw [show sm k (bx p F S but) = sm (k + 1) (bx p F S but) by rw [eo, e]; omega]
        exact ⟨k + 1, by omega, by omega, ⟨⟨rfl, rfl⟩, zF, zB, zN, zX⟩⟩)
    have hg0 : decide (x.snd ∈ S) = false := hc
    refine av ?_
    refine K7 _ ?_
    refine yR ?_
    refine aa rfl (bq rfl rfl rfl (by omega)) ?_
    refine yM rfl rfl ?_
    refine yN ?_
    dsimp only [St.put]
    first
    | (have q1 : (!decide (x.fst ∈ F) && !decide (x.snd ∈ S) && !decide ((k : Int) ∈ but)) = true := hd1
       have q2 : decide (x.fst ∈ F) = true := hf1
       rw [q2] at q1
       exact absurd q1 (by simp))
    | (have q1 : (!decide (x.fst ∈ F) && !decide (x.snd ∈ S) && !decide ((k : Int) ∈ but)) = true := hd1
       have q3 : decide (x.snd ∈ S) = true := hg1
       rw [q3] at q1
       exact absurd q1 (by simp))
    | (have q1 : (!decide (x.fst ∈ F) && !decide (x.snd ∈ S) && !decide ((k : Int) ∈ but)) = true := hd1
       have q2 : decide (x.fst ∈ F) = false := hf0
       have q3 : decide (x.snd ∈ S) = false := hg0
       rw [q1, q2, q3] at e
       simp only [cond_true, cond_false] at e
       rw [show sm k (bx p F S but) + (fq p k - cn p k) = sm (k + 1) (bx p F S but) by rw [eo, e]; omega]
       exact ⟨k + 1, by omega, by omega, ⟨⟨rfl, rfl⟩, zF, zB, zN, zX⟩⟩)
    | (have q1 : (!decide (x.fst ∈ F) && !decide (x.snd ∈ S) && !decide ((k : Int) ∈ but)) = false := hd0
       have q2 : decide (x.fst ∈ F) = true := hf1
       have q3 : decide (x.snd ∈ S) = true := hg1
       rw [q1, q2, q3] at e
       simp only [cond_true, cond_false] at e
       rw [show sm k (bx p F S but) - cn p k - cn p k = sm (k + 1) (bx p F S but) by rw [eo, e]; omega]
       exact ⟨k + 1, by omega, by omega, ⟨⟨rfl, rfl⟩, zF, zB, zN, zX⟩⟩)
    | (have q1 : (!decide (x.fst ∈ F) && !decide (x.snd ∈ S) && !decide ((k : Int) ∈ but)) = false := hd0
       have q2 : decide (x.fst ∈ F) = true := hf1
       have q3 : decide (x.snd ∈ S) = false := hg0
       rw [q1, q2, q3] at e
       simp only [cond_true, cond_false] at e
       rw [show sm k (bx p F S but) - cn p k = sm (k + 1) (bx p F S but) by rw [eo, e]; omega]
       exact ⟨k + 1, by omega, by omega, ⟨⟨rfl, rfl⟩, zF, zB, zN, zX⟩⟩)
    | (have q1 : (!decide (x.fst ∈ F) && !decide (x.snd ∈ S) && !decide ((k : Int) ∈ but)) = false := hd0
       have q2 : decide (x.fst ∈ F) = false := hf0
       have q3 : decide (x.snd ∈ S) = true := hg1
       rw [q1, q2, q3] at e
       simp only [cond_true, cond_false] at e
       rw [show sm k (bx p F S but) - cn p k = sm (k + 1) (bx p F S but) by rw [eo, e]; omega]
       exact ⟨k + 1, by omega, by omega, ⟨⟨rfl, rfl⟩, zF, zB, zN, zX⟩⟩)
    | (have q1 : (!decide (x.fst ∈ F) && !decide (x.snd ∈ S) && !decide ((k : Int) ∈ but)) = false := hd0
       have q2 : decide (x.fst ∈ F) = false := hf0
       have q3 : decide (x.snd ∈ S) = false := hg0
       rw [q1, q2, q3] at e
       simp only [cond_false] at e
       rw [show sm k (bx p F S but) = sm (k + 1) (bx p F S but) by rw [eo, e]; omega]
       exact ⟨k + 1, by omega, by omega, ⟨⟨rfl, rfl⟩, zF, zB, zN, zX⟩⟩)
   have hf0 : decide (x.fst ∈ F) = false := hc
   refine av ?_
   refine K11 _ ?_
   refine yS fun _ K14 => ?_
   refine yR ?_
   refine yM rfl rfl ?_
   refine yF rfl rfl rfl rfl ?_
   refine yL rfl rfl rfl ?_
   try dsimp only [St.put]
   refine ae rfl (ax rfl rfl rfl (m9 S x.snd (by omega)) ?_)
   refine yN ?_
   dsimp only [St.put]
   refine K14 _ ?_
   refine am rfl (fun hc => ?_) (fun hc => ?_)
   ·have hg1 : decide (x.snd ∈ S) = true := hc
    refine yR ?_
    refine yM rfl rfl ?_
    refine yF rfl rfl rfl rfl ?_
    refine yL rfl rfl rfl ?_
    refine yM rfl rfl ?_
    refine aa rfl (bp rfl rfl rfl rfl (bk (by assumption)) (Enc.len _)) ?_
    refine yL rfl rfl rfl ?_
    refine aa rfl (f7 rfl rfl rfl (by omega)) ?_
    refine yA rfl rfl ?_
    refine yN ?_
    dsimp only [St.put]
    refine K7 _ ?_
    refine yR ?_
    refine aa rfl (bq rfl rfl rfl (by omega)) ?_
    refine yM rfl rfl ?_
    refine yN ?_
    dsimp only [St.put]
    first
    | (have q1 : (!decide (x.fst ∈ F) && !decide (x.snd ∈ S) && !decide ((k : Int) ∈ but)) = true := hd1
       have q2 : decide (x.fst ∈ F) = true := hf1
       rw [q2] at q1
       exact absurd q1 (by simp))
    | (have q1 : (!decide (x.fst ∈ F) && !decide (x.snd ∈ S) && !decide ((k : Int) ∈ but)) = true := hd1
       have q3 : decide (x.snd ∈ S) = true := hg1
       rw [q3] at q1
       exact absurd q1 (by simp))
    | (have q1 : (!decide (x.fst ∈ F) && !decide (x.snd ∈ S) && !decide ((k : Int) ∈ but)) = true := hd1
       have q2 : decide (x.fst ∈ F) = false := hf0
       have q3 : decide (x.snd ∈ S) = false := hg0
       rw [q1, q2, q3] at e
       simp only [cond_true, cond_false] at e
       rw [show sm k (bx p F S but) + (fq p k - cn p k) = sm (k + 1) (bx p F S but) by rw [eo, e]; omega]
       exact ⟨k + 1, by omega, by omega, ⟨⟨rfl, rfl⟩, zF, zB, zN, zX⟩⟩)
    | (have q1 : (!decide (x.fst ∈ F) && !decide (x.snd ∈ S) && !decide ((k : Int) ∈ but)) = false := hd0
       have q2 : decide (x.fst ∈ F) = true := hf1
       have q3 : decide (x.snd ∈ S) = true := hg1
       rw [q1, q2, q3] at e
       simp only [cond_true, cond_false] at e
       rw [show sm k (bx p F S but) - cn p k - cn p k = sm (k + 1) (bx p F S but) by rw [eo, e]; omega]
       exact ⟨k + 1, by omega, by omega, ⟨⟨rfl, rfl⟩, zF, zB, zN, zX⟩⟩)
    | (have q1 : (!decide (x.fst ∈ F) && !decide (x.snd ∈ S) && !decide ((k : Int) ∈ but)) = false := hd0
       have q2 : decide (x.fst ∈ F) = true := hf1
       have q3 : decide (x.snd ∈ S) = false := hg0
       rw [q1, q2, q3] at e
       simp only [cond_true, cond_false] at e
       rw [show sm k (bx p F S but) - cn p k = sm (k + 1) (bx p F S but) by rw [eo, e]; omega]
       exact ⟨k + 1, by omega, by omega, ⟨⟨rfl, rfl⟩, zF, zB, zN, zX⟩⟩)
    | (have q1 : (!decide (x.fst ∈ F) && !decide (x.snd ∈ S) && !decide ((k : Int) ∈ but)) = false := hd0
       have q2 : decide (x.fst ∈ F) = false := hf0
       have q3 : decide (x.snd ∈ S) = true := hg1
       rw [q1, q2, q3] at e
       simp only [cond_true, cond_false] at e
       rw [show sm k (bx p F S but) - cn p k = sm (k + 1) (bx p F S but) by rw [eo, e]; omega]
       exact ⟨k + 1, by omega, by omega, ⟨⟨rfl, rfl⟩, zF, zB, zN, zX⟩⟩)
    | (have q1 : (!decide (x.fst ∈ F) && !decide (x.snd ∈ S) && !decide ((k : Int) ∈ but)) = false := hd0
       have q2 : decide (x.fst ∈ F) = false := hf0
       have q3 : decide (x.snd ∈ S) = false := hg0
       rw [q1, q2, q3] at e
       simp only [cond_false] at e
       rw [show sm k (bx p F S but) = sm (k + 1) (bx p F S but) by rw [eo, e]; omega]
       exact ⟨k + 1, by omega, by omega, ⟨⟨rfl, rfl⟩, zF, zB, zN, zX⟩⟩)
   have hg0 : decide (x.snd ∈ S) = false := hc
   refine av ?_
   refine K7 _ ?_
   refine yR ?_
   refine aa rfl (bq rfl rfl rfl (by omega)) ?_
   refine yM rfl rfl ?_
   refine yN ?_
   dsimp only [St.put]
   first
   | (have q1 : (!decide (x.fst ∈ F) && !decide (x.snd ∈ S) && !decide ((k : Int) ∈ but)) = true := hd1
      have q2 : decide (x.fst ∈ F) = true := hf1
      rw [q2] at q1
      exact absurd q1 (by simp))
   | (have q1 : (!decide (x.fst ∈ F) && !decide (x.snd ∈ S) && !decide ((k : Int) ∈ but)) = true := hd1
      have q3 : decide (x.snd ∈ S) = true := hg1
      rw [q3] at q1
      exact absurd q1 (by simp))
   | (have q1 : (!decide (x.fst ∈ F) && !decide (x.snd ∈ S) && !decide ((k : Int) ∈ but)) = true := hd1
      have q2 : decide (x.fst ∈ F) = false := hf0
      have q3 : decide (x.snd ∈ S) = false := hg0
      rw [q1, q2, q3] at e
      simp only [cond_true, cond_false] at e
      rw [show sm k (bx p F S but) + (fq p k - cn p k) = sm (k + 1) (bx p F S but) by rw [eo, e]; omega]
      exact ⟨k + 1, by omega, by omega, ⟨⟨rfl, rfl⟩, zF, zB, zN, zX⟩⟩)
   | (have q1 : (!decide (x.fst ∈ F) && !decide (x.snd ∈ S) && !decide ((k : Int) ∈ but)) = false := hd0
      have q2 : decide (x.fst ∈ F) = true := hf1
      have q3 : decide (x.snd ∈ S) = true := hg1
      rw [q1, q2, q3] at e
      simp only [cond_true, cond_false] at e
      rw [show sm k (bx p F S but) - cn p k - cn p k = sm (k + 1) (bx p F S but) by rw [eo, e]; omega]
      exact ⟨k + 1, by omega, by omega, ⟨⟨rfl, rfl⟩, zF, zB, zN, zX⟩⟩)
   | (have q1 : (!decide (x.fst ∈ F) && !decide (x.snd ∈ S) && !decide ((k : Int) ∈ but)) = false := hd0
      have q2 : decide (x.fst ∈ F) = true := hf1
      have q3 : decide (x.snd ∈ S) = false := hg0
      rw [q1, q2, q3] at e
      simp only [cond_true, cond_false] at e
      rw [show sm k (bx p F S but) - cn p k = sm (k + 1) (bx p F S but) by rw [eo, e]; omega]
      exact ⟨k + 1, by omega, by omega, ⟨⟨rfl, rfl⟩, zF, zB, zN, zX⟩⟩)
   | (have q1 : (!decide (x.fst ∈ F) && !decide (x.snd ∈ S) && !decide ((k : Int) ∈ but)) = false := hd0
      have q2 : decide (x.fst ∈ F) = false := hf0
      have q3 : decide (x.snd ∈ S) = true := hg1
      rw [q1, q2, q3] at e
      simp only [cond_true, cond_false] at e
      rw [show sm k (bx p F S but) - cn p k = sm (k + 1) (bx p F S but) by rw [eo, e]; omega]
      exact ⟨k + 1, by omega, by omega, ⟨⟨rfl, rfl⟩, zF, zB, zN, zX⟩⟩)
   | (have q1 : (!decide (x.fst ∈ F) && !decide (x.snd ∈ S) && !decide ((k : Int) ∈ but)) = false := hd0
      have q2 : decide (x.fst ∈ F) = false := hf0
      have q3 : decide (x.snd ∈ S) = false := hg0
      rw [q1, q2, q3] at e
      simp only [cond_false] at e
      rw [show sm k (bx p F S but) = sm (k + 1) (bx p F S but) by rw [eo, e]; omega]
      exact ⟨k + 1, by omega, by omega, ⟨⟨rfl, rfl⟩, zF, zB, zN, zX⟩⟩)
  have hd0 := hst.trans hc
  refine av ?_
  refine K9 _ ?_
  refine yS fun _ K15 => ?_
  refine yS fun _ K16 => ?_
  refine yR ?_
  refine yM rfl rfl ?_
  refine yF rfl rfl rfl rfl ?_
  refine yL rfl rfl rfl ?_
  try dsimp only [St.put]
  refine ae rfl (ax rfl rfl rfl (m9 F x.fst (by omega)) ?_)
  refine yN ?_
  dsimp only [St.put]
  refine K16 _ ?_
  refine am rfl (fun hc => ?_) (fun hc => ?_)
  ·have hf1 : decide (x.fst ∈ F) = true := hc
   refine yR ?_
   refine yM rfl rfl ?_
   refine yF rfl rfl rfl rfl ?_
   refine yL rfl rfl rfl ?_
   refine yM rfl rfl ?_
   refine aa rfl (bp rfl rfl rfl rfl (bk (by assumption)) (Enc.len _)) ?_
   refine yL rfl rfl rfl ?_
   refine aa rfl (f7 rfl rfl rfl (by omega)) ?_
   refine yA rfl rfl ?_
   refine yN ?_
   dsimp only [St.put]
   refine K15 _ ?_
   refine yS fun _ K17 => ?_
   refine yR ?_
   refine yM rfl rfl ?_
   refine yF rfl rfl rfl rfl ?_
   refine yL rfl rfl rfl ?_
   try dsimp only [St.put]
   refine ae rfl (ax rfl rfl rfl (m9 S x.snd (by omega)) ?_)
   refine yN ?_
   dsimp only [St.put]
   refine K17 _ ?_
   refine am rfl (fun hc => ?_) (fun hc => ?_)
   ·have hg1 : decide (x.snd ∈ S) = true := hc
    refine yR ?_
    refine yM rfl rfl ?_
    refine yF rfl rfl rfl rfl ?_
    refine yL rfl rfl rfl ?_
    refine yM rfl rfl ?_
    refine aa rfl (bp rfl rfl rfl rfl (bk (by assumption)) (Enc.len _)) ?_
    refine yL rfl rfl rfl ?_
    refine aa rfl (f7 rfl rfl rfl (by omega)) ?_
    refine yA rfl rfl ?_
    refine yN ?_
    dsimp only [St.put]
    refine K7 _ ?_
    refine yR ?_
    refine aa rfl (bq rfl rfl rfl (by omega)) ?_
    refine yM rfl rfl ?_
    refine yN ?_
    dsimp only [St.put]
    first
    | (have q1 : (!decide (x.fst ∈ F) && !decide (x.snd ∈ S) && !decide ((k : Int) ∈ but)) = true := hd1
       have q2 : decide (x.fst ∈ F) = true := hf1
       rw [q2] at q1
       exact absurd q1 (by simp))
    | (have q1 : (!decide (x.fst ∈ F) && !decide (x.snd ∈ S) && !decide ((k : Int) ∈ but)) = true := hd1
       have q3 : decide (x.snd ∈ S) = true := hg1
       rw [q3] at q1
       exact absurd q1 (by simp))
    | (have q1 : (!decide (x.fst ∈ F) && !decide (x.snd ∈ S) && !decide ((k : Int) ∈ but)) = true := hd1
       have q2 : decide (x.fst ∈ F) = false := hf0
       have q3 : decide (x.snd ∈ S) = false := hg0
       rw [q1, q2, q3] at e
       simp only [cond_true, cond_false] at e
       rw [show sm k (bx p F S but) + (fq p k - cn p k) = sm (k + 1) (bx p F S but) by rw [eo, e]; omega]
       exact ⟨k + 1, by omega, by omega, ⟨⟨rfl, rfl⟩, zF, zB, zN, zX⟩⟩)
    | (have q1 : (!decide (x.fst ∈ F) && !decide (x.snd ∈ S) && !decide ((k : Int) ∈ but)) = false := hd0
       have q2 : decide (x.fst ∈ F) = true := hf1
       have q3 : decide (x.snd ∈ S) = true := hg1
       rw [q1, q2, q3] at e
       simp only [cond_true, cond_false] at e
       rw [show sm k (bx p F S but) - cn p k - cn p k = sm (k + 1) (bx p F S but) by rw [eo, e]; omega]
       exact ⟨k + 1, by omega, by omega, ⟨⟨rfl, rfl⟩, zF, zB, zN, zX⟩⟩)
    | (have q1 : (!decide (x.fst ∈ F) && !decide (x.snd ∈ S) && !decide ((k : Int) ∈ but)) = false := hd0
       have q2 : decide (x.fst ∈ F) = true := hf1
       have q3 : decide (x.snd ∈ S) = false := hg0
       rw [q1, q2, q3] at e
       simp only [cond_true, cond_false] at e
       rw [show sm k (bx p F S but) - cn p k = sm (k + 1) (bx p F S but) by rw [eo, e]; omega]
       exact ⟨k + 1, by omega, by omega, ⟨⟨rfl, rfl⟩, zF, zB, zN, zX⟩⟩)
    | (have q1 : (!decide (x.fst ∈ F) && !decide (x.snd ∈ S) && !decide ((k : Int) ∈ but)) = false := hd0
       have q2 : decide (x.fst ∈ F) = false := hf0
       have q3 : decide (x.snd ∈ S) = true := hg1
       rw [q1, q2, q3] at e
       simp only [cond_true, cond_false] at e
       rw [show sm k (bx p F S but) - cn p k = sm (k + 1) (bx p F S but) by rw [eo, e]; omega]
       exact ⟨k + 1, by omega, by omega, ⟨⟨rfl, rfl⟩, zF, zB, zN, zX⟩⟩)
    | (have q1 : (!decide (x.fst ∈ F) && !decide (x.snd ∈ S) && !decide ((k : Int) ∈ but)) = false := hd0
       have q2 : decide (x.fst ∈ F) = false := hf0
       have q3 : decide (x.snd ∈ S) = false := hg0
       rw [q1, q2, q3] at e
       simp only [cond_false] at e
       rw [show sm k (bx p F S but) = sm (k + 1) (bx p F S but) by rw [eo, e]; omega]
       exact ⟨k + 1, by omega, by omega, ⟨⟨rfl, rfl⟩, zF, zB, zN, zX⟩⟩)
   have hg0 : decide (x.snd ∈ S) = false := hc
   refine av ?_
   refine K7 _ ?_
   refine yR ?_
   refine aa rfl (bq rfl rfl rfl (by omega)) ?_
   refine yM rfl rfl ?_
   refine yN ?_
   dsimp only [St.put]
   first
   | (have q1 : (!decide (x.fst ∈ F) && !decide (x.snd ∈ S) && !decide ((k : Int) ∈ but)) = true := hd1
      have q2 : decide (x.fst ∈ F) = true := hf1
      rw [q2] at q1
      exact absurd q1 (by simp))
   | (have q1 : (!decide (x.fst ∈ F) && !decide (x.snd ∈ S) && !decide ((k : Int) ∈ but)) = true := hd1
      have q3 : decide (x.snd ∈ S) = true := hg1
      rw [q3] at q1
      exact absurd q1 (by simp))
   | (have q1 : (!decide (x.fst ∈ F) && !decide (x.snd ∈ S) && !decide ((k : Int) ∈ but)) = true := hd1
      have q2 : decide (x.fst ∈ F) = false := hf0
      have q3 : decide (x.snd ∈ S) = false := hg0
      rw [q1, q2, q3] at e
      simp only [cond_true, cond_false] at e
      rw [show sm k (bx p F S but) + (fq p k - cn p k) = sm (k + 1) (bx p F S but) by rw [eo, e]; omega]
      exact ⟨k + 1, by omega, by omega, ⟨⟨rfl, rfl⟩, zF, zB, zN, zX⟩⟩)
   | (have q1 : (!decide (x.fst ∈ F) && !decide (x.snd ∈ S) && !decide ((k : Int) ∈ but)) = false := hd0
      have q2 : decide (x.fst ∈ F) = true := hf1
      have q3 : decide (x.snd ∈ S) = true := hg1
      rw [q1, q2, q3] at e
      simp only [cond_true, cond_false] at e
      rw [show sm k (bx p F S but) - cn p k - cn p k = sm (k + 1) (bx p F S but) by rw [eo, e]; omega]
      exact ⟨k + 1, by omega, by omega, ⟨⟨rfl, rfl⟩, zF, zB, zN, zX⟩⟩)
   | (have q1 : (!decide (x.fst ∈ F) && !decide (x.snd ∈ S) && !decide ((k : Int) ∈ but)) = false := hd0
      have q2 : decide (x.fst ∈ F) = true := hf1
      have q3 : decide (x.snd ∈ S) = false := hg0
      rw [q1, q2, q3] at e
      simp only [cond_true, cond_false] at e
      rw [show sm k (bx p F S but) - cn p k = sm (k + 1) (bx p F S but) by rw [eo, e]; omega]
      exact ⟨k + 1, by omega, by omega, ⟨⟨rfl, rfl⟩, zF, zB, zN, zX⟩⟩)
   | (have q1 : (!decide (x.fst ∈ F) && !decide (x.snd ∈ S) && !decide ((k : Int) ∈ but)) = false := hd0
      have q2 : decide (x.fst ∈ F) = false := hf0
      have q3 : decide (x.snd ∈ S) = true := hg1
      rw [q1, q2, q3] at e
      simp only [cond_true, cond_false] at e
      rw [show sm k (bx p F S but) - cn p k = sm (k + 1) (bx p F S but) by rw [eo, e]; omega]
      exact ⟨k + 1, by omega, by omega, ⟨⟨rfl, rfl⟩, zF, zB, zN, zX⟩⟩)
   | (have q1 : (!decide (x.fst ∈ F) && !decide (x.snd ∈ S) && !decide ((k : Int) ∈ but)) = false := hd0
      have q2 : decide (x.fst ∈ F) = false := hf0
      have q3 : decide (x.snd ∈ S) = false := hg0
      rw [q1, q2, q3] at e
      simp only [cond_false] at e
      rw [show sm k (bx p F S but) = sm (k + 1) (bx p F S but) by rw [eo, e]; omega]
      exact ⟨k + 1, by omega, by omega, ⟨⟨rfl, rfl⟩, zF, zB, zN, zX⟩⟩)
  have hf0 : decide (x.fst ∈ F) = false := hc
  refine av ?_
  refine K15 _ ?_
  refine yS fun _ K18 => ?_
  refine yR ?_
  refine yM rfl rfl ?_
  refine yF rfl rfl rfl rfl ?_
  refine yL rfl rfl rfl ?_
  try dsimp only [St.put]
  refine ae rfl (ax rfl rfl rfl (m9 S x.snd (by omega)) ?_)
  refine yN ?_
  dsimp only [St.put]
  refine K18 _ ?_
  refine am rfl (fun hc => ?_) (fun hc => ?_)
  ·have hg1 : decide (x.snd ∈ S) = true := hc
   refine yR ?_
   refine yM rfl rfl ?_
   refine yF rfl rfl rfl rfl ?_
   refine yL rfl rfl rfl ?_
   refine yM rfl rfl ?_
   refine aa rfl (bp rfl rfl rfl rfl (bk (by assumption)) (Enc.len _)) ?_
   refine yL rfl rfl rfl ?_
   refine aa rfl (f7 rfl rfl rfl (by omega)) ?_
   refine yA rfl rfl ?_
   refine yN ?_
   dsimp only [St.put]
   refine K7 _ ?_
   refine yR ?_
   refine aa rfl (bq rfl rfl rfl (by omega)) ?_
   refine yM rfl rfl ?_
   refine yN ?_
   dsimp only [St.put]
   first
   | (have q1 : (!decide (x.fst ∈ F) && !decide (x.snd ∈ S) && !decide ((k : Int) ∈ but)) = true := hd1
      have q2 : decide (x.fst ∈ F) = true := hf1
      rw [q2] at q1
      exact absurd q1 (by simp))
   | (have q1 : (!decide (x.fst ∈ F) && !decide (x.snd ∈ S) && !decide ((k : Int) ∈ but)) = true := hd1
      have q3 : decide (x.snd ∈ S) = true := hg1
      rw [q3] at q1
      exact absurd q1 (by simp))
   | (have q1 : (!decide (x.fst ∈ F) && !decide (x.snd ∈ S) && !decide ((k : Int) ∈ but)) = true := hd1
      have q2 : decide (x.fst ∈ F) = false := hf0
      have q3 : decide (x.snd ∈ S) = false := hg0
      rw [q1, q2, q3] at e
      simp only [cond_true, cond_false] at e
      rw [show sm k (bx p F S but) + (fq p k - cn p k) = sm (k + 1) (bx p F S but) by rw [eo, e]; omega]
      exact ⟨k + 1, by omega, by omega, ⟨⟨rfl, rfl⟩, zF, zB, zN, zX⟩⟩)
   | (have q1 : (!decide (x.fst ∈ F) && !decide (x.snd ∈ S) && !decide ((k : Int) ∈ but)) = false := hd0
      have q2 : decide (x.fst ∈ F) = true := hf1
      have q3 : decide (x.snd ∈ S) = true := hg1
      rw [q1, q2, q3] at e
      simp only [cond_true, cond_false] at e
      rw [show sm k (bx p F S but) - cn p k - cn p k = sm (k + 1) (bx p F S but) by rw [eo, e]; omega]
      exact ⟨k + 1, by omega, by omega, ⟨⟨rfl, rfl⟩, zF, zB, zN, zX⟩⟩)
   | (have q1 : (!decide (x.fst ∈ F) && !decide (x.snd ∈ S) && !decide ((k : Int) ∈ but)) = false := hd0
      have q2 : decide (x.fst ∈ F) = true := hf1
      have q3 : decide (x.snd ∈ S) = false := hg0
      rw [q1, q2, q3] at e
      simp only [cond_true, cond_false] at e
      rw [show sm k (bx p F S but) - cn p k = sm (k + 1) (bx p F S but) by rw [eo, e]; omega]
      exact ⟨k + 1, by omega, by omega, ⟨⟨rfl, rfl⟩, zF, zB, zN, zX⟩⟩)
   | (have q1 : (!decide (x.fst ∈ F) && !decide (x.snd ∈ S) && !decide ((k : Int) ∈ but)) = false := hd0
      have q2 : decide (x.fst ∈ F) = false := hf0
      have q3 : decide (x.snd ∈ S) = true := hg1
      rw [q1, q2, q3] at e
      simp only [cond_true, cond_false] at e
      rw [show sm k (bx p F S but) - cn p k = sm (k + 1) (bx p F S but) by rw [eo, e]; omega]
      exact ⟨k + 1, by omega, by omega, ⟨⟨rfl, rfl⟩, zF, zB, zN, zX⟩⟩)
   | (have q1 : (!decide (x.fst ∈ F) && !decide (x.snd ∈ S) && !decide ((k : Int) ∈ but)) = false := hd0
      have q2 : decide (x.fst ∈ F) = false := hf0
      have q3 : decide (x.snd ∈ S) = false := hg0
      rw [q1, q2, q3] at e
      simp only [cond_false] at e
      rw [show sm k (bx p F S but) = sm (k + 1) (bx p F S but) by rw [eo, e]; omega]
      exact ⟨k + 1, by omega, by omega, ⟨⟨rfl, rfl⟩, zF, zB, zN, zX⟩⟩)
  have hg0 : decide (x.snd ∈ S) = false := hc
  refine av ?_
  refine K7 _ ?_
  refine yR ?_
  refine aa rfl (bq rfl rfl rfl (by omega)) ?_
  refine yM rfl rfl ?_
  refine yN ?_
  dsimp only [St.put]
  first
  | (have q1 : (!decide (x.fst ∈ F) && !decide (x.snd ∈ S) && !decide ((k : Int) ∈ but)) = true := hd1
     have q2 : decide (x.fst ∈ F) = true := hf1
     rw [q2] at q1
     exact absurd q1 (by simp))
  | (have q1 : (!decide (x.fst ∈ F) && !decide (x.snd ∈ S) && !decide ((k : Int) ∈ but)) = true := hd1
     have q3 : decide (x.snd ∈ S) = true := hg1
     rw [q3] at q1
     exact absurd q1 (by simp))
  | (have q1 : (!decide (x.fst ∈ F) && !decide (x.snd ∈ S) && !decide ((k : Int) ∈ but)) = true := hd1
     have q2 : decide (x.fst ∈ F) = false := hf0
     have q3 : decide (x.snd ∈ S) = false := hg0
     rw [q1, q2, q3] at e
     simp only [cond_true, cond_false] at e
     rw [show sm k (bx p F S but) + (fq p k - cn p k) = sm (k + 1) (bx p F S but) by rw [eo, e]; omega]
     exact ⟨k + 1, by omega, by omega, ⟨⟨rfl, rfl⟩, zF, zB, zN, zX⟩⟩)
  | (have q1 : (!decide (x.fst ∈ F) && !decide (x.snd ∈ S) && !decide ((k : Int) ∈ but)) = false := hd0
     have q2 : decide (x.fst ∈ F) = true := hf1
     have q3 : decide (x.snd ∈ S) = true := hg1
     rw [q1, q2, q3] at e
     simp only [cond_true, cond_false] at e
     rw [show sm k (bx p F S but) - cn p k - cn p k = sm (k + 1) (bx p F S but) by rw [eo, e]; omega]
     exact ⟨k + 1, by omega, by omega, ⟨⟨rfl, rfl⟩, zF, zB, zN, zX⟩⟩)
  | (have q1 : (!decide (x.fst ∈ F) && !decide (x.snd ∈ S) && !decide ((k : Int) ∈ but)) = false := hd0
     have q2 : decide (x.fst ∈ F) = true := hf1
     have q3 : decide (x.snd ∈ S) = false := hg0
     rw [q1, q2, q3] at e
     simp only [cond_true, cond_false] at e
     rw [show sm k (bx p F S but) - cn p k = sm (k + 1) (bx p F S but) by rw [eo, e]; omega]
     exact ⟨k + 1, by omega, by omega, ⟨⟨rfl, rfl⟩, zF, zB, zN, zX⟩⟩)
  | (have q1 : (!decide (x.fst ∈ F) && !decide (x.snd ∈ S) && !decide ((k : Int) ∈ but)) = false := hd0
     have q2 : decide (x.fst ∈ F) = false := hf0
     have q3 : decide (x.snd ∈ S) = true := hg1
     rw [q1, q2, q3] at e
     simp only [cond_true, cond_false] at e
     rw [show sm k (bx p F S but) - cn p k = sm (k + 1) (bx p F S but) by rw [eo, e]; omega]
     exact ⟨k + 1, by omega, by omega, ⟨⟨rfl, rfl⟩, zF, zB, zN, zX⟩⟩)
  | (have q1 : (!decide (x.fst ∈ F) && !decide (x.snd ∈ S) && !decide ((k : Int) ∈ but)) = false := hd0
     have q2 : decide (x.fst ∈ F) = false := hf0
     have q3 : decide (x.snd ∈ S) = false := hg0
     rw [q1, q2, q3] at e
     simp only [cond_false] at e
     rw [show sm k (bx p F S but) = sm (k + 1) (bx p F S but) by rw [eo, e]; omega]
     exact ⟨k + 1, by omega, by omega, ⟨⟨rfl, rfl⟩, zF, zB, zN, zX⟩⟩)
 replace hc := of_decide_eq_false hc
 obtain rfl : k = p.pages.length := by omega
 have hsb := ua2 h F S but p.pages.length hnp
 obtain ⟨A, hA⟩ : ∃ A, sm p.pages.length (bx p F S but) = A := ⟨_, rfl⟩
 rw [hA] at hsb
 refine cv ?_
 refine K3 _ ?_
 refine yS fun _ K19 => ?_
 refine yS fun _ K20 => ?_
 refine yR ?_
 refine yM rfl rfl ?_
 refine aa rfl (bg rfl rfl (List.length_map _)) ?_
 refine yM rfl rfl ?_
 refine yN ?_
 dsimp only [St.put]
 rw [hA, show A = A + ib (F.take 0) (fun i => cw p false i.toNat) by show A = A + 0; omega]
 refine K20 _ ?_
 refine az ?_
 refine ce 83 ?_
 refine zQ ?_
 refine cy (G) zX ?_
 dsimp only
 refine cx (X := Nat) (fun i => i ≤ F.length) (fun i => F.length - i) (fun i => [(11, .v (.int .i64 (A + ib (F.take i) (fun i => cw p false i.toNat)))), (15, .any), (82, .v (.int .i64 (i : Int)))]) (fun i G' => G') 0 rfl ?_ ?_ (fun _ _ h => h) ?_ ?_ ?_
 ·exact Nat.zero_le _
 ·exact zF
 ·rintro i hI
  exact zL
 ·exact fun _ _ _ _ h => .inl h
 rintro i hJ
 dsimp only at hJ ⊢
 refine yS fun _ K21 => ?_
 refine yR ?_
 refine aa rfl (cb rfl rfl rfl) ?_
 refine yN ?_
 dsimp only [St.put]
 refine K21 _ ?_
 refine yS fun _ K22 => ?_
 refine am rfl (fun hc => ?_) (fun hc => ?_)
 ·replace hc := of_decide_eq_true hc
  obtain ⟨z0, hz0⟩ : ∃ z, F[i]? = some z := c7 (by omega)
  have hzb := hF z0 (fm hz0)
  obtain ⟨z, rfl⟩ : ∃ z : Nat, z0 = (z : Int) := ⟨z0.toNat, by omega⟩
  have hzl : z < p.firsts.length := by omega
  have hgz := j1 (cw p false) hzl
  have e := udx (g := fun i => cw p false i.toNat) hz0
  try dsimp only at e
  rw [Int.toNat_natCast] at e
  have hbz := oh h false z
  have hib := wc (g := fun i => cw p false i.toNat) (fun z => oh h false z.toNat) (F.take i)
  have htl : (F.take i).length ≤ 20 := by rw [List.length_take]; omega
  refine av ?_
  refine K22 _ ?_
  refine yS fun _ K23 => ?_
  refine az ?_
  refine yS fun _ K24 => ?_
  refine yR ?_
  refine aa rfl (bp rfl rfl rfl rfl (bk (by assumption)) (Enc.len _)) ?_
  refine yL rfl rfl rfl ?_
  refine yA rfl rfl ?_
  refine yN ?_
  dsimp only [St.put]
  refine K24 _ ?_
  refine yS fun _ K25 => ?_
  refine yS fun _ K26 => ?_
  refine yR ?_
  refine yM rfl rfl ?_
  refine aa rfl (cb rfl rfl rfl) ?_
  refine yM rfl rfl ?_
  refine yM rfl rfl ?_
  refine yF rfl rfl rfl rfl ?_
  refine yL rfl rfl rfl ?_
  refine aa rfl (bg rfl rfl (List.length_map _)) ?_
  refine aa rfl ((dz (c := false) (kz rfl rfl rfl) (decide_eq_false (by rw [hk3]; omega)))) ?_
  refine aa rfl (cm rfl rfl (by constructor)) ?_
  refine yN ?_
  dsimp only [St.put]
  refine K26 _ ?_
  refine am rfl (fun h => by cases h) (fun _ => ?_)
  refine av ?_
  refine K25 _ ?_
  refine yR ?_
  refine yM rfl rfl ?_
  refine yF rfl rfl rfl rfl ?_
  refine yL rfl rfl rfl ?_
  refine yM rfl rfl ?_
  refine aa rfl (bp rfl rfl rfl rfl (bk (by assumption)) (Enc.len _)) ?_
  refine yL rfl rfl rfl ?_
  refine aa rfl (bq rfl rfl rfl (by omega)) ?_
  refine yA rfl rfl ?_
  refine yN ?_
  dsimp only [St.put]
  refine K23 _ ?_
  refine yR ?_
  refine aa rfl (bq rfl rfl rfl (by omega)) ?_
  refine yM rfl rfl ?_
  refine yN ?_
  dsimp only [St.put]
  rw [Int.add_assoc, ← e]
  exact ⟨i + 1, by omega, by omega, ⟨⟨rfl, rfl⟩, zF, zB, zN, zX⟩⟩
 replace hc := of_decide_eq_false hc
 rw [fu (show F.length ≤ i by omega)]
 have hib := wc (g := fun i => cw p false i.toNat) (fun z => oh h false z.toNat) F
 obtain ⟨B, hB⟩ : ∃ B, ib F (fun i => cw p false i.toNat) = B := ⟨_, rfl⟩
 rw [hB] at hib
 refine cv ?_
 refine K19 _ ?_
 refine yS fun _ K27 => ?_
 refine yS fun _ K28 => ?_
 refine yR ?_
 refine yM rfl rfl ?_
 refine aa rfl (bg rfl rfl (List.length_map _)) ?_
 refine yM rfl rfl ?_
 refine yN ?_
 dsimp only [St.put]
 rw [hB, show A + B = A + B + ib (S.take 0) (fun i => cw p true i.toNat) by show A + B = A + B + 0; omega]
 refine K28 _ ?_
 refine az ?_
 refine ce 106 ?_
 refine zQ ?_
 refine cy (G) zX ?_
 dsimp only
 refine cx (X := Nat) (fun j => j ≤ S.length) (fun j => S.length - j) (fun j => [(11, .v (.int .i64 (A + B + ib (S.take j) (fun i => cw p true i.toNat)))), (17, .any), (105, .v (.int .i64 (j : Int)))]) (fun j G' => G') 0 rfl ?_ ?_ (fun _ _ h => h) ?_ ?_ ?_
 ·exact Nat.zero_le _
 ·exact zF
 ·rintro j hI
  exact zL
 ·exact fun _ _ _ _ h => .inl h
 rintro j hM
 dsimp only at hM ⊢
 refine yS fun _ K29 => ?_
 refine yR ?_
 refine aa rfl (cb rfl rfl rfl) ?_
 refine yN ?_
 dsimp only [St.put]
 refine K29 _ ?_
 refine yS fun _ K30 => ?_
 refine am rfl (fun hc => ?_) (fun hc => ?_)
 ·replace hc := of_decide_eq_true hc
  obtain ⟨z0, hz0⟩ : ∃ z, S[j]? = some z := c7 (by omega)
  have hzb := hS z0 (fm hz0)
  obtain ⟨z, rfl⟩ : ∃ z : Nat, z0 = (z : Int) := ⟨z0.toNat, by omega⟩
  have hzl : z < p.seconds.length := by omega
  have hgz := j1 (cw p true) hzl
  have e := udx (g := fun i => cw p true i.toNat) hz0
  try dsimp only at e
  rw [Int.toNat_natCast] at e
  have hbz := oh h true z
  have hib2 := wc (g := fun i => cw p true i.toNat) (fun z => oh h true z.toNat) (S.take j)
  have htl : (S.take j).length ≤ 20 := by rw [List.length_take]; omega
  refine av ?_
  refine K30 _ ?_
  refine yS fun _ K31 => ?_
  refine az ?_
  refine yS fun _ K32 => ?_
  refine yR ?_
  refine aa rfl (bp rfl rfl rfl rfl (bk (by assumption)) (Enc.len _)) ?_
  refine yL rfl rfl rfl ?_
  refine yA rfl rfl ?_
  refine yN ?_
  dsimp only [St.put]
  refine K32 _ ?_
  refine yS fun _ K33 => ?_
  refine yS fun _ K34 => ?_
  refine yR ?_
  refine yM rfl rfl ?_
  refine aa rfl (cb rfl rfl rfl) ?_
  refine yM rfl rfl ?_
  refine yM rfl rfl ?_
  refine yF rfl rfl rfl rfl ?_
  refine yL rfl rfl rfl ?_
  refine aa rfl (bg rfl rfl (List.length_map _)) ?_
  refine aa rfl ((dz (c := false) (kz rfl rfl rfl) (decide_eq_false (by rw [hk4]; omega)))) ?_
  refine aa rfl (cm rfl rfl (by constructor)) ?_
  refine yN ?_
  dsimp only [St.put]
  refine K34 _ ?_
  refine am rfl (fun h => by cases h) (fun _ => ?_)
  refine av ?_
  refine K33 _ ?_
  refine yR ?_
  refine yM rfl rfl ?_
  refine yF rfl rfl rfl rfl ?_
  refine yL rfl rfl rfl ?_
  refine yM rfl rfl ?_
  refine aa rfl (bp rfl rfl rfl rfl (bk (by assumption)) (Enc.len _)) ?_
  refine yL rfl rfl rfl ?_
  refine aa rfl (bq rfl rfl rfl (by omega)) ?_
  refine yA rfl rfl ?_
  refine yN ?_
  dsimp only [St.put]
  refine K31 _ ?_
  refine yR ?_
  refine aa rfl (bq rfl rfl rfl (by omega)) ?_
  refine yM rfl rfl ?_
  refine yN ?_
  dsimp only [St.put]
  rw [show A + B + ib (S.take j) (fun i => cw p true i.toNat) + cw p true z = A + B + ib (S.take (j + 1)) (fun i => cw p true i.toNat) by rw [e]; omega]
  exact ⟨j + 1, by omega, by omega, ⟨⟨rfl, rfl⟩, zF, zB, zN, zX⟩⟩
 replace hc := of_decide_eq_false hc
 rw [fu (show S.length ≤ j by omega)]
 refine cv ?_
 refine K27 _ ?_
 refine yS fun _ K35 => ?_
 refine yR ?_
 refine yM rfl rfl ?_
 refine yA rfl rfl ?_
 refine yN ?_
 dsimp only [St.put]
 refine K35 _ ?_
 refine ar ?_
 refine bc rfl (by constructor) zN zS ?_
 exact vi (by rw [← hA, ← hB]; rfl)
end Go.Proofs.YtbbdginipiljdaaGreatDoor
namespace Go.AB
open Go Go.RowKit
open Go.AB.Enc (cells)
open Go.PB (aw ai PlaceD ba bf bd bn aq af cj bj cz c5 pn)
theorem yz {n : Nat} {S : Nat → Bool} : ∀ z ∈ f9 n S, 0 ≤ z ∧ z < (n : Int) := fun z hz => by
 obtain ⟨i, e, hi, _⟩ := memL_mem.1 hz
 omega
end Go.AB
namespace Go.Proofs.YtbbdginipiljdaaGreatDoor
set_option maxRecDepth 10000
open Go Go.RowKit Go.AB
open Go.AB.Enc (cells)
open Go.PB (aw ai PlaceD ba bf bd bn aq af cj bj cz c5 pn)
theorem y8 (n s : Nat) (hs : s ≤ 1000) (hn : n ≤ 12) : Pure Tryz.prog 37 [.v (.int .i64 (n : Int)), .v (.int .i64 (s : Int))] (lst (cd n s)) := by
 refine ct Tryz.func37 rfl (fun m => (br _ _)) fun G nx => ?_
 simp only [Tryz.ntmps37, List.length_cons, List.length_nil, Nat.reduceAdd, Nat.reduceSub]
 refine bu fun hlt => ?_
 dsimp only at hlt
 refine yS fun _ K1 => ?_
 refine yR ?_
 refine yA rfl rfl ?_
 refine yN ?_
 dsimp only [St.put]
 refine K1 _ ?_
 refine yS fun _ K2 => ?_
 refine yR ?_
 refine yA rfl rfl ?_
 refine yN ?_
 dsimp only [St.put]
 refine K2 _ ?_
 refine oo 5 3 1 rfl (by decide) ?_
 dsimp only [List.set_cons_zero, List.set_cons_succ]
 refine yS fun _ K3 => ?_
 refine yS fun _ K4 => ?_
 refine yR ?_
 refine yM rfl rfl ?_
 refine yM rfl rfl ?_
 refine yN ?_
 dsimp only [St.put]
 refine K4 _ ?_
 refine az ?_
 refine ce 9 ?_
 refine zQ ?_
 refine cy ((ak G nx (.tip (cd 0 s).length 3 1))) zX ?_
 dsimp only
 refine cx (X := Nat) (fun k => k ≤ n) (fun k => n - k) (fun k => [(5, .list ((cd k s).map cells) (.tip nx)), (6, .any), (8, .v (.int .i64 (k : Int)))]) (fun k G' => (ak G nx (.tip (cd k s).length 3 1))) 0 rfl ?_ ?_ ?_ ?_ ?_ ?_
 ·exact Nat.zero_le _
 ·exact zF
 ·exact zX
 ·rintro k hI
  exact zL
 ·rintro k hI
  exact zH
 rintro k hI
 dsimp only at hI ⊢
 refine yS fun _ K5 => ?_
 refine yR ?_
 refine aa rfl (cb rfl rfl rfl) ?_
 refine yN ?_
 dsimp only [St.put]
 refine K5 _ ?_
 refine yS fun _ K6 => ?_
 refine am rfl (fun hc => ?_) (fun hc => ?_)
 ·replace hc := of_decide_eq_true hc
  have hml := m5 k s
  refine av ?_
  refine K6 _ ?_
  refine yS fun _ K7 => ?_
  refine az ?_
  refine yS fun _ K8 => ?_
  refine yR ?_
  refine yM rfl rfl ?_
  refine yA rfl rfl ?_
  refine yN ?_
  dsimp only [St.put]
  refine K8 _ ?_
  refine yS fun _ K9 => ?_
  refine yR ?_
  refine yM rfl rfl ?_
  refine yM rfl rfl ?_
  refine aa rfl (vr (m := s) (n := k) rfl rfl rfl (by show k ≤ 64; omega) (by show (s : Int) ≤ 9223372036854775807; omega) (by decide)) ?_
  refine aa rfl (vw (m := s / 2 ^ k) rfl rfl rfl (Nat.lt_of_le_of_lt (Nat.div_le_self _ _) (by show s < 2 ^ 64; omega)) (by decide)) ?_
  refine aa rfl (fg rfl rfl rfl) ?_
  refine yN ?_
  dsimp only [St.put]
  refine K9 _ ?_
  refine am rfl (fun hc => ?_) (fun hc => ?_)
  ·have hb : s.testBit k = true := bit_eq.1 (of_decide_eq_true hc)
   refine yR ?_
   refine yM rfl rfl ?_
   refine yM rfl rfl ?_
   try dsimp only [St.put]
   refine ae rfl (dj rfl rfl rfl (by decide) (by decide) zR (by decide) ?_)
   try dsimp only [St.put]
   refine ae rfl (jc ([(k : Int)]) rfl rfl zG zE rfl rfl zA ?_ zA)
   refine yA rfl rfl ?_
   refine yN ?_
   dsimp only [St.put]
   refine K7 _ ?_
   refine yR ?_
   refine aa rfl (bq rfl rfl rfl (by omega)) ?_
   refine yM rfl rfl ?_
   refine yN ?_
   dsimp only [St.put]
   have e := vx k s
   first
   | (have q : s.testBit k = true := hb
      rw [q, cond_true] at e
      rw [← e]
      exact ⟨k + 1, by omega, by omega, ⟨⟨rfl, rfl⟩, zF, zB, zN, zX⟩⟩)
   | (have q : s.testBit k = false := hb
      rw [q, cond_false, List.append_nil] at e
      rw [← e]
      exact ⟨k + 1, by omega, by omega, ⟨⟨rfl, rfl⟩, zF, zB, zN, zX⟩⟩)
  have hb : s.testBit k = false := by
   have := of_decide_eq_false hc
   rw [bit_eq, Bool.not_eq_true] at this
   exact this
  refine av ?_
  refine K7 _ ?_
  refine yR ?_
  refine aa rfl (bq rfl rfl rfl (by omega)) ?_
  refine yM rfl rfl ?_
  refine yN ?_
  dsimp only [St.put]
  have e := vx k s
  first
  | (have q : s.testBit k = true := hb
     rw [q, cond_true] at e
     rw [← e]
     exact ⟨k + 1, by omega, by omega, ⟨⟨rfl, rfl⟩, zF, zB, zN, zX⟩⟩)
  | (have q : s.testBit k = false := hb
     rw [q, cond_false, List.append_nil] at e
     rw [← e]
     exact ⟨k + 1, by omega, by omega, ⟨⟨rfl, rfl⟩, zF, zB, zN, zX⟩⟩)
 replace hc := of_decide_eq_false hc
 obtain rfl : k = n := by omega
 refine cv ?_
 refine K3 _ ?_
 refine yS fun _ K10 => ?_
 refine yR ?_
 refine yM rfl rfl ?_
 refine yA rfl rfl ?_
 refine yN ?_
 dsimp only [St.put]
 refine K10 _ ?_
 refine ar ?_
 refine qh rfl (dx (by constructor)) zN zS ?_
 exact zW
end Go.Proofs.YtbbdginipiljdaaGreatDoor
namespace Go.AB
open Go Go.RowKit
open Go.AB.Enc (cells)
open Go.PB (aw ai PlaceD ba bf bd bn aq af cj bj cz c5 pn)
theorem udb (n : Nat) : f9 n (fun _ => false) = [] := by
 unfold f9
 rw [List.filter_eq_nil_iff.2 (by simp)]; rfl
theorem ukt (n s : Nat) : (cd n s).Pairwise (· < ·) := by
 unfold cd ti
 refine List.Pairwise.map (fun i : Nat => (i : Int)) (R := (· < ·)) (fun a b h => by omega) ?_
 exact List.Pairwise.filter _ List.pairwise_lt_range
theorem uku {n s k : Nat} {x y : Int} (hx : (cd n s)[k]? = some x) (hy : (cd n s)[k + 1]? = some y) : x < y := by
 obtain ⟨h1, e1⟩ := List.getElem?_eq_some_iff.1 hx
 obtain ⟨h2, e2⟩ := List.getElem?_eq_some_iff.1 hy
 rw [← e1, ← e2]
 exact List.pairwise_iff_getElem.1 (ukt n s) k (k + 1) h1 h2 (by omega)
/-- what two sets of readers prove -/
def o5 (p : af) (but : List Int) (f s : Nat) : Int := nz p (cd p.firsts.length f) (cd p.seconds.length s) but
theorem uou {p : af} (h : dg p) (but : List Int) (f s : Nat) : jq p but ≤ o5 p but f s := by
 have := (uah h but).1 fun i => bif decide (i < p.firsts.length) then f.testBit i else s.testBit (i - p.firsts.length)
 have e1 : (f9 p.firsts.length fun i => bif decide (i < p.firsts.length) then f.testBit i else s.testBit (i - p.firsts.length)) = cd p.firsts.length f := tj fun i hi => by rw [decide_eq_true hi]; rfl
 have e2 : (f9 p.seconds.length fun i => bif decide (p.firsts.length + i < p.firsts.length) then f.testBit (p.firsts.length + i) else s.testBit (p.firsts.length + i - p.firsts.length)) = cd p.seconds.length s := tj fun i _ => by rw [decide_eq_false (by omega), Nat.add_sub_cancel_left]; rfl
 rw [e1, e2] at this
 exact this
theorem uow {p : af} (h : dg p) (but : List Int) : jq p but ≤ nz p [] [] but := by
 have := (uah h but).1 fun _ => false
 rwa [udb, udb] at this
theorem uov {p : af} (h : dg p) (but : List Int) {v : Int} (h1 : jq p but ≤ v) (h2 : ∀ f, f < 2 ^ p.firsts.length → ∀ s, s < 2 ^ p.seconds.length → v ≤ o5 p but f s) : v = jq p but := by
 obtain ⟨S, hS⟩ := (uah h but).2
 have := h2 (i5 S p.firsts.length) (ru _ _) (i5 (fun i => S (p.firsts.length + i)) p.seconds.length) (ru _ _)
 have e1 : cd p.firsts.length (i5 S p.firsts.length) = f9 p.firsts.length S := tj fun i hi => by rw [rx, decide_eq_true hi]; rfl
 have e2 : cd p.seconds.length (i5 (fun i => S (p.firsts.length + i)) p.seconds.length) = f9 p.seconds.length fun i => S (p.firsts.length + i) := tj fun i hi => by rw [rx, decide_eq_true hi]; rfl
 unfold o5 at this
 rw [e1, e2, ← hS] at this
 omega
/-- other pages, by the bits of a number -/
theorem ung {p : af} (h : dg p) (ht : gd p = true) {m : Int} (hm : 0 ≤ m) (B : Nat) (hb : gt (cd p.pages.length B) (jy (lx p m) p.pages.length) = true) : m < jq p (cd p.pages.length B) := by
 have hB := ue8 h ht hm
 have e : cd p.pages.length (i5 (fun i => B.testBit i) p.pages.length) = cd p.pages.length B := tj fun i hi => by rw [rx, decide_eq_true hi]; rfl
 rcases Int.lt_or_le m (jq p (cd p.pages.length B)) with q | q
 ·exact q
 have := hB.min (i5 (fun i => B.testBit i) p.pages.length) (ru _ _) (by unfold lx; rw [e]; exact decide_eq_true q)
 rw [e, hb] at this
 cases this
/-- what is left of the worst truth on the first pages -/
noncomputable def pt (p : af) (l : List Int) (k : Nat) : Int := sm k fun j => bif decide ((j : Int) ∈ l) then 0 else fp p j
theorem ubx (p : af) (l : List Int) (k : Nat) : pt p l (k + 1) = pt p l k + bif decide ((k : Int) ∈ l) then 0 else fp p k := rfl
theorem ya {p : af} (h : dg p) (ht : gd p = true) (l : List Int) : ∀ k, k ≤ p.pages.length → 0 ≤ pt p l k ∧ pt p l k ≤ k * 600
 | 0, _ => by simp [pt, sm]
 | k + 1, hk => by
  have ih := ya h ht l k (by omega)
  have hf := (Net.worst_feas (o7 h) (ut ht) fun j _ => ue h j).page k hk
  have hc := w4 h k
  have e : ((k + 1 : Nat) : Int) * 600 = (k : Int) * 600 + 600 := by rw [Int.natCast_add, Int.add_mul]; simp
  have hw : 0 ≤ fp p k ∧ fp p k ≤ 600 := ⟨hf.1, Int.le_trans hf.2 hc.2⟩
  rw [ubx]
  cases decide ((k : Int) ∈ l)
  ·rw [cond_false]; omega
  rw [cond_true]; omega
theorem ugl {p : af} (h : dg p) (ht : gd p = true) {i : Nat} (hi : i < p.pages.length) : 0 ≤ fp p i ∧ fp p i ≤ 600 := by
 have h1 := ((Net.worst_feas (o7 h) (ut ht) fun j _ => ue h j).page i hi)
 have h2 := w4 h i
 exact ⟨h1.1, Int.le_trans h1.2 h2.2⟩
theorem uip {p : af} (h : dg p) (ht : gd p = true) (l : List Int) : pt p l p.pages.length ≤ jq p l := ugk h ht l
end Go.AB
namespace Go.Proofs.YtbbdginipiljdaaGreatDoor
set_option maxRecDepth 10000
open Go Go.RowKit Go.AB
open Go.AB.Enc (cells)
open Go.PB (aw ai PlaceD ba bf bd bn aq af cj bj cz c5 pn)
theorem uls (p : af) (but : List Int) (h : dg p) (lB : but.length ≤ 20) : Pure Tryz.prog 32 [val (pc p), val p, .list [] .nil, .list [] .nil, lst but] (.v (.int .i64 (nz p [] [] but))) :=
 (uds p [] [] but h (by simp) (by simp) (by simp) (by simp) lB).wk ⟨Wk.refl _, Wk.refl _, Wk.tok, Wk.tok, Wk.refl _, trivial⟩
theorem ult (p : af) (but : List Int) (f s : Nat) (h : dg p) (lB : but.length ≤ 20) : Pure Tryz.prog 32 [val (pc p), val p, lst (cd p.firsts.length f), lst (cd p.seconds.length s), lst but] (.v (.int .i64 (o5 p but f s))) :=
 uds p _ _ but h (fun z hz => yz (S := fun i => f.testBit i) z hz) (fun z hz => yz (S := fun i => s.testBit i) z hz) (by have := m5 p.firsts.length f; have := h.nf; omega) (by have := m5 p.seconds.length s; have := h.ns; omega) lB
set_option maxHeartbeats 1000000 in
theorem udt (p : af) (but : List Int) (h : dg p) (lB : but.length ≤ 20) : Pure Tryz.prog 38 [val (pc p), val p, lst but] (.v (.int .i64 (jq p but))) := by
 refine ct Tryz.func38 rfl (fun m => .v) fun G nx => ?_
 simp only [Tryz.ntmps38, List.length_cons, List.length_nil, Nat.reduceAdd, Nat.reduceSub]
 refine bu fun hlt => ?_
 dsimp only at hlt
 have hn1 := h.nf
 have hn2 := h.ns
 have h8 : 2 ^ p.firsts.length ≤ 2 ^ 3 := Nat.pow_le_pow_right (by omega) hn1
 have h9 : 2 ^ p.seconds.length ≤ 2 ^ 3 := Nat.pow_le_pow_right (by omega) hn2
 have hst := uow h but
 refine yS fun _ K1 => ?_
 refine yR ?_
 try dsimp only [St.put]
 refine yB rfl rfl rfl ?_
 try dsimp only [St.put]
 refine yB rfl rfl rfl ?_
 refine yA rfl rfl ?_
 refine yN ?_
 dsimp only [St.put]
 refine K1 _ ?_
 refine yS fun _ K2 => ?_
 refine yR ?_
 refine yE rfl rfl rfl ?_
 refine yE rfl rfl rfl ?_
 refine yM rfl rfl ?_
 try dsimp only [St.put]
 refine ae rfl (ax rfl rfl rfl (uls p but h lB) ?_)
 refine yA rfl rfl ?_
 refine yN ?_
 dsimp only [St.put]
 refine K2 _ ?_
 refine yS fun _ K3 => ?_
 refine yS fun _ K4 => ?_
 refine yR ?_
 refine yF rfl rfl rfl rfl ?_
 refine yL rfl rfl rfl ?_
 refine aa rfl (bg rfl rfl (List.length_map _)) ?_
 refine aa rfl (vt (n := p.firsts.length) rfl rfl rfl (by omega)) ?_
 refine yM rfl rfl ?_
 refine yN ?_
 dsimp only [St.put]
 refine K4 _ ?_
 refine az ?_
 refine ce 19 ?_
 refine zQ ?_
 refine cy (G) zX ?_
 dsimp only
 refine cx (X := Nat × Int) (fun y => y.1 ≤ 2 ^ p.firsts.length ∧ jq p but ≤ y.2 ∧ ∀ f, f < y.1 → ∀ s, s < 2 ^ p.seconds.length → y.2 ≤ o5 p but f s) (fun y => 2 ^ p.firsts.length - y.1) (fun y => [(7, .v (.int .i64 y.2)), (8, .any), (9, .any), (18, .v (.int .i64 (y.1 : Int)))]) (fun y G' => G') (0, nz p [] [] but) rfl ?_ ?_ (fun _ _ h => h) ?_ ?_ ?_
 ·exact ⟨Nat.zero_le _, hst, fun f hf => absurd hf (Nat.not_lt_zero _)⟩
 ·exact zF
 ·rintro ⟨f, v⟩ hI
  exact zL
 ·exact fun _ _ _ _ h => .inl h
 rintro ⟨f, v⟩ hI
 dsimp only at hI ⊢
 refine yS fun _ K5 => ?_
 refine yR ?_
 refine aa rfl (cb rfl rfl rfl) ?_
 refine yN ?_
 dsimp only [St.put]
 refine K5 _ ?_
 refine yS fun _ K6 => ?_
 refine am rfl (fun hc => ?_) (fun hc => ?_)
 ·replace hc := of_decide_eq_true hc
  have hfl : f < 2 ^ p.firsts.length := by omega
  refine av ?_
  refine K6 _ ?_
  refine yS fun _ K7 => ?_
  refine az ?_
  refine yS fun _ K8 => ?_
  refine yR ?_
  refine yM rfl rfl ?_
  refine yA rfl rfl ?_
  refine yN ?_
  dsimp only [St.put]
  refine K8 _ ?_
  refine yS fun _ K9 => ?_
  refine yR ?_
  refine yF rfl rfl rfl rfl ?_
  refine yL rfl rfl rfl ?_
  refine aa rfl (bg rfl rfl (List.length_map _)) ?_
  refine aa rfl (vt (n := p.seconds.length) rfl rfl rfl (by omega)) ?_
  refine yM rfl rfl ?_
  refine yN ?_
  dsimp only [St.put]
  refine K9 _ ?_
  refine az ?_
  refine ce 26 ?_
  refine zQ ?_
  refine cy (G) zX ?_
  dsimp only
  refine cx (X := Nat × Int) (fun y => y.1 ≤ 2 ^ p.seconds.length ∧ jq p but ≤ y.2 ∧ (∀ f', f' < f → ∀ s, s < 2 ^ p.seconds.length → y.2 ≤ o5 p but f' s) ∧ ∀ s, s < y.1 → y.2 ≤ o5 p but f s) (fun y => 2 ^ p.seconds.length - y.1) (fun y => [(7, .v (.int .i64 y.2)), (9, .any), (25, .v (.int .i64 (y.1 : Int)))]) (fun y G' => G') (0, v) rfl ?_ ?_ (fun _ _ h => h) ?_ ?_ ?_
  ·exact ⟨Nat.zero_le _, hI.2.1, hI.2.2, fun s hs => absurd hs (Nat.not_lt_zero _)⟩
  ·exact zF
  ·rintro ⟨s, u⟩ hI
   exact zL
  ·exact fun _ _ _ _ h => .inl h
  rintro ⟨s, u⟩ hJ
  dsimp only at hJ ⊢
  refine yS fun _ K10 => ?_
  refine yR ?_
  refine aa rfl (cb rfl rfl rfl) ?_
  refine yN ?_
  dsimp only [St.put]
  refine K10 _ ?_
  refine yS fun _ K11 => ?_
  refine am rfl (fun hc => ?_) (fun hc => ?_)
  ·replace hc := of_decide_eq_true hc
   have hsl : s < 2 ^ p.seconds.length := by omega
   refine av ?_
   refine K11 _ ?_
   refine yS fun _ K12 => ?_
   refine az ?_
   refine yS fun _ K13 => ?_
   refine yR ?_
   refine yM rfl rfl ?_
   refine yA rfl rfl ?_
   refine yN ?_
   dsimp only [St.put]
   refine K13 _ ?_
   refine gu [(0, none), (1, none), (2, none), (3, none), (4, none), (5, none), (6, none), (8, none), (9, none), (10, none), (11, none), (13, none), (7, none), (12, none), (14, none), (15, none), (16, none)] (fun i => [14].contains i) (fun i => [7, 12, 14].contains i) (fun i => [0, 3, 5, 6, 8, 10, 11, 13, 15, 16].contains i) [] (by kernel_rfl) (by kernel_rfl) ?_
   refine xM rfl rfl rfl rfl rfl ?_
   try dsimp only [St.put]
   refine ay rfl rfl rfl rfl (ep rfl rfl (Enc.len _)) ?_
   try dsimp only [St.put]
   refine ay rfl rfl rfl rfl (ep rfl rfl (Enc.len _)) ?_
   refine ah rfl rfl rfl rfl (co rfl rfl rfl) ?_
   try dsimp only [St.put]
   refine ay rfl rfl rfl rfl (ca rfl rfl) ?_
   refine ah rfl rfl rfl rfl (bg rfl rfl (List.length_map _)) ?_
   refine xM rfl rfl rfl rfl rfl ?_
   refine ah rfl rfl rfl rfl (co rfl rfl rfl) ?_
   try dsimp only [St.put]
   refine ay rfl rfl rfl rfl (ca rfl rfl) ?_
   refine ah rfl rfl rfl rfl (bg rfl rfl (List.length_map _)) ?_
   refine xM rfl rfl rfl rfl rfl ?_
   refine xM rfl rfl rfl rfl rfl ?_
   refine jg ?_
   try dsimp only [St.put]
   refine jz rfl rfl rfl (ax rfl rfl rfl (y8 p.firsts.length f (by omega) (by omega)) ⟨zD, ?_⟩)
   try dsimp only [St.put]
   refine jz rfl rfl rfl (ax rfl rfl rfl (y8 p.seconds.length s (by omega) (by omega)) ⟨zD, ?_⟩)
   try dsimp only [St.put]
   refine il rfl rfl rfl rfl (ax rfl rfl rfl (ult p but f s h lB) ?_)
   refine ef rfl rfl rfl rfl (yv rfl rfl rfl rfl) ?_
   refine ef rfl rfl rfl rfl (fh rfl (by constructor)) ?_
   refine jf ?_
   dsimp only [St.put]
   refine K12 _ ?_
   refine yR ?_
   refine aa rfl (bq rfl rfl rfl (by omega)) ?_
   refine yM rfl rfl ?_
   refine yN ?_
   dsimp only [St.put]
   exact ⟨(s + 1, min u (o5 p but f s)), by (dsimp only; omega), ⟨by (dsimp only; omega), by have := uou h but f s; have := hJ.2.1; dsimp only; omega, fun f' hf' s' hs' => by have := hJ.2.2.1 f' hf' s' hs'; dsimp only; omega, fun s' hs' => by
     by_cases e : s' = s
     ·subst e; dsimp only; omega
     have := hJ.2.2.2 s' (by have : s' < s + 1 := hs'; omega); dsimp only; omega⟩, ⟨⟨rfl, rfl⟩, zF, zB, zN, zX⟩⟩
  replace hc := of_decide_eq_false hc
  refine cv ?_
  refine K7 _ ?_
  refine yR ?_
  refine aa rfl (bq rfl rfl rfl (by omega)) ?_
  refine yM rfl rfl ?_
  refine yN ?_
  dsimp only [St.put]
  exact ⟨(f + 1, u), by (dsimp only; omega), ⟨by (dsimp only; omega), hJ.2.1, fun f' hf' s' hs' => by
    by_cases e : f' = f
    ·subst e; exact hJ.2.2.2 s' (by omega)
    exact hJ.2.2.1 f' (by have : f' < f + 1 := hf'; omega) s' hs'⟩, ⟨⟨rfl, rfl⟩, zF, zB, zN, zX⟩⟩
 replace hc := of_decide_eq_false hc
 refine cv ?_
 refine K3 _ ?_
 refine yS fun _ K14 => ?_
 refine yR ?_
 refine yM rfl rfl ?_
 refine yA rfl rfl ?_
 refine yN ?_
 dsimp only [St.put]
 refine K14 _ ?_
 refine ar ?_
 refine bc rfl (by constructor) zN zS ?_
 exact vi (uov h but hI.2.1 fun f' hf' s' hs' => hI.2.2 f' (by omega) s' hs')
theorem uly (n : Nat) (p : af) (m : Int) (h0 : cg p = 0) (ht : gd p = true) (hm : 0 ≤ m) : ei n eg Tryz.prog 35 [val p, .v (.int .i64 m)] (.tup [lst (jy (lx p m) p.pages.length), .v (.int .i64 0)]) := by
 have hE : iw p m = 0 := ue9 h0 (by omega) ht
 have := yh n p m
 rwa [hE, show jd p m = jy (lx p m) p.pages.length by unfold jd; rw [hE, ot]] at this
theorem ulx (n : Nat) (p : af) (m : Int) (h0 : cg p = 0) (ht : gd p = false) (hm : 0 ≤ m) : ei n eg Tryz.prog 35 [val p, .v (.int .i64 m)] (.tup [lst (jd p m), .v (.int .i64 8)]) := by
 have := yh n p m
 rwa [ufa h0 (by omega) ht] at this
theorem ulo (n : Nat) (p : af) (h : fa p (cg p) = 8) : ei n eg Tryz.prog 15 [val p] (.tup [lst (mp p), .v (.int .i64 8)]) := by
 have := ye n p
 rwa [h] at this
set_option maxHeartbeats 4000000 in
theorem unf (p : af) (a b : Int) : ei 0 eg Tryz.prog 8 [val p, .v (.int .u8 a), .v (.int .u8 b)] (.v (.bool true)) := fun G nx hF hnx => by
 refine g7 (G) (nx) Tryz.func8 rfl (.v) zN (fun hlt => zH) ?_
 simp only [Tryz.ntmps8, List.length_cons, List.length_nil, Nat.reduceAdd, Nat.reduceSub]
 refine bu fun hlt => ?_
 dsimp only at hlt
 refine ki 1 (fun hfa => ?_)
 replace hfa := uau hfa
 refine ki 2 (fun hfb => ?_)
 replace hfb := uau hfb
 obtain ⟨B, rfl⟩ : ∃ B : Nat, b = (B : Int) := ⟨b.toNat, by omega⟩
 obtain ⟨m, hm⟩ : ∃ m, a % 12 = m := ⟨_, rfl⟩
 have hm0 : 0 ≤ m ∧ m < 12 := by omega
 refine yS fun _ K1 => ?_
 refine yR ?_
 try dsimp only [St.put]
 refine yB rfl rfl rfl ?_
 refine yA rfl rfl ?_
 refine yN ?_
 dsimp only [St.put]
 refine K1 _ ?_
 refine yS fun _ K2 => ?_
 refine yR ?_
 try dsimp only [St.put]
 refine ae rfl ((dw rfl rfl rfl ((uok 0)) zG (by dsimp only [St.put]; omega) ?_))
 refine yA rfl rfl ?_
 refine yN ?_
 dsimp only [St.put]
 refine K2 _ ?_
 refine yS fun _ K3 => ?_
 refine yS fun _ K4 => ?_
 refine yR ?_
 refine yE rfl rfl rfl ?_
 try dsimp only [St.put]
 refine ae rfl (ax rfl rfl rfl (ulr p) ?_)
 refine aa rfl (dl rfl rfl) ?_
 refine em (fun hs => ?_) (fun hs => ?_)
 ·skip
  refine yM rfl rfl ?_
  refine yK rfl ?_
  refine yK rfl ?_
  refine aa rfl (bw rfl rfl (by constructor)) ?_
  refine yN ?_
  dsimp only [St.put]
  refine K4 _ ?_
  refine am rfl (fun _ => ?_) (fun h => by cases h)
  refine yS fun _ K5 => ?_
  refine yR ?_
  refine yM rfl rfl ?_
  refine yA rfl rfl ?_
  refine yN ?_
  dsimp only [St.put]
  refine K5 _ ?_
  refine ar ?_
  refine bc rfl (by constructor) zN zS ?_
  rfl
 have hrd : qy p = true := by simpa using hs
 have hC := (readyP_true.1 hrd).2
 obtain ⟨hok, _⟩ := lg hC
 have hnp := hok.np
 have hL0 : fa p (cg p) = bif gd p then 0 else 8 := by rw [hC, rk]
 refine yM rfl rfl ?_
 refine yM rfl rfl ?_
 refine aa rfl (dl rfl rfl) ?_
 refine aa rfl (cm rfl rfl (by constructor)) ?_
 refine yN ?_
 dsimp only [St.put]
 refine K4 _ ?_
 refine am rfl (fun h => by cases h) (fun _ => ?_)
 refine av ?_
 refine K3 _ ?_
 refine yS fun _ K6 => ?_
 refine yR ?_
 refine yM rfl rfl ?_
 refine aa rfl ((uc5 rfl rfl rfl rfl (by omega))) ?_
 refine aa rfl ((ukg hm rfl rfl rfl (by omega) (by omega))) ?_
 refine yA rfl rfl ?_
 refine yN ?_
 dsimp only [St.put]
 refine K6 _ ?_
 refine yS fun _ K7 => ?_
 by_cases hT : gd p = true
 ·have hL : fa p (cg p) = 0 := by rw [hL0, hT]; rfl
  have hbest := ue8 hok hT hm0.1
  obtain ⟨s0, hs1, hs2, hs3⟩ := hbest.get
  have hfew : jq p (cd p.pages.length s0) ≤ m := of_decide_eq_true hs2
  have hml := m5 p.pages.length s0
  have hin : ∀ z ∈ cd p.pages.length s0, 0 ≤ z ∧ z < (p.pages.length : Int) := fun z hz => yz (S := fun i => s0.testBit i) z hz
  have hra := uip hok hT (cd p.pages.length s0)
  have hr0 := ya hok hT (cd p.pages.length s0) p.pages.length (Nat.le_refl _)
  have hoth := ung hok hT hm0.1 B
  have hCH := uly 0 p m hC hT hm0.1
  rw [hs3] at hoth hCH
  have hwl := gk p.pages.length (fp p)
  have hol := m5 p.pages.length B
  refine yR ?_
  refine yE rfl rfl rfl ?_
  refine yM rfl rfl ?_
  try dsimp only [St.put]
  refine ae rfl ((dw rfl rfl rfl (hCH) zG (by dsimp only [St.put]; omega) ?_))
  refine yM rfl rfl ?_
  refine yX rfl rfl rfl rfl ?_
  refine yX rfl rfl rfl rfl ?_
  refine yA rfl rfl ?_
  refine yA rfl rfl ?_
  refine yN ?_
  dsimp only [St.put]
  refine K7 _ ?_
  refine yS fun _ K8 => ?_
  refine yR ?_
  refine yE rfl rfl rfl ?_
  try dsimp only [St.put]
  refine ae rfl ((dw rfl rfl rfl ((ulp 0 p hL)) zG (by dsimp only [St.put]; omega) ?_))
  refine yM rfl rfl ?_
  refine yX rfl rfl rfl rfl ?_
  refine yX rfl rfl rfl rfl ?_
  refine yA rfl rfl ?_
  refine yA rfl rfl ?_
  refine yN ?_
  dsimp only [St.put]
  refine K8 _ ?_
  refine yS fun _ K9 => ?_
  refine yS fun _ K10 => ?_
  refine yR ?_
  refine yM rfl rfl ?_
  refine aa rfl ((dz (c := false) (et rfl rfl rfl) (p7 rfl))) ?_
  refine yN ?_
  dsimp only [St.put]
  refine K10 _ ?_
  refine am rfl (fun h => by cases h) (fun _ => ?_)
  refine av ?_
  refine K9 _ ?_
  refine yS fun _ K11 => ?_
  refine yS fun _ K12 => ?_
  refine yR ?_
  refine yM rfl rfl ?_
  refine aa rfl ((dz (c := false) (et rfl rfl rfl) (p7 rfl))) ?_
  refine yM rfl rfl ?_
  refine yM rfl rfl ?_
  refine aa rfl (bg rfl rfl (List.length_map _)) ?_
  refine yF rfl rfl rfl rfl ?_
  refine yL rfl rfl rfl ?_
  refine aa rfl (bg rfl rfl (List.length_map _)) ?_
  refine aa rfl ((dz (c := false) (et rfl rfl rfl) (p7 (by rw [hwl])))) ?_
  refine aa rfl (cm rfl rfl (by constructor)) ?_
  refine yN ?_
  dsimp only [St.put]
  refine K12 _ ?_
  refine am rfl (fun h => by cases h) (fun _ => ?_)
  refine av ?_
  refine K11 _ ?_
  refine yS fun _ K13 => ?_
  refine yR ?_
  refine yA rfl rfl ?_
  refine yN ?_
  dsimp only [St.put]
  refine K13 _ ?_
  refine yS fun _ K14 => ?_
  refine yS fun _ K15 => ?_
  refine yR ?_
  refine yM rfl rfl ?_
  refine aa rfl (bg rfl rfl (List.length_map _)) ?_
  refine yM rfl rfl ?_
  refine yN ?_
  dsimp only [St.put]
  refine K15 _ ?_
  refine az ?_
  refine ce 70 ?_
  refine zQ ?_
  refine cy (G) zX ?_
  dsimp only
  refine cx (X := Nat) (fun k => k ≤ p.pages.length) (fun k => p.pages.length - k) (fun k => [(13, .v (.int .i64 (pt p (cd p.pages.length s0) k))), (14, .any), (15, .any), (69, .v (.int .i64 (k : Int)))]) (fun k G' => G') 0 rfl ?_ ?_ (fun _ _ h => h) ?_ ?_ ?_
  ·exact Nat.zero_le _
  ·exact zF
  ·rintro k hI
   exact zL
  ·exact fun _ _ _ _ h => .inl h
  rintro k hI
  dsimp only at hI ⊢
  refine yS fun _ K16 => ?_
  refine yR ?_
  refine aa rfl (cb rfl rfl rfl) ?_
  refine yN ?_
  dsimp only [St.put]
  refine K16 _ ?_
  refine yS fun _ K17 => ?_
  refine am rfl (fun hc => ?_) (fun hc => ?_)
  ·replace hc := of_decide_eq_true hc
   have hkl : k < p.pages.length := by
    have : (k : Int) < ((bh p.pages.length (fp p)).length : Int) := hc
    rw [hwl] at this
    omega
   have hgw := j1 (fp p) hkl
   have e := ubx p (cd p.pages.length s0) k
   have hrb := ya hok hT (cd p.pages.length s0) k (by omega)
   have hwb := ugl hok hT hkl
   refine av ?_
   refine K17 _ ?_
   refine yS fun _ K18 => ?_
   refine az ?_
   refine yS fun _ K19 => ?_
   refine yR ?_
   refine yM rfl rfl ?_
   refine aa rfl (bp rfl rfl rfl rfl (bk (by assumption)) (Enc.len _)) ?_
   refine yL rfl rfl rfl ?_
   refine yA rfl rfl ?_
   refine yA rfl rfl ?_
   refine yN ?_
   dsimp only [St.put]
   refine K19 _ ?_
   refine yS fun _ K20 => ?_
   refine yR ?_
   refine yM rfl rfl ?_
   refine yM rfl rfl ?_
   try dsimp only [St.put]
   refine ae rfl (ax rfl rfl rfl (m9 (cd p.pages.length s0) (k : Int) (by omega)) ?_)
   refine aa rfl (dl rfl rfl) ?_
   refine yN ?_
   dsimp only [St.put]
   refine K20 _ ?_
   refine am rfl (fun hc => ?_) (fun hc => ?_)
   ·have hm1 : decide ((k : Int) ∈ cd p.pages.length s0) = false := by simpa using hc
    refine yR ?_
    refine yM rfl rfl ?_
    refine yM rfl rfl ?_
    refine aa rfl (bq rfl rfl rfl (by omega)) ?_
    refine yA rfl rfl ?_
    refine yN ?_
    dsimp only [St.put]
    refine K18 _ ?_
    refine yR ?_
    refine aa rfl (bq rfl rfl rfl (by omega)) ?_
    refine yM rfl rfl ?_
    refine yN ?_
    dsimp only [St.put]
    first
    | (have q : decide ((k : Int) ∈ cd p.pages.length s0) = false := hm1
       rw [q, cond_false] at e
       rw [← e]
       exact ⟨k + 1, by omega, by omega, ⟨⟨rfl, rfl⟩, zF, zB, zN, zX⟩⟩)
    | (have q : decide ((k : Int) ∈ cd p.pages.length s0) = true := hm2
       rw [q, cond_true, Int.add_zero] at e
       rw [← e]
       exact ⟨k + 1, by omega, by omega, ⟨⟨rfl, rfl⟩, zF, zB, zN, zX⟩⟩)
   have hm2 : decide ((k : Int) ∈ cd p.pages.length s0) = true := by simpa using hc
   refine av ?_
   refine K18 _ ?_
   refine yR ?_
   refine aa rfl (bq rfl rfl rfl (by omega)) ?_
   refine yM rfl rfl ?_
   refine yN ?_
   dsimp only [St.put]
   first
   | (have q : decide ((k : Int) ∈ cd p.pages.length s0) = false := hm1
      rw [q, cond_false] at e
      rw [← e]
      exact ⟨k + 1, by omega, by omega, ⟨⟨rfl, rfl⟩, zF, zB, zN, zX⟩⟩)
   | (have q : decide ((k : Int) ∈ cd p.pages.length s0) = true := hm2
      rw [q, cond_true, Int.add_zero] at e
      rw [← e]
      exact ⟨k + 1, by omega, by omega, ⟨⟨rfl, rfl⟩, zF, zB, zN, zX⟩⟩)
  replace hc := of_decide_eq_false hc
  obtain rfl : k = p.pages.length := by
   have : ¬ (k : Int) < ((bh p.pages.length (fp p)).length : Int) := hc
   rw [hwl] at this
   omega
  refine cv ?_
  refine K14 _ ?_
  refine yS fun _ K21 => ?_
  refine yS fun _ K22 => ?_
  refine yR ?_
  refine yM rfl rfl ?_
  refine aa rfl (bg rfl rfl (List.length_map _)) ?_
  refine yM rfl rfl ?_
  refine yN ?_
  dsimp only [St.put]
  refine K22 _ ?_
  refine az ?_
  refine ce 85 ?_
  refine zQ ?_
  refine cy (G) zX ?_
  dsimp only
  refine cx (X := Nat) (fun j => j ≤ (cd p.pages.length s0).length) (fun j => (cd p.pages.length s0).length - j) (fun j => [(16, .any), (17, .any), (84, .v (.int .i64 (j : Int)))]) (fun j G' => G') 0 rfl ?_ ?_ (fun _ _ h => h) ?_ ?_ ?_
  ·exact Nat.zero_le _
  ·exact zF
  ·rintro j hI
   exact zL
  ·exact fun _ _ _ _ h => .inl h
  rintro j hJ
  dsimp only at hJ ⊢
  refine yS fun _ K23 => ?_
  refine yR ?_
  refine aa rfl (cb rfl rfl rfl) ?_
  refine yN ?_
  dsimp only [St.put]
  refine K23 _ ?_
  refine yS fun _ K24 => ?_
  refine am rfl (fun hc => ?_) (fun hc => ?_)
  ·replace hc := of_decide_eq_true hc
   obtain ⟨z, hz⟩ : ∃ z, (cd p.pages.length s0)[j]? = some z := c7 (by omega)
   have hzb := hin z (fm hz)
   refine av ?_
   refine K24 _ ?_
   refine yS fun _ K25 => ?_
   refine az ?_
   refine yS fun _ K26 => ?_
   refine yR ?_
   refine yM rfl rfl ?_
   refine aa rfl (bp rfl rfl rfl rfl (bk (by assumption)) (Enc.len _)) ?_
   refine yL rfl rfl rfl ?_
   refine yA rfl rfl ?_
   refine yA rfl rfl ?_
   refine yN ?_
   dsimp only [St.put]
   refine K26 _ ?_
   refine yS fun _ K27 => ?_
   refine yR ?_
   refine yM rfl rfl ?_
   refine aa rfl ((dz (c := false) (cb rfl rfl rfl) (decide_eq_false (by omega)))) ?_
   refine yM rfl rfl ?_
   refine yM rfl rfl ?_
   refine yF rfl rfl rfl rfl ?_
   refine yL rfl rfl rfl ?_
   refine aa rfl (bg rfl rfl (List.length_map _)) ?_
   refine aa rfl ((dz (c := false) (kz rfl rfl rfl) (decide_eq_false (by omega)))) ?_
   refine aa rfl (cm rfl rfl (by constructor)) ?_
   refine yM rfl rfl ?_
   refine yM rfl rfl ?_
   refine aa rfl (g4 rfl rfl rfl) ?_
   refine em (fun hs => ?_) (fun hs => ?_)
   ·have hj0 := of_decide_eq_true hs
    obtain ⟨y, hy⟩ : ∃ y, (cd p.pages.length s0)[j - 1]? = some y := c7 (by omega)
    have hyz := uku hy (y := z) (by rw [show j - 1 + 1 = j by omega]; exact hz)
    refine yM rfl rfl ?_
    refine yM rfl rfl ?_
    refine yM rfl rfl ?_
    refine yM rfl rfl ?_
    refine aa rfl (f7 rfl rfl rfl (by omega)) ?_
    try dsimp only [St.put]
    refine aa rfl ((bp (k := j - 1) rfl rfl rfl (by omega) (bk hy) (Enc.len _))) ?_
    refine yL rfl rfl rfl ?_
    refine aa rfl ((dz (c := false) (o8 rfl rfl rfl) (decide_eq_false (by omega)))) ?_
    refine aa rfl (bw rfl rfl (by constructor)) ?_
    refine aa rfl (cm rfl rfl (by constructor)) ?_
    refine yN ?_
    dsimp only [St.put]
    refine K27 _ ?_
    refine am rfl (fun h => by cases h) (fun _ => ?_)
    refine av ?_
    refine K25 _ ?_
    refine yR ?_
    refine aa rfl (bq rfl rfl rfl (by omega)) ?_
    refine yM rfl rfl ?_
    refine yN ?_
    dsimp only [St.put]
    exact ⟨j + 1, by omega, by omega, ⟨⟨rfl, rfl⟩, zF, zB, zN, zX⟩⟩
   skip
   refine yM rfl rfl ?_
   refine yK rfl ?_
   refine yK rfl ?_
   refine yK rfl ?_
   refine yK rfl ?_
   refine yK rfl ?_
   refine yK rfl ?_
   refine yK rfl ?_
   refine aa rfl (cm rfl rfl (by constructor)) ?_
   refine aa rfl (cm rfl rfl (by constructor)) ?_
   refine yN ?_
   dsimp only [St.put]
   refine K27 _ ?_
   refine am rfl (fun h => by cases h) (fun _ => ?_)
   refine av ?_
   refine K25 _ ?_
   refine yR ?_
   refine aa rfl (bq rfl rfl rfl (by omega)) ?_
   refine yM rfl rfl ?_
   refine yN ?_
   dsimp only [St.put]
   exact ⟨j + 1, by omega, by omega, ⟨⟨rfl, rfl⟩, zF, zB, zN, zX⟩⟩
  replace hc := of_decide_eq_false hc
  refine cv ?_
  refine K21 _ ?_
  refine yS fun _ K28 => ?_
  refine yR ?_
  refine yF rfl rfl rfl rfl ?_
  refine yL rfl rfl rfl ?_
  refine aa rfl (bg rfl rfl (List.length_map _)) ?_
  refine yM rfl rfl ?_
  refine aa rfl ((uc5 rfl rfl rfl rfl (by omega))) ?_
  try dsimp only [St.put]
  refine ae rfl (ax rfl rfl rfl (y8 p.pages.length B (by omega) (by omega)) ?_)
  refine yA rfl rfl ?_
  refine yN ?_
  dsimp only [St.put]
  refine K28 _ ?_
  refine yS fun _ K29 => ?_
  refine yR ?_
  refine yE rfl rfl rfl ?_
  try dsimp only [St.put]
  refine ae rfl ((dw rfl rfl rfl ((ul0 0 p hC)) zG (by dsimp only [St.put]; omega) ?_))
  refine yM rfl rfl ?_
  refine yX rfl rfl rfl rfl ?_
  refine yX rfl rfl rfl rfl ?_
  try dsimp only [St.put]
  refine ae rfl (dr rfl ?_)
  try dsimp only [St.put]
  refine ae rfl (c6 rfl rfl rfl zG rfl rfl (by rfl) ?_)
  refine yA rfl rfl ?_
  refine yN ?_
  dsimp only [St.put]
  refine K29 _ ?_
  refine gh (i := 19) rfl zG zC ?_
  dsimp only
  refine yS fun _ K30 => ?_
  refine yS fun _ K31 => ?_
  refine yR ?_
  refine yM rfl rfl ?_
  refine aa rfl (dl rfl rfl) ?_
  refine yN ?_
  dsimp only [St.put]
  refine K31 _ ?_
  refine am rfl (fun h => by cases h) (fun _ => ?_)
  refine av ?_
  refine K30 _ ?_
  refine yS fun _ K32 => ?_
  refine yR ?_
  refine yE rfl rfl rfl ?_
  refine yE rfl rfl rfl ?_
  refine yM rfl rfl ?_
  try dsimp only [St.put]
  refine ae rfl (ax rfl rfl rfl (udt p (cd p.pages.length s0) hok (by omega)) ?_)
  refine yA rfl rfl ?_
  refine yN ?_
  dsimp only [St.put]
  refine K32 _ ?_
  refine yS fun _ K33 => ?_
  refine yR ?_
  refine yM rfl rfl ?_
  refine yM rfl rfl ?_
  refine yM rfl rfl ?_
  refine aa rfl ((dz (c := true) (kz rfl rfl rfl) (decide_eq_true (by omega)))) ?_
  refine aa rfl (bw rfl rfl (by constructor)) ?_
  refine yM rfl rfl ?_
  refine yM rfl rfl ?_
  refine yM rfl rfl ?_
  refine aa rfl ((dz (c := true) (o8 rfl rfl rfl) (decide_eq_true hfew))) ?_
  refine aa rfl (bw rfl rfl (by constructor)) ?_
  refine yM rfl rfl ?_
  refine yM rfl rfl ?_
  refine yM rfl rfl ?_
  refine aa rfl ((dz (c := true) (o8 rfl rfl rfl) (decide_eq_true hra))) ?_
  refine aa rfl (bw rfl rfl (by constructor)) ?_
  refine yM rfl rfl ?_
  refine yM rfl rfl ?_
  refine yM rfl rfl ?_
  try dsimp only [St.put]
  refine ae rfl (ax rfl rfl rfl (ui9 (cd p.pages.length B) (cd p.pages.length s0) (by omega) (by omega)) ?_)
  refine aa rfl (dl rfl rfl) ?_
  refine em (fun hs => ?_) (fun hs => ?_)
  ·skip
   refine yM rfl rfl ?_
   refine yK rfl ?_
   refine yK rfl ?_
   refine yK rfl ?_
   refine yK rfl ?_
   refine yK rfl ?_
   refine yK rfl ?_
   refine aa rfl (bw rfl rfl (by constructor)) ?_
   refine aa rfl (bw rfl rfl (by constructor)) ?_
   refine yA rfl rfl ?_
   refine yN ?_
   dsimp only [St.put]
   refine K33 _ ?_
   refine ar ?_
   refine bc rfl (by constructor) zN zS ?_
   rfl
  have hbf : gt (cd p.pages.length B) (cd p.pages.length s0) = true := by simpa using hs
  have hgt := hoth hbf
  refine yM rfl rfl ?_
  refine yE rfl rfl rfl ?_
  refine yE rfl rfl rfl ?_
  refine yM rfl rfl ?_
  try dsimp only [St.put]
  refine ae rfl (ax rfl rfl rfl (udt p (cd p.pages.length B) hok (by omega)) ?_)
  refine yM rfl rfl ?_
  refine aa rfl ((dz (c := true) (g4 rfl rfl rfl) (decide_eq_true hgt))) ?_
  refine aa rfl (cm rfl rfl (by constructor)) ?_
  refine aa rfl (bw rfl rfl (by constructor)) ?_
  refine yA rfl rfl ?_
  refine yN ?_
  dsimp only [St.put]
  refine K33 _ ?_
  refine ar ?_
  refine bc rfl (by constructor) zN zS ?_
  rfl
 have hT0 : gd p = false := by simpa using hT
 have hL : fa p (cg p) = 8 := by rw [hL0, hT0]; rfl
 refine yR ?_
 refine yE rfl rfl rfl ?_
 refine yM rfl rfl ?_
 try dsimp only [St.put]
 refine ae rfl ((dw rfl rfl rfl ((ulx 0 p m hC hT0 hm0.1)) zG (by dsimp only [St.put]; omega) ?_))
 refine yM rfl rfl ?_
 refine yX rfl rfl rfl rfl ?_
 refine yX rfl rfl rfl rfl ?_
 refine yA rfl rfl ?_
 refine yA rfl rfl ?_
 refine yN ?_
 dsimp only [St.put]
 refine K7 _ ?_
 refine yS fun _ K34 => ?_
 refine yR ?_
 refine yE rfl rfl rfl ?_
 try dsimp only [St.put]
 refine ae rfl ((dw rfl rfl rfl ((ulo 0 p hL)) zG (by dsimp only [St.put]; omega) ?_))
 refine yM rfl rfl ?_
 refine yX rfl rfl rfl rfl ?_
 refine yX rfl rfl rfl rfl ?_
 refine yA rfl rfl ?_
 refine yA rfl rfl ?_
 refine yN ?_
 dsimp only [St.put]
 refine K34 _ ?_
 refine yS fun _ K35 => ?_
 refine yS fun _ K36 => ?_
 refine yR ?_
 refine yM rfl rfl ?_
 refine aa rfl ((dz (c := true) (et rfl rfl rfl) rfl)) ?_
 refine yN ?_
 dsimp only [St.put]
 refine K36 _ ?_
 refine am rfl (fun _ => ?_) (fun h => by cases h)
 refine yS fun _ K37 => ?_
 refine yR ?_
 refine yM rfl rfl ?_
 refine yM rfl rfl ?_
 refine yM rfl rfl ?_
 refine aa rfl ((dz (c := true) (fg rfl rfl rfl) (decide_eq_true rfl))) ?_
 refine aa rfl (bw rfl rfl (by constructor)) ?_
 refine yM rfl rfl ?_
 refine yM rfl rfl ?_
 refine yM rfl rfl ?_
 refine aa rfl ((dz (c := true) (fg rfl rfl rfl) (decide_eq_true rfl))) ?_
 refine aa rfl (bw rfl rfl (by constructor)) ?_
 refine yA rfl rfl ?_
 refine yN ?_
 dsimp only [St.put]
 refine K37 _ ?_
 refine ar ?_
 refine bc rfl (by constructor) zN zS ?_
 rfl
end Go.Proofs.YtbbdginipiljdaaGreatDoor
namespace Go.AB
open Go Go.RowKit Go.ChangeShapes Go.WideShapes
end Go.AB
namespace Go.Proofs.YtbbdginipiljdaaGreatDoor
set_option maxRecDepth 10000
open Go.ChangeShapes Go.WideShapes Go.ChangeAt Go.RowKit Go.AB
open Go.AB.Enc (cells)
open Go.PB (aw ai PlaceD ba bf bd)
instance : OpensE Tryz.prog 3 Int := .int (by kernel_rfl)
instance : OpensE Tryz.prog 9 ByteArray := .str (by kernel_rfl)
instance : OpensE Tryz.prog 130 (List ByteArray) := .slice (e := 9) (by kernel_rfl) (by decide)
instance : OpensE Tryz.prog 127 (List (List ByteArray)) := .slice (e := 130) (by kernel_rfl) (by decide)
instance : OpensE Tryz.prog 129 aw := .chap (tI := 3) (tL := 127) (by kernel_rfl)
instance : OpensE Tryz.prog 22 (List aw) := .slice (e := 129) (by kernel_rfl) (by decide)
theorem ug9 : jj Tryz.prog 24 [(0, 22, 1)] 1 = true := by kernel_rfl
instance : OpensE Tryz.prog 24 (List aw) := .one (e := 22) ug9
theorem uja : jj Tryz.prog 61 [(0, 3, 1), (1, 3, 1), (2, 3, 1)] 3 = true := by kernel_rfl
instance : OpensE Tryz.prog 61 PlaceD := .place (tI := 3) uja
theorem unu : Tryz.prog.underlying 4 = some .bool := by kernel_rfl
theorem ownZ : ownKnob Tryz.prog.godebug = none := by kernel_rfl
end Go.Proofs.YtbbdginipiljdaaGreatDoor
namespace Go.AB
open Go Go.RowKit Go.ChangeShapes Go.WideShapes
open Go.AB.Enc (cells)
open Go.PB (aw ai PlaceD ba bf bd bn aq af cj bj)
theorem OpensE.reader {P : Program} {t tI : TypeId} [oI : OpensE P tI Int] (h : jj P t [(0, tI, 1), (1, tI, 1)] 2 = true) : OpensE P t bn :=
 .struct (α := bn) h fun w cs hl hp => by
  obtain ⟨a, ha⟩ := hp (0, tI, 1) (by simp) Int inferInstance oI
  obtain ⟨b, hb⟩ := hp (1, tI, 1) (by simp) Int inferInstance oI
  match cs, hl with
  | [u, v], _ => exact ⟨⟨a, b⟩, Rs.cons (Rs.single_inv ha) hb⟩
theorem OpensE.page {P : Program} {t tI tL : TypeId} [oI : OpensE P tI Int] [oL : OpensE P tL (List PlaceD)] (h : jj P t [(0, tI, 1), (1, tI, 1), (2, tI, 1), (3, tI, 1), (4, tL, 1), (5, tL, 1)] 6 = true) : OpensE P t aq :=
 .struct (α := aq) h fun w cs hl hp => by
  obtain ⟨a, ha⟩ := hp (0, tI, 1) (by simp) Int inferInstance oI
  obtain ⟨b, hb⟩ := hp (1, tI, 1) (by simp) Int inferInstance oI
  obtain ⟨c, hc⟩ := hp (2, tI, 1) (by simp) Int inferInstance oI
  obtain ⟨d, hd⟩ := hp (3, tI, 1) (by simp) Int inferInstance oI
  obtain ⟨e, he⟩ := hp (4, tL, 1) (by simp) (List PlaceD) inferInstance oL
  obtain ⟨f, hf⟩ := hp (5, tL, 1) (by simp) (List PlaceD) inferInstance oL
  match cs, hl with
  | [u0, u1, u2, u3, u4, u5], _ => exact ⟨⟨a, b, c, d, e, f⟩, Rs.cons (Rs.single_inv ha) (Rs.cons (Rs.single_inv hb) (Rs.cons (Rs.single_inv hc) (Rs.cons (Rs.single_inv hd) (Rs.cons (Rs.single_inv he) hf))))⟩
theorem OpensE.proofs {P : Program} {t tT tR tP : TypeId} [oT : OpensE P tT (List aw)] [oR : OpensE P tR (List bn)] [oP : OpensE P tP (List aq)] (h : jj P t [(0, tT, 1), (1, tR, 1), (2, tR, 1), (3, tP, 1)] 4 = true) : OpensE P t af :=
 .struct (α := af) h fun w cs hl hp => by
  obtain ⟨a, ha⟩ := hp (0, tT, 1) (by simp) (List aw) inferInstance oT
  obtain ⟨b, hb⟩ := hp (1, tR, 1) (by simp) (List bn) inferInstance oR
  obtain ⟨c, hc⟩ := hp (2, tR, 1) (by simp) (List bn) inferInstance oR
  obtain ⟨d, hd⟩ := hp (3, tP, 1) (by simp) (List aq) inferInstance oP
  match cs, hl with
  | [u0, u1, u2, u3], _ => exact ⟨⟨a, b, c, d⟩, Rs.cons (Rs.single_inv ha) (Rs.cons (Rs.single_inv hb) (Rs.cons (Rs.single_inv hc) hd))⟩
end Go.AB
namespace Go.AB
open Go Go.RowKit Go.ChangeShapes Go.WideShapes
open Go.AB.Enc (cells)
open Go.PB (aw ai PlaceD bn aq af cj bj)
def uea (P : Program) (t : TypeId) : Bool := match P.underlying t with | some (.func _ _ _) => true | _ => false
theorem zl {P : Program} {t : TypeId} (h : uea P t = true) : ∃ ps rs va, P.underlying t = some (.func ps rs va) := by
 unfold uea at h
 split at h
 ·rename_i ps rs va he; exact ⟨ps, rs, va, he⟩
 ·cases h
/-- Functions that lie in a variable's cells. -/
theorem umt {W : World} {b : Nat} {cs : List C} (hne : cs ≠ []) (hone : ∀ c ∈ cs, c.one = true) (us : Nat → Value) (hc : ∀ j, j < cs.length → W.cell? ⟨b, j, none⟩ = some (us j)) (hr : ∀ j c, cs[j]? = some c → R (jp W) W c (us j)) : R (jp W) W (.elem cs) (.pointer (some ⟨b, 0, none⟩)) := by
 have hl : 0 < cs.length := List.length_pos_iff.2 hne
 refine .elem hne hone (.inr ⟨b, 0, rfl, ?_, fun j hj => by rw [Nat.zero_add]; exact hc j hj⟩) hr
 have := ufc (hc (cs.length - 1) (by omega))
 show 0 + cs.length ≤ qj W b
 omega
theorem ulm {P : Program} {f : FuncId} {cs : List C} {v gv : Value} {gc : C} (hp : ei 0 (.fact gv gc) P f cs (.v v)) {w : World} {args : List Value} (hK : R (jp w) w gc gv) (hr : Rs (jp w) w cs args) :
  Calls P f args.toArray w fun e w' => e = .returned v ∧ Below w.heap.size w w' :=
 uln (fun G nx hG => by
  intro E w' as' hrs hsg
  exact hp G nx hG (by obtain ⟨t, _⟩ := hsg.obj 0 _ hG; have := hsg.lt 0 _ t; rw [hsg.nx] at this; exact this) E w' as' hrs hsg) hK hr
/-- a cell of a function's type, as it reads -/
theorem ro {P : Program} {W : World} {t : TypeId} {ps rs : Array TypeId} {va : Bool} {v : Value} {b : UInt8} {r : List UInt8} {f0 : FuncId} (hu : P.underlying t = some (.func ps rs va)) (hv : IsFunc v) (hd : veil (funcToken P) t v = .held (b :: r))
  (hone : ((List.range P.funcs.size).filter fun f => (P.funcs[f]?).any (·.name.toUTF8.data.toList == b :: r)) = [f0]) : v = .func (.func f0) #[] #[] :=
 Go.func_of_trod (w := W) (base := 0) (sp := fun _ => true) (fuel := 1) (q := []) hu hone (by
  have := trod_func (enc := funcToken P) hu (W := W) (base := 0) (sp := fun _ => true) hv 0
  rw [hd] at this
  exact this)
end Go.AB
namespace Go.Proofs.YtbbdginipiljdaaGreatDoor
set_option maxRecDepth 10000
open Go.ChangeShapes Go.WideShapes Go.ChangeAt Go.RowKit Go.AB
open Go.AB.Enc (cells)
open Go.PB (aw ai PlaceD bn aq af cj bj)
instance : OpensE Tryz.prog 67 bn := .reader (tI := 3) (by kernel_rfl)
instance : OpensE Tryz.prog 25 (List bn) := .slice (e := 67) (by kernel_rfl) (by decide)
instance : OpensE Tryz.prog 56 (List PlaceD) := .slice (e := 61) (by kernel_rfl) (by decide)
instance : OpensE Tryz.prog 58 aq := .page (tI := 3) (tL := 56) (by kernel_rfl)
instance : OpensE Tryz.prog 26 (List aq) := .slice (e := 58) (by kernel_rfl) (by decide)
theorem ub6 : jj Tryz.prog 28 [(0, 24, 1), (1, 25, 1), (2, 25, 1), (3, 26, 1)] 4 = true := by kernel_rfl
instance : OpensE Tryz.prog 28 af := .proofs (tT := 24) (tR := 25) (tP := 26) ub6
theorem uav : tz Tryz.prog 5 .u8 = true := by kernel_rfl
theorem gSides : Tryz.prog.globalNamed "postil/proof.sides" = some 0 := by kernel_rfl
theorem tSides : (Tryz.prog.globals[0]?).map (·.type) = some 141 := by kernel_rfl
theorem ug4 : Tryz.prog.underlying 141 = some (.array 2 140) := by kernel_rfl
theorem unq : Tryz.prog.cellsOf 141 = 6 := by kernel_rfl
theorem ufd : Tryz.prog.cellsOf 140 = 3 := by kernel_rfl
theorem ubm : jj Tryz.prog 140 [(0, 136, 1), (1, 137, 1), (2, 138, 1)] 3 = true := by kernel_rfl
theorem uek : ∃ ps rs va, Tryz.prog.underlying 136 = some (.func ps rs va) := zl (by kernel_rfl)
theorem uem : ∃ ps rs va, Tryz.prog.underlying 137 = some (.func ps rs va) := zl (by kernel_rfl)
theorem uel : ∃ ps rs va, Tryz.prog.underlying 138 = some (.func ps rs va) := zl (by kernel_rfl)
theorem ubg {W : World} {m : Nat} {cs : List Value} {y : DataW (List UInt8) × List MemPlace} {d0 d1 d2 : DataW (List UInt8)} (hy : y.1 = .agg [d0, d1, d2])
  (h : DataW.trod (funcToken Tryz.prog) Tryz.prog W 0 (fun _ => true) true m 140 cs = some y) : ∃ v0 v1 v2, cs = [v0, v1, v2] ∧ (IsFunc v0 ∧ veil (funcToken Tryz.prog) 136 v0 = d0) ∧ (IsFunc v1 ∧ veil (funcToken Tryz.prog) 137 v1 = d1) ∧ (IsFunc v2 ∧ veil (funcToken Tryz.prog) 138 v2 = d2) := by
 obtain ⟨_, fs, he⟩ := uv ubm
 obtain ⟨xs, m', _, e1, hl, hlen, hf⟩ := DataW.trod_struct he h
 rw [ufd] at hl
 have hfs : fs.toList.map (fun f => (f.offset, f.type, Tryz.prog.cellsOf f.type)) = [(0, 136, 1), (1, 137, 1), (2, 138, 1)] := by
  have := ubm
  unfold jj at this
  rw [he] at this
  simp only [Bool.and_eq_true, beq_iff_eq] at this
  exact this.1
 obtain ⟨l⟩ := fs
 match l, hfs with
 | [f0, f1, f2], hfs =>
  simp only [List.map_cons, List.map_nil, List.cons.injEq, Prod.mk.injEq, and_true] at hfs
  obtain ⟨⟨a1, a2, a3⟩, ⟨b1, b2, b3⟩, ⟨c1, c2, c3⟩⟩ := hfs
  have h0 := hf 0 f0 rfl
  have h1 := hf 1 f1 rfl
  have h2 := hf 2 f2 rfl
  match cs, hl with
  | [u0, u1, u2], _ =>
   match xs, hlen with
   | [x0, x1, x2], _ =>
    subst e1
    simp only [List.map_cons, List.map_nil, DataW.agg.injEq, List.cons.injEq, and_true] at hy
    rw [a3, a1, a2] at h0
    rw [b3, b1, b2] at h1
    rw [c3, c1, c2] at h2
    obtain ⟨ps, rs, va, hu⟩ := uek
    obtain ⟨ps', rs', va', hu'⟩ := uem
    obtain ⟨ps2, rs2, va2, hu2⟩ := uel
    obtain ⟨v0, q0, q1, q2⟩ := Go.RowKit.func_of_trod hu h0
    obtain ⟨v1, q3, q4, q5⟩ := Go.RowKit.func_of_trod hu' h1
    obtain ⟨v2, q6, q7, q8⟩ := Go.RowKit.func_of_trod hu2 h2
    have e0 : u0 = v0 := by simpa using q0
    have e1 : u1 = v1 := by simpa using q3
    have e2 : u2 = v2 := by simpa using q6
    subst e0; subst e1; subst e2
    have hx0 : x0 = (veil (funcToken Tryz.prog) 136 u0, []) := by simpa using q2
    have hx1 : x1 = (veil (funcToken Tryz.prog) 137 u1, []) := by simpa using q5
    have hx2 : x2 = (veil (funcToken Tryz.prog) 138 u2, []) := by simpa using q8
    subst hx0; subst hx1; subst hx2
    obtain ⟨k0, k1, k2⟩ := hy
    exact ⟨u0, u1, u2, rfl, ⟨q1, k0⟩, ⟨q4, k1⟩, ⟨q7, k2⟩⟩
 | [], hfs => exact absurd hfs (by simp)
 | [_], hfs => exact absurd hfs (by simp)
 | [_, _], hfs => exact absurd hfs (by simp)
 | _ :: _ :: _ :: _ :: _, hfs => exact absurd hfs (by simp)
theorem uhw {W : World} (h : funcsAt Tryz.prog W "postil/proof.sides" (.agg [.agg [.iface "func" (.lit (.string [112, 111, 115, 116, 105, 108, 47, 112, 114, 111, 111, 102, 46, 115, 105, 100, 101, 115, 36, 49])), .iface "func" (.lit (.string [112, 111, 115, 116, 105, 108, 47, 112, 114, 111, 111, 102, 46, 115, 105, 100, 101, 115, 36, 50])), .iface "func" (.lit (.string [112, 111, 115, 116, 105, 108, 47, 112, 114, 111, 111, 102, 46, 115, 105, 100, 101, 115, 36, 51]))], .agg [.iface "func" (.lit (.string [112, 111, 115, 116, 105, 108, 47, 112, 114, 111, 111, 102, 46, 115, 105, 100, 101, 115, 36, 52])), .iface "func" (.lit (.string [112, 111, 115, 116, 105, 108, 47, 112, 114, 111, 111, 102, 46, 115, 105, 100, 101, 115, 36, 53])), .iface "func" (.lit (.string [112, 111, 115, 116, 105, 108, 47, 112, 114, 111, 111, 102, 46, 115, 105, 100, 101, 115, 36, 54]))]])) : R (jp W) W (.elem sidL) (.pointer (some ⟨0, 0, none⟩)) := by
 obtain ⟨g, t, cs, fuel, p, hg, ht, hv, hd⟩ := h
 obtain rfl := Option.some.inj (gSides.symm.trans hg)
 obtain rfl := Option.some.inj (tSides.symm.trans ht)
 obtain ⟨xs, m, _, e1, hl, hn, hel⟩ := DataW.trod_array ug4 hd
 rw [unq] at hl
 rw [ufd] at hel
 have hcell := fun i => World.var?_cell hg hv i
 obtain ⟨l⟩ := cs
 dsimp only at hl hel hcell
 match l, hl with
 | [u0, u1, u2, u3, u4, u5], _ =>
  match xs, hn with
  | [x0, x1], _ =>
   simp only [Prod.mk.injEq] at e1
   have e2 : (.agg [.agg [.held [112, 111, 115, 116, 105, 108, 47, 112, 114, 111, 111, 102, 46, 115, 105, 100, 101, 115, 36, 49], .held [112, 111, 115, 116, 105, 108, 47, 112, 114, 111, 111, 102, 46, 115, 105, 100, 101, 115, 36, 50], .held [112, 111, 115, 116, 105, 108, 47, 112, 114, 111, 111, 102, 46, 115, 105, 100, 101, 115, 36, 51]], .agg [.held [112, 111, 115, 116, 105, 108, 47, 112, 114, 111, 111, 102, 46, 115, 105, 100, 101, 115, 36, 52], .held [112, 111, 115, 116, 105, 108, 47, 112, 114, 111, 111, 102, 46, 115, 105, 100, 101, 115, 36, 53], .held [112, 111, 115, 116, 105, 108, 47, 112, 114, 111, 111, 102, 46, 115, 105, 100, 101, 115, 36, 54]]] : DataW (List UInt8)) = .agg [x0.1, x1.1] := e1.1
   simp only [DataW.agg.injEq, List.cons.injEq, and_true] at e2
   obtain ⟨a0, a1, a2, q0, ⟨a3, a4⟩, ⟨a5, a6⟩, ⟨a7, a8⟩⟩ := ubg e2.1.symm (hel 0 (by omega))
   obtain ⟨b0, b1, b2, q1, ⟨b3, b4⟩, ⟨b5, b6⟩, ⟨b7, b8⟩⟩ := ubg e2.2.symm (hel 1 (by omega))
   simp only [Nat.zero_mul, Nat.one_mul, List.drop_zero, List.drop_succ_cons, List.take_succ_cons, List.take_zero, List.cons.injEq, and_true] at q0 q1
   obtain ⟨rfl, rfl, rfl⟩ := q0
   obtain ⟨rfl, rfl, rfl⟩ := q1
   obtain ⟨ps, rs, va, hu⟩ := uek
   obtain ⟨ps', rs', va', hu'⟩ := uem
   obtain ⟨ps2, rs2, va2, hu2⟩ := uel
   obtain rfl := ro (W := W) (f0 := 157) hu a3 a4 (by kernel_rfl)
   obtain rfl := ro (W := W) (f0 := 158) hu' a5 a6 (by kernel_rfl)
   obtain rfl := ro (W := W) (f0 := 159) hu2 a7 a8 (by kernel_rfl)
   obtain rfl := ro (W := W) (f0 := 160) hu b3 b4 (by kernel_rfl)
   obtain rfl := ro (W := W) (f0 := 161) hu' b5 b6 (by kernel_rfl)
   obtain rfl := ro (W := W) (f0 := 162) hu2 b7 b8 (by kernel_rfl)
   let L : List Value := [.func (.func 157) #[] #[], .func (.func 158) #[] #[], .func (.func 159) #[] #[], .func (.func 160) #[] #[], .func (.func 161) #[] #[], .func (.func 162) #[] #[]]
   refine umt (by simp [sidL, nm]) (by intro c hc; simp only [sidL, nm, List.cons_append, List.nil_append, List.mem_cons, List.not_mem_nil, or_false] at hc; rcases hc with rfl | rfl | rfl | rfl | rfl | rfl <;> rfl) (fun j => L.getD j undef) (fun j hj => ?_) (fun j c hc => ?_)
   ·have := hcell j
    have hj' : j < 6 := hj
    rw [this]
    show (L.toArray)[j]? = _
    rw [List.getElem?_toArray, List.getD_eq_getElem?_getD, List.getElem?_eq_getElem (show j < L.length from hj')]
    rfl
   ·match j, hc with
    | 0, hc => cases hc; exact Rs.fn (vs := []) Rs.nil
    | 1, hc => cases hc; exact Rs.fn (vs := []) Rs.nil
    | 2, hc => cases hc; exact Rs.fn (vs := []) Rs.nil
    | 3, hc => cases hc; exact Rs.fn (vs := []) Rs.nil
    | 4, hc => cases hc; exact Rs.fn (vs := []) Rs.nil
    | 5, hc => cases hc; exact Rs.fn (vs := []) Rs.nil
abbrev tv : List (String × DataW Unit) := [("postil/proof.sides", Rows.laid_postil_proof_sides)]
set_option maxRecDepth 100000 in
/-- The door's own heap meets the condition. -/
theorem um5 (os : Os) (args : Array Value) : laidMetH Tryz.prog tv ((World.doorLaid Tryz.prog 600 os).forCall (fun _ _ => 0) ⟨#[], args, []⟩).memory :=
 laidMetH_of_parts3 (fuel := 8) (laidMet_of_run' 8 (by kernel_rfl) (by kernel_rfl)) (by kernel_rfl) (by kernel_rfl)
theorem uhv {W : World} (h : laidMetH Tryz.prog tv W) : R (jp W) W (.elem sidL) (.pointer (some ⟨0, 0, none⟩)) := uhw (h.funcs (List.mem_cons_self ..))
end Go.Proofs.YtbbdginipiljdaaGreatDoor
namespace Go.AB
open Go Go.RowKit Go.ChangeShapes Go.WideShapes
section
variable {H : Type} {enc : TypeId × Value → H} {P : Program} {w : World} {base : Nat} {spare : Nat → Bool} {held : Bool}
end
end Go.AB
