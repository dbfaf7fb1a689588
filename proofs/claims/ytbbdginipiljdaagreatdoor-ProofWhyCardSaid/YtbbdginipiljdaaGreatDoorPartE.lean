/-
  What the walks through the program rest on: values, states, steps, calls (RkTotal, RgSets, QpRef, QqRef, RlChief, SaAlive, PkGuess, SbFacts, SdSums, SfKnown, SjWhy, OpenL, OpenW, OpenS, Trod).
-/
import Derived.Test.YtbbdginipiljdaaGreatDoorPartD
import Derived.Test.YtbbdginipiljdaaGreatDoorPartC
import Derived.Test.YtbbdginipiljdaaGreatDoorRows
import Derived.LaidMore
import Derived.RowKitVeiled
import Derived.Carry
namespace Go.AB
open Go Go.RowKit
open Go.AB.Enc (cells)
open Go.PB (aw ai PlaceD bc bf bd bp aq af ci bi c4 c7)
theorem tw {p : af} {e : Int} (h : fg p e = 0) : e = 0 ∧ iz p = true := by
 by_cases h0 : e = 0
 ·subst h0
  rw [re] at h
  cases ht : iz p
  ·rw [ht] at h; cases h
  exact ⟨rfl, rfl⟩
 rw [udr h0] at h; exact absurd h h0
end Go.AB
namespace Go.Proofs.YtbbdginipiljdaaGreatDoor
set_option maxRecDepth 10000
open Go Go.RowKit Go.AB
open Go.AB.Enc (cells)
open Go.PB (aw ai PlaceD bc bf bd bp aq af ci bi c4 c7)
theorem ufy {p : af} {n : Int} (h : ef p n = 0) : d7 p ∧ pgC p n = .elem (ke p) := ⟨(lh (qi h).1).1, s7 h⟩
theorem pg {p : af} (h : cg p = 0) : d7 p ∧ jp p = .elem (ke p) := ⟨(lh h).1, vq h⟩
theorem s9 (n : Nat) (p : af) (c : C) (e : Int) (h : e = 0 → d7 p ∧ c = .elem (ke p)) (hE : fg p e = 0) : er n eo Tryz.prog 41 [c, .v (.int .i64 e)] (.tup [val (ge p (co p) (c6 p)), .v (.int .i64 0)]) := by
 have := ucf n p c e h
 rwa [hE, decide_eq_true rfl, cond_true] at this
theorem ta (n : Nat) (p : af) (c : C) (e : Int) (h : e = 0 → d7 p ∧ c = .elem (ke p)) (hE : fg p e ≠ 0) : er n eo Tryz.prog 41 [c, .v (.int .i64 e)] (.tup [.agg [.list [] .nil, .list [] .nil, .list [] .nil], .v (.int .i64 (fg p e))]) := by
 have := ucf n p c e h
 rwa [decide_eq_false hE, cond_false] at this
theorem ujw (n : Nat) (p : af) (m : Int) : er n eo Tryz.prog 11 [val p, .v (.int .i64 m)] (.tup [val (pq p m), .v (.int .i64 (fg p (ef p m)))]) := fun G nx hF hnx => by
 refine g7 (G) (nx) Tryz.func11 rfl (.tup (cb (ec _ _) (cb .v da))) zN (fun hlt => zH) ?_
 simp only [Tryz.ntmps11, List.length_cons, List.length_nil, Nat.reduceAdd, Nat.reduceSub]
 refine bv fun hlt => ?_
 dsimp only at hlt
 refine yS fun _ K1 => ?_
 refine yR ?_
 try dsimp only [St.put]
 refine yB rfl rfl rfl ?_
 try dsimp only [St.put]
 refine ae rfl (dn rfl ?_)
 refine yA rfl rfl ?_
 refine yN ?_
 dsimp only [St.put]
 refine K1 _ ?_
 refine yS fun _ K2 => ?_
 by_cases hL : fg p (ef p m) = 0
 ·refine yR ?_
  refine yE rfl rfl rfl ?_
  refine yM rfl rfl ?_
  try dsimp only [St.put]
  refine ae rfl (dw rfl rfl rfl (qu n p m) zG (by dsimp only [St.put]; omega) ?_)
  refine yX rfl rfl rfl rfl ?_
  refine yX rfl rfl rfl rfl ?_
  try dsimp only [St.put]
  refine ae rfl (dw rfl rfl rfl (s9 n p (pgC p m) (ef p m) ufy hL) zG (by dsimp only [St.put]; omega) ?_)
  refine yM rfl rfl ?_
  refine yX rfl rfl rfl rfl ?_
  refine yX rfl rfl rfl rfl ?_
  try dsimp only [St.put]
  refine ae rfl (dn rfl ?_)
  try dsimp only [St.put]
  refine ae rfl (c5 rfl rfl rfl zG rfl rfl (by rfl) ?_)
  refine yA rfl rfl ?_
  refine yN ?_
  dsimp only [St.put]
  refine K2 _ ?_
  refine yS fun _ K3 => ?_
  refine yS fun _ K4 => ?_
  refine yR ?_
  refine yM rfl rfl ?_
  refine aa rfl (fe rfl rfl rfl) ?_
  refine yN ?_
  dsimp only [St.put]
  refine K4 _ ?_
  refine am rfl (fun hc => ?_) (fun hc => ?_)
  ·exact absurd hc (by decide)
  obtain ⟨h0, hTB⟩ := tw hL
  obtain ⟨hc0, j, x, rfl, hx, hpo⟩ := qi h0
  obtain ⟨hok, _⟩ := lh hc0
  have hV : pq p (j : Int) = ⟨0, (bk p).alone (co p) (c6 p) j⟩ := by unfold pq; rw [hL, nh, Int.toNat_natCast]
  refine av ?_
  refine K3 _ ?_
  refine yS fun _ K5 => ?_
  refine yR ?_
  try dsimp only [St.put]
  refine bz rfl (iu rfl rfl zG trivial (by rfl)) ?_
  refine yM rfl rfl ?_
  try dsimp only [St.put]
  refine ae rfl (ax rfl rfl rfl (uch p (co p) (c6 p) j x hok hx) ?_)
  refine aa rfl (ib rfl rfl) ?_
  try dsimp only [St.put]
  refine ae rfl (c5 rfl rfl rfl zG rfl rfl (by rfl) ?_)
  refine yA rfl rfl ?_
  refine yN ?_
  dsimp only [St.put]
  refine K5 _ ?_
  refine ar ?_
  refine gz rfl (jx rfl zG (by rfl) zC rfl) (dz (by constructor)) zN zS ?_ ?_
  ·rw [hV]; exact zW
  rw [hL]; exact zW
 refine yR ?_
 refine yE rfl rfl rfl ?_
 refine yM rfl rfl ?_
 try dsimp only [St.put]
 refine ae rfl (dw rfl rfl rfl (qu n p m) zG (by dsimp only [St.put]; omega) ?_)
 refine yX rfl rfl rfl rfl ?_
 refine yX rfl rfl rfl rfl ?_
 try dsimp only [St.put]
 refine ae rfl (dw rfl rfl rfl (ta n p (pgC p m) (ef p m) ufy hL) zG (by dsimp only [St.put]; omega) ?_)
 refine yM rfl rfl ?_
 refine yX rfl rfl rfl rfl ?_
 refine yX rfl rfl rfl rfl ?_
 try dsimp only [St.put]
 refine ae rfl (dn rfl ?_)
 try dsimp only [St.put]
 refine ae rfl (c5 rfl rfl rfl zG rfl rfl (by rfl) ?_)
 refine yA rfl rfl ?_
 refine yN ?_
 dsimp only [St.put]
 refine K2 _ ?_
 refine yS fun _ K6 => ?_
 refine yS fun _ K7 => ?_
 refine yR ?_
 refine yM rfl rfl ?_
 refine aa rfl (fe rfl rfl rfl) ?_
 refine yN ?_
 dsimp only [St.put]
 refine K7 _ ?_
 refine am rfl (fun hc => ?_) (fun hc => ?_)
 ·have hV : pq p m = ⟨0, 0⟩ := by unfold pq; rw [lj hL]
  refine yS fun _ K8 => ?_
  refine yR ?_
  refine aa rfl (ib rfl rfl) ?_
  refine yM rfl rfl ?_
  try dsimp only [St.put]
  refine ae rfl (c5 rfl rfl rfl zG rfl rfl (by rfl) ?_)
  refine yA rfl rfl ?_
  refine yN ?_
  dsimp only [St.put]
  refine K8 _ ?_
  refine ar ?_
  refine gz rfl (jx rfl zG (by rfl) zC rfl) (dz (by constructor)) zN zS ?_ ?_
  ·rw [hV]; exact zW
  exact zW
 exact absurd (g4 hc) hL
theorem yj (n : Nat) (p : af) : er n eo Tryz.prog 13 [val p] (.tup [val (ow p), .v (.int .i64 (fg p (cg p)))]) := fun G nx hF hnx => by
 refine g7 (G) (nx) Tryz.func13 rfl (.tup (cb (ec _ _) (cb .v da))) zN (fun hlt => zH) ?_
 simp only [Tryz.ntmps13, List.length_cons, List.length_nil, Nat.reduceAdd, Nat.reduceSub]
 refine bv fun hlt => ?_
 dsimp only at hlt
 refine yS fun _ K1 => ?_
 refine yR ?_
 try dsimp only [St.put]
 refine yB rfl rfl rfl ?_
 try dsimp only [St.put]
 refine ae rfl (dn rfl ?_)
 refine yA rfl rfl ?_
 refine yN ?_
 dsimp only [St.put]
 refine K1 _ ?_
 refine yS fun _ K2 => ?_
 by_cases hL : fg p (cg p) = 0
 ·refine yR ?_
  refine yE rfl rfl rfl ?_
  try dsimp only [St.put]
  refine ae rfl (dw rfl rfl rfl (n1 n p) zG (by dsimp only [St.put]; omega) ?_)
  refine yX rfl rfl rfl rfl ?_
  refine yX rfl rfl rfl rfl ?_
  try dsimp only [St.put]
  refine ae rfl (dw rfl rfl rfl (s9 n p (jp p) (cg p) pg hL) zG (by dsimp only [St.put]; omega) ?_)
  refine yM rfl rfl ?_
  refine yX rfl rfl rfl rfl ?_
  refine yX rfl rfl rfl rfl ?_
  try dsimp only [St.put]
  refine ae rfl (dn rfl ?_)
  try dsimp only [St.put]
  refine ae rfl (c5 rfl rfl rfl zG rfl rfl (by rfl) ?_)
  refine yA rfl rfl ?_
  refine yN ?_
  dsimp only [St.put]
  refine K2 _ ?_
  refine yS fun _ K3 => ?_
  refine yS fun _ K4 => ?_
  refine yR ?_
  refine yM rfl rfl ?_
  refine aa rfl (fe rfl rfl rfl) ?_
  refine yN ?_
  dsimp only [St.put]
  refine K4 _ ?_
  refine am rfl (fun hc => ?_) (fun hc => ?_)
  ·exact absurd hc (by decide)
  obtain ⟨h0, hTB⟩ := tw hL
  obtain ⟨hok, _⟩ := lh h0
  have hV : ow p = ⟨0, (bk p).most (co p) (c6 p)⟩ := by unfold ow; rw [hL, nh]; rfl
  refine av ?_
  refine K3 _ ?_
  refine yS fun _ K5 => ?_
  refine yR ?_
  try dsimp only [St.put]
  refine bz rfl (iu rfl rfl zG trivial (by rfl)) ?_
  try dsimp only [St.put]
  refine ae rfl (ax rfl rfl rfl (td p (co p) (c6 p) hok (uk hok)) ?_)
  refine aa rfl (ib rfl rfl) ?_
  try dsimp only [St.put]
  refine ae rfl (c5 rfl rfl rfl zG rfl rfl (by rfl) ?_)
  refine yA rfl rfl ?_
  refine yN ?_
  dsimp only [St.put]
  refine K5 _ ?_
  refine ar ?_
  refine gz rfl (jx rfl zG (by rfl) zC rfl) (dz (by constructor)) zN zS ?_ ?_
  ·rw [hV]; exact zW
  rw [hL]; exact zW
 refine yR ?_
 refine yE rfl rfl rfl ?_
 try dsimp only [St.put]
 refine ae rfl (dw rfl rfl rfl (n1 n p) zG (by dsimp only [St.put]; omega) ?_)
 refine yX rfl rfl rfl rfl ?_
 refine yX rfl rfl rfl rfl ?_
 try dsimp only [St.put]
 refine ae rfl (dw rfl rfl rfl (ta n p (jp p) (cg p) pg hL) zG (by dsimp only [St.put]; omega) ?_)
 refine yM rfl rfl ?_
 refine yX rfl rfl rfl rfl ?_
 refine yX rfl rfl rfl rfl ?_
 try dsimp only [St.put]
 refine ae rfl (dn rfl ?_)
 try dsimp only [St.put]
 refine ae rfl (c5 rfl rfl rfl zG rfl rfl (by rfl) ?_)
 refine yA rfl rfl ?_
 refine yN ?_
 dsimp only [St.put]
 refine K2 _ ?_
 refine yS fun _ K6 => ?_
 refine yS fun _ K7 => ?_
 refine yR ?_
 refine yM rfl rfl ?_
 refine aa rfl (fe rfl rfl rfl) ?_
 refine yN ?_
 dsimp only [St.put]
 refine K7 _ ?_
 refine am rfl (fun hc => ?_) (fun hc => ?_)
 ·have hV : ow p = ⟨0, 0⟩ := by unfold ow; rw [lj hL]
  refine yS fun _ K8 => ?_
  refine yR ?_
  refine aa rfl (ib rfl rfl) ?_
  refine yM rfl rfl ?_
  try dsimp only [St.put]
  refine ae rfl (c5 rfl rfl rfl zG rfl rfl (by rfl) ?_)
  refine yA rfl rfl ?_
  refine yN ?_
  dsimp only [St.put]
  refine K8 _ ?_
  refine ar ?_
  refine gz rfl (jx rfl zG (by rfl) zC rfl) (dz (by constructor)) zN zS ?_ ?_
  ·rw [hV]; exact zW
  exact zW
 exact absurd (g4 hc) hL
set_option maxHeartbeats 1000000 in
theorem ujp (n0 : Nat) (p : af) : er n0 eo Tryz.prog 15 [val p] (.tup [lst (pj p), .v (.int .i64 (fg p (cg p)))]) := fun G nx hF hnx => by
 refine g7 (G) (nx) Tryz.func15 rfl (.tup (cb (bu _ _) (cb .v da))) zN (fun hlt => zH) ?_
 simp only [Tryz.ntmps15, List.length_cons, List.length_nil, Nat.reduceAdd, Nat.reduceSub]
 refine bv fun hlt => ?_
 dsimp only at hlt
 refine yS fun _ K1 => ?_
 refine yR ?_
 try dsimp only [St.put]
 refine yB rfl rfl rfl ?_
 refine yA rfl rfl ?_
 refine yA rfl rfl ?_
 refine yN ?_
 dsimp only [St.put]
 refine K1 _ ?_
 refine yS fun _ K2 => ?_
 by_cases hL : fg p (cg p) = 0
 ·refine yR ?_
  refine yE rfl rfl rfl ?_
  try dsimp only [St.put]
  refine ae rfl (dw rfl rfl rfl (n1 n0 p) zG (by dsimp only [St.put]; omega) ?_)
  refine yX rfl rfl rfl rfl ?_
  refine yX rfl rfl rfl rfl ?_
  try dsimp only [St.put]
  refine ae rfl (dw rfl rfl rfl (s9 n0 p (jp p) (cg p) pg hL) zG (by dsimp only [St.put]; omega) ?_)
  refine yM rfl rfl ?_
  refine yX rfl rfl rfl rfl ?_
  refine yX rfl rfl rfl rfl ?_
  try dsimp only [St.put]
  refine ae rfl (dn rfl ?_)
  try dsimp only [St.put]
  refine ae rfl (c5 rfl rfl rfl zG rfl rfl (by rfl) ?_)
  refine yA rfl rfl ?_
  refine yN ?_
  dsimp only [St.put]
  refine K2 _ ?_
  refine yS fun _ K3 => ?_
  refine yS fun _ K4 => ?_
  refine yR ?_
  refine yM rfl rfl ?_
  refine aa rfl (fe rfl rfl rfl) ?_
  refine yN ?_
  dsimp only [St.put]
  refine K4 _ ?_
  refine am rfl (fun hc => ?_) (fun hc => ?_)
  ·exact absurd hc (by decide)
  obtain ⟨h0, hTB⟩ := tw hL
  obtain ⟨hok, _⟩ := lh h0
  have hnp := hok.np
  have hV : pj p = bg p.pages.length (jl p) := by unfold pj; rw [hL, nh]
  refine av ?_
  refine K3 _ ?_
  refine yS fun _ K5 => ?_
  refine yR ?_
  refine yA rfl rfl ?_
  refine yN ?_
  dsimp only [St.put]
  refine K5 _ ?_
  refine ng 6 3 1 rfl (by decide) ?_
  dsimp only [List.set_cons_zero, List.set_cons_succ]
  refine yS fun _ K6 => ?_
  refine yS fun _ K7 => ?_
  refine yR ?_
  refine yF rfl rfl rfl rfl ?_
  refine yL rfl rfl rfl ?_
  refine aa rfl (bh rfl rfl (List.length_map _)) ?_
  refine yM rfl rfl ?_
  refine yN ?_
  dsimp only [St.put]
  refine K7 _ ?_
  refine ba ?_
  refine cd 25 ?_
  refine zQ ?_
  refine cz ((ak (ak G nx (.box (0 + 1) (cells (ge p (rmR p 0) (rmC p 0))))) (nx + 1) (.tip (bg 0 (jl p)).length 3 1))) zX ?_
  dsimp only
  refine cy (X := Nat) (fun i => i ≤ p.pages.length) (fun i => p.pages.length - i) (fun i => [(6, .list ((bg i (jl p)).map cells) (.tip (nx + 1))), (7, .any), (8, .any), (9, .any), (24, .v (.int .i64 (i : Int)))]) (fun i G' => (ak (ak G nx (.box (i + 1) (cells (ge p (rmR p i) (rmC p i))))) (nx + 1) (.tip (bg i (jl p)).length 3 1))) 0 rfl ?_ ?_ ?_ ?_ ?_ ?_
  ·exact Nat.zero_le _
  ·exact zF
  ·exact zX
  ·rintro i hI
   exact zL
  ·rintro i hI
   exact zH
  rintro i hI
  dsimp only at hI ⊢
  refine yS fun _ K8 => ?_
  refine yR ?_
  refine aa rfl (cc rfl rfl rfl) ?_
  refine yN ?_
  dsimp only [St.put]
  refine K8 _ ?_
  refine yS fun _ K9 => ?_
  refine am rfl (fun hc => ?_) (fun hc => ?_)
  ·replace hc := of_decide_eq_true hc
   have hi : i < p.pages.length := by omega
   obtain ⟨x, hx⟩ : ∃ x, p.pages[i]? = some x := dc hi
   have hB := ubv hok hTB (Nat.le_of_lt hi)
   have hP := uaq hok hTB hi
   have hab := uob hB i
   have hmb := uc7 hB
   have hln := gq i (jl p)
   have hPn := hP.nn
   refine av ?_
   refine K9 _ ?_
   refine yS fun _ K10 => ?_
   refine ba ?_
   refine yS fun _ K11 => ?_
   refine yR ?_
   refine yM rfl rfl ?_
   refine yA rfl rfl ?_
   refine yN ?_
   dsimp only [St.put]
   refine K11 _ ?_
   refine yS fun _ K12 => ?_
   refine gw [(0, none), (2, none), (3, none), (1, none), (4, none), (5, none), (6, none)] (fun i => [4].contains i) (fun i => [1, 4].contains i) (fun i => [3, 5, 6].contains i) [nx] (by kernel_rfl) (by kernel_rfl) ?_
   try dsimp only [St.put]
   refine ay rfl rfl rfl rfl (iu rfl rfl zG (by simp) (by rfl)) ?_
   try dsimp only [St.put]
   refine ay rfl rfl rfl rfl (iu rfl rfl zG (by simp) (by rfl)) ?_
   refine xM rfl rfl rfl rfl rfl ?_
   refine jj ?_
   try dsimp only [St.put]
   refine j7 rfl rfl rfl (ax rfl rfl rfl (td p _ _ hok hB) ⟨zD, ?_⟩)
   try dsimp only [St.put]
   refine gx rfl rfl rfl rfl (ax rfl rfl rfl (uch p (rmR p i) (rmC p i) i x hok hx) ?_)
   refine cv rfl rfl rfl rfl (fh rfl (by constructor)) ?_
   refine cv rfl rfl rfl rfl (fh rfl (by constructor)) ?_
   refine jc ?_
   dsimp only [St.put]
   refine K12 _ ?_
   refine yS fun _ K13 => ?_
   refine ba ?_
   refine cd 25 ?_
   refine zQ ?_
   refine cy (X := Int) (fun n => FromTop p (rmR p i) (rmC p i) i n) (fun n => n.toNat) (fun n => [(9, .v (.int .i64 n))]) (fun n G' => G') ((bk p).alone (rmR p i) (rmC p i) i) rfl ?_ ?_ (fun _ _ h => h) ?_ ?_ ?_
   ·exact FromTop.start hP
   ·exact zF
   ·rintro n hI
    exact zL
   ·exact fun _ _ _ _ h => .inl h
   rintro n hF2
   dsimp only at hF2 ⊢
   have hF1 := hF2.1
   have hF3 := hF2.2.1
   have hBl := uag hB (by omega) hF2.2.1
   have hmb2 := uc7 hBl
   refine yS fun _ K14 => ?_
   refine yS fun _ K15 => ?_
   refine yR ?_
   refine yM rfl rfl ?_
   try dsimp only [St.put]
   refine bz rfl (iu rfl rfl zG trivial (by rfl)) ?_
   refine yM rfl rfl ?_
   refine yM rfl rfl ?_
   try dsimp only [St.put]
   refine ae rfl (ax rfl rfl rfl (yh p (rmR p i) (rmC p i) i x n hok hx (by have := hF2.1; have := hF2.2.1; omega) hB.r) ?_)
   try dsimp only [St.put]
   refine ae rfl (ax rfl rfl rfl (td p _ _ hok (uag hB (by have := hF2.1; omega) hF2.2.1)) ?_)
   refine aa rfl (br rfl rfl rfl (by omega)) ?_
   refine yM rfl rfl ?_
   refine aa rfl (cc rfl rfl rfl) ?_
   refine yN ?_
   dsimp only [St.put]
   refine K15 _ ?_
   refine am rfl (fun hc => ?_) (fun hc => ?_)
   ·replace hc := of_decide_eq_true hc
    have hnot : ¬ (bk p).most (rmR p i) (rmC p i) ≤ n + (bk p).most ((bk p).lessR (rmR p i) i n) (eh (rmC p i) i) := by omega
    refine av ?_
    refine K14 _ ?_
    refine ba ?_
    refine yR ?_
    refine yM rfl rfl ?_
    refine aa rfl (gj rfl rfl rfl (by omega)) ?_
    refine yA rfl rfl ?_
    refine yN ?_
    dsimp only [St.put]
    have hd := FromTop.down hP hF2 hnot
    have hd1 := hd.1
    exact ⟨n - 1, by omega, hd, ⟨⟨rfl, rfl⟩, zF, zB, zN, zX⟩⟩
   replace hc := of_decide_eq_false hc
   have hnw := FromTop.stop hP hF2 (by omega)
   rw [← uar] at hnw
   subst hnw
   refine ct ?_
   refine K13 _ ?_
   refine yS fun _ K16 => ?_
   refine yR ?_
   try dsimp only [St.put]
   refine bz rfl (iu rfl rfl zG trivial (by rfl)) ?_
   refine yM rfl rfl ?_
   refine yM rfl rfl ?_
   try dsimp only [St.put]
   refine ae rfl (ax rfl rfl rfl (yh p (rmR p i) (rmC p i) i x (jl p i) hok hx (by have := hF2.1; have := hF2.2.1; omega) hB.r) ?_)
   try dsimp only [St.put]
   refine ae rfl (c5 rfl rfl rfl zG rfl rfl (by rfl) ?_)
   refine yN ?_
   dsimp only [St.put]
   refine K16 _ ?_
   refine yR ?_
   refine yM rfl rfl ?_
   refine yM rfl rfl ?_
   try dsimp only [St.put]
   refine ae rfl (di rfl rfl rfl (by decide) (by decide) zR (by decide) ?_)
   try dsimp only [St.put]
   refine ae rfl (ja ([jl p i]) rfl rfl zG zE rfl rfl zA ?_ zA)
   refine yA rfl rfl ?_
   refine yN ?_
   dsimp only [St.put]
   refine K10 _ ?_
   refine yR ?_
   refine aa rfl (br rfl rfl rfl (by omega)) ?_
   refine yM rfl rfl ?_
   refine yN ?_
   dsimp only [St.put]
   have e := pk i (jl p)
   rw [← e]
   exact ⟨i + 1, by omega, by omega, ⟨⟨rfl, rfl⟩, zF, zB, zN, zX⟩⟩
  replace hc := of_decide_eq_false hc
  obtain rfl : i = p.pages.length := by omega
  refine ct ?_
  refine K6 _ ?_
  refine yS fun _ K17 => ?_
  refine yR ?_
  refine yM rfl rfl ?_
  refine yA rfl rfl ?_
  refine yA rfl rfl ?_
  refine yN ?_
  dsimp only [St.put]
  refine K17 _ ?_
  refine ar ?_
  refine gz rfl (dz (by constructor)) (dz (by constructor)) zN zS ?_ ?_
  ·rw [hV]; exact zW
  rw [hL]; exact zW
 refine yR ?_
 refine yE rfl rfl rfl ?_
 try dsimp only [St.put]
 refine ae rfl (dw rfl rfl rfl (n1 n0 p) zG (by dsimp only [St.put]; omega) ?_)
 refine yX rfl rfl rfl rfl ?_
 refine yX rfl rfl rfl rfl ?_
 try dsimp only [St.put]
 refine ae rfl (dw rfl rfl rfl (ta n0 p (jp p) (cg p) pg hL) zG (by dsimp only [St.put]; omega) ?_)
 refine yM rfl rfl ?_
 refine yX rfl rfl rfl rfl ?_
 refine yX rfl rfl rfl rfl ?_
 try dsimp only [St.put]
 refine ae rfl (dn rfl ?_)
 try dsimp only [St.put]
 refine ae rfl (c5 rfl rfl rfl zG rfl rfl (by rfl) ?_)
 refine yA rfl rfl ?_
 refine yN ?_
 dsimp only [St.put]
 refine K2 _ ?_
 refine yS fun _ K18 => ?_
 refine yS fun _ K19 => ?_
 refine yR ?_
 refine yM rfl rfl ?_
 refine aa rfl (fe rfl rfl rfl) ?_
 refine yN ?_
 dsimp only [St.put]
 refine K19 _ ?_
 refine am rfl (fun hc => ?_) (fun hc => ?_)
 ·have hV : pj p = [] := by unfold pj; rw [lj hL]
  refine yS fun _ K20 => ?_
  refine yR ?_
  refine yM rfl rfl ?_
  refine yA rfl rfl ?_
  refine yA rfl rfl ?_
  refine yN ?_
  dsimp only [St.put]
  refine K20 _ ?_
  refine ar ?_
  refine gz rfl (dz (by constructor)) (dz (by constructor)) zN zS ?_ ?_
  ·rw [hV]; exact zW
  exact zW
 exact absurd (g4 hc) hL
end Go.Proofs.YtbbdginipiljdaaGreatDoor
namespace Go.Proofs.YtbbdginipiljdaaGreatDoor
set_option maxRecDepth 10000
open Go Go.RowKit Go.AB
open Go.AB.Enc (cells)
open Go.PB (aw ai PlaceD bc bf bd bp aq af ci bi c4 c7)
set_option maxHeartbeats 1000000 in
theorem uih (nF : Nat) (n : Nat) (hb : n ≤ 8) : xg nF eo Tryz.prog 89 [.elem [.v (.int .i64 (n : Int))]] (2 ^ n) (fun s => [.v (.int .i64 (s : Int)), lst (dv n s)]) := by
 refine ud0 Tryz.func89 rfl rfl fun I hN hcl ok hG hn => ?_
 simp only [Tryz.ntmps89, List.length_cons, List.length_nil, Nat.reduceAdd, Nat.reduceSub]
 have h256 : 2 ^ n ≤ 2 ^ 8 := Nat.pow_le_pow_right (by omega) hb
 refine km 2 ?_
 refine zQ ?_
 refine o9 ?_
 dsimp only [FC.st]
 refine bv fun hlt => ?_
 dsimp only at hlt
 refine iw ?_
 try dsimp only [St.put]
 first | refine bz rfl (ca rfl rfl) ?_ | refine bz rfl (ep rfl rfl (Enc.len _)) ?_ | refine bz rfl (ep rfl rfl rfl) ?_ | refine bz rfl (fk rfl rfl zG trivial (by first | rfl | assumption)) ?_ | refine bz rfl (iu rfl rfl zG trivial (by rfl)) ?_ | refine bz rfl (pp rfl rfl zG trivial (by simp)) ?_ | refine bz rfl (ky rfl rfl zG trivial (qc (by assumption) rfl)) ?_ | refine bz rfl (ky rfl rfl zG trivial (by assumption)) ?_ | refine bz rfl (qr rfl rfl zG trivial rfl (by assumption) rfl (by decide)) ?_ | refine bz rfl (mu rfl rfl zG (by rfl)) ?_
 refine aa rfl (uc1 (n := n) rfl rfl rfl (by omega)) ?_
 refine aa rfl (et rfl (by constructor)) ?_
 refine ix ?_
 dsimp only [St.put]
 show jz _ _ _ _ _ _ _
 refine pa ok rfl ⟨rfl, rfl, zK, zN, zS, zK⟩ ?_
 refine rj ?_
 refine km 9 ?_
 refine zQ ?_
 refine zk (X := Nat) (fun s => s ≤ 2 ^ n) (fun s => 2 ^ n - s) (fun s => [(3, .any), (4, .any), (5, .any), (8, .v (.int .i64 (s : Int)))]) (fun s => s) 0 rfl ?_ ?_ ?_ ?_ ?_
 ·exact Nat.zero_le _
 ·exact zF
 ·rfl
 ·rintro s hI
  exact zL
 ·rintro s hI
  dsimp only at hI ⊢
  refine km 9 ?_
  refine zQ ?_
  refine o9 ?_
  dsimp only [FC.st]
  refine bv fun hlt => ?_
  dsimp only at hlt
  refine iw ?_
  refine aa rfl (cc rfl rfl rfl) ?_
  refine ix ?_
  dsimp only [St.put]
  show jz _ _ _ _ _ _ _
  refine pa ok rfl ⟨rfl, rfl, zK, zN, zS, zK⟩ ?_
  refine o8 fun K1 hK1 => ?_
  refine uc rfl (fun hc => ?_) (fun hc => ?_)
  ·replace hc := of_decide_eq_true hc
   have hs : s < 2 ^ n := by omega
   refine ub ?_
   refine hK1 _ _ ?_
   refine o8 fun K2 hK2 => ?_
   refine rj ?_
   refine km 9 ?_
   refine zQ ?_
   refine o9 ?_
   dsimp only [FC.st]
   refine bv fun hlt => ?_
   dsimp only at hlt
   refine iw ?_
   refine aa rfl (et rfl (by constructor)) ?_
   refine aa rfl (fh rfl (by constructor)) ?_
   refine ix ?_
   dsimp only [St.put]
   show jz _ _ _ _ _ _ _
   refine wu ?_
   refine iw ?_
   refine aa rfl (fh rfl (by constructor)) ?_
   refine ix ?_
   dsimp only [St.put]
   show jz _ _ _ _ _ _ _
   refine wu ?_
   refine ng 4 3 1 rfl (by decide) ?_
   dsimp only [List.set_cons_zero, List.set_cons_succ]
   refine qh fun K3 hK3 => ?_
   refine iw ?_
   try dsimp only [St.put]
   first | refine bz rfl (ca rfl rfl) ?_ | refine bz rfl (ep rfl rfl (Enc.len _)) ?_ | refine bz rfl (ep rfl rfl rfl) ?_ | refine bz rfl (fk rfl rfl zG trivial (by first | rfl | assumption)) ?_ | refine bz rfl (iu rfl rfl zG trivial (by rfl)) ?_ | refine bz rfl (pp rfl rfl zG trivial (by simp)) ?_ | refine bz rfl (ky rfl rfl zG trivial (qc (by assumption) rfl)) ?_ | refine bz rfl (ky rfl rfl zG trivial (by assumption)) ?_ | refine bz rfl (qr rfl rfl zG trivial rfl (by assumption) rfl (by decide)) ?_ | refine bz rfl (mu rfl rfl zG (by rfl)) ?_
   refine aa rfl (et rfl (by constructor)) ?_
   refine ix ?_
   dsimp only [St.put]
   refine hK3 _ ?_
   refine ba ?_
   refine cd 13 ?_
   refine zQ ?_
   refine cz ((ak (I.G s) I.nx (.tip (dv 0 s).length 3 1))) zX ?_
   dsimp only
   refine cy (X := Nat) (fun k => k ≤ n) (fun k => n - k) (fun k => [(4, .list ((dv k s).map cells) (.tip I.nx)), (5, .any), (12, .v (.int .i64 (k : Int)))]) (fun k G' => (ak (I.G s) I.nx (.tip (dv k s).length 3 1))) 0 rfl ?_ ?_ ?_ ?_ ?_ ?_
   ·exact Nat.zero_le _
   ·exact zF
   ·exact zX
   ·rintro k hI
    exact zL
   ·rintro k hI
    exact zH
   ·rintro k hK
    dsimp only at hK ⊢
    refine qh fun K4 hK4 => ?_
    refine iw ?_
    refine aa rfl (cc rfl rfl rfl) ?_
    refine ix ?_
    dsimp only [St.put]
    refine hK4 _ ?_
    refine qh fun K5 hK5 => ?_
    refine am rfl (fun hc => ?_) (fun hc => ?_)
    ·replace hc := of_decide_eq_true hc
     have hml := py k s
     refine av ?_
     refine hK5 _ ?_
     refine qh fun K6 hK6 => ?_
     refine ba ?_
     refine qh fun K7 hK7 => ?_
     refine iw ?_
     refine aa rfl (et rfl (by constructor)) ?_
     refine aa rfl (fh rfl (by constructor)) ?_
     refine ix ?_
     dsimp only [St.put]
     refine hK7 _ ?_
     refine qh fun K8 hK8 => ?_
     refine iw ?_
     refine aa rfl (et rfl (by constructor)) ?_
     refine aa rfl (et rfl (by constructor)) ?_
     refine aa rfl (ti (m := s) (n := k) rfl rfl rfl (by show k ≤ 64; omega) (by show (s : Int) ≤ 9223372036854775807; omega) (by decide)) ?_
     refine aa rfl (tn (m := s / 2 ^ k) rfl rfl rfl (Nat.lt_of_le_of_lt (Nat.div_le_self _ _) (by show s < 2 ^ 64; omega)) (by decide)) ?_
     refine aa rfl (ff rfl rfl rfl) ?_
     refine ix ?_
     dsimp only [St.put]
     refine hK8 _ ?_
     refine am rfl (fun hc => ?_) (fun hc => ?_)
     ·have hb1 : s.testBit k = true := bit_eq.1 (of_decide_eq_true hc)
      refine iw ?_
      refine aa rfl (et rfl (by constructor)) ?_
      refine aa rfl (et rfl (by constructor)) ?_
      try dsimp only [St.put]
      refine ae rfl (di rfl rfl rfl (by decide) (by decide) zR (by decide) ?_)
      try dsimp only [St.put]
      refine ae rfl (ja ([(k : Int)]) rfl rfl zG zE rfl rfl zA ?_ zA)
      refine aa rfl (fh rfl (by constructor)) ?_
      refine ix ?_
      dsimp only [St.put]
      refine hK6 _ ?_
      refine iw ?_
      first | refine aa rfl (br rfl rfl rfl (by omega)) ?_ | refine aa rfl (tp rfl rfl rfl) ?_
      refine aa rfl (et rfl (by constructor)) ?_
      refine ix ?_
      dsimp only [St.put]
      have e := vz k s
      first
      | (have q : s.testBit k = true := hb1
         rw [q, cond_true] at e
         rw [← e]
         exact ⟨k + 1, by omega, by omega, ⟨⟨rfl, rfl⟩, zF, zB, zN, zX⟩⟩)
      | (have q : s.testBit k = false := hb0
         rw [q, cond_false, List.append_nil] at e
         rw [← e]
         exact ⟨k + 1, by omega, by omega, ⟨⟨rfl, rfl⟩, zF, zB, zN, zX⟩⟩)
     ·have hb0 : s.testBit k = false := by
       have := of_decide_eq_false hc
       rw [bit_eq, Bool.not_eq_true] at this
       exact this
      refine av ?_
      refine hK6 _ ?_
      refine iw ?_
      first | refine aa rfl (br rfl rfl rfl (by omega)) ?_ | refine aa rfl (tp rfl rfl rfl) ?_
      refine aa rfl (et rfl (by constructor)) ?_
      refine ix ?_
      dsimp only [St.put]
      have e := vz k s
      first
      | (have q : s.testBit k = true := hb1
         rw [q, cond_true] at e
         rw [← e]
         exact ⟨k + 1, by omega, by omega, ⟨⟨rfl, rfl⟩, zF, zB, zN, zX⟩⟩)
      | (have q : s.testBit k = false := hb0
         rw [q, cond_false, List.append_nil] at e
         rw [← e]
         exact ⟨k + 1, by omega, by omega, ⟨⟨rfl, rfl⟩, zF, zB, zN, zX⟩⟩)
    ·replace hc := of_decide_eq_false hc
     obtain rfl : k = n := by omega
     refine ru 4 (lst (dv k s)) rfl Wk.tok ?_
     refine ct ?_
     show jz _ _ _ _ _ _ _
     refine pa ok rfl ⟨rfl, rfl, zK, zN, zS, zK⟩ ?_
     refine o8 fun K9 hK9 => ?_
     refine ud9 ?_
     refine qb rfl (et rfl (by constructor)) ?_
     refine qb rfl (et rfl (by constructor)) ?_
     refine qb rfl (et rfl (by constructor)) ?_
     try dsimp only [St.put]
     refine uec ok (by rw [hN]; exact hs) rfl rfl rfl rfl (by rw [hcl]; rfl) ?_
     refine qb rfl (dq rfl rfl) ?_
     refine ued ?_
     dsimp only [St.put]
     refine hK9 _ _ ?_
     refine uc rfl (fun h => by cases h) (fun _ => ?_)
     refine ub ?_
     refine hK2 _ _ ?_
     refine km 9 ?_
     refine zQ ?_
     refine zj ok rfl ?_
     dsimp only [FC.st]
     refine bv fun hlt => ?_
     dsimp only at hlt
     refine iw ?_
     first | refine aa rfl (br rfl rfl rfl (by omega)) ?_ | refine aa rfl (tp rfl rfl rfl) ?_
     refine aa rfl (et rfl (by constructor)) ?_
     refine ix ?_
     dsimp only [St.put]
     refine ⟨⟨rfl, rfl, zK, zN, zS, zK⟩, ?_⟩
     exact ⟨s + 1, by omega, by omega, rfl, ⟨⟨rfl, rfl⟩, zF, zB, zN, zX⟩⟩
  ·replace hc := of_decide_eq_false hc
   obtain rfl : s = 2 ^ n := by omega
   refine zl ?_
   exact ⟨.inl rfl, rfl⟩
end Go.Proofs.YtbbdginipiljdaaGreatDoor
namespace Go.AB
open Go Go.RowKit
open Go.AB.Enc (cells)
open Go.PB (aw ai PlaceD bc bf bd bp aq af ci bi c4 c7)
theorem unz {so : Nat → Bool} {n k : Nat} : ((fa so n k).getD []).length ≤ n := by
 rcases ui so n k with ⟨h, _⟩ | ⟨b, h, k⟩
 ·rw [h]; exact Nat.zero_le _
 rw [h]
 obtain ⟨s, _, _, rfl⟩ := k.get
 exact py n s
theorem unx {so : Nat → Bool} {n k : Nat} (h : so k = false) : fa so n (k + 1) = fa so n k := by
 cases hb : fa so n k with
 | none => rw [ufp hb, h]; rfl
 | some b => rw [uac hb, h]; rfl
theorem un0 {so : Nat → Bool} {n k : Nat} (hb : fa so n k = none) (h : so k = true) : fa so n (k + 1) = some (dv n k) := by rw [ufp hb, h]; rfl
theorem uny {so : Nat → Bool} {n k : Nat} {b : List Int} (hb : fa so n k = some b) (h : so k = true) : fa so n (k + 1) = bif gk (dv n k) b then some (dv n k) else some b := by rw [uac hb, h]; rfl
theorem ua0 {α : Type} {l : List α} {k : Nat} {x : α} (h : l[k]? = some x) : l.take (k + 1) = l.take k ++ [x] := by rw [List.take_add_one, h]; rfl
theorem ug4 (p : af) (l : List Int) (z : Int) : je p (l ++ [z]) = je p l ++ bif decide (z < (p.firsts.length : Int)) then [z] else [] := by
 unfold je
 rw [List.filter_append]
 cases h : decide (z < (p.firsts.length : Int)) <;> simp [h]
theorem ug1 (p : af) (l : List Int) (z : Int) : i5 p (l ++ [z]) = i5 p l ++ bif decide (z < (p.firsts.length : Int)) then [] else [z - (p.firsts.length : Int)] := by
 unfold i5
 rw [List.filter_append, List.map_append]
 cases h : decide (z < (p.firsts.length : Int)) <;> simp [h]
theorem uax (p : af) (l : List Int) : (je p l).length ≤ l.length := List.length_filter_le _ _
theorem uaw (p : af) (l : List Int) : (i5 p l).length ≤ l.length := by
 unfold i5
 rw [List.length_map]
 exact List.length_filter_le _ _
theorem ug3 {p : af} {z : Int} (h : z ∈ eg p) : 0 ≤ z ∧ z < (bj p : Int) := by
 unfold eg l3 at h
 rcases ui (nl p) (bj p) (2 ^ bj p) with ⟨q, _⟩ | ⟨b, q, k⟩
 ·rw [q] at h; cases h
 rw [q] at h
 obtain ⟨s, _, _, rfl⟩ := k.get
 obtain ⟨i, rfl, hi, _⟩ := membersL_mem.1 h
 omega
end Go.AB
namespace Go.Proofs.YtbbdginipiljdaaGreatDoor
set_option maxRecDepth 10000
open Go.RowKit Go.AB
open Go.AB.Enc (cells)
open Go.PB (aw ai PlaceD bc bf bd bp aq af ci bi c4 c7)
end Go.Proofs.YtbbdginipiljdaaGreatDoor
namespace Go.AB
open Go Go.RowKit
open Go.AB.Enc (cells)
open Go.PB (aw ai PlaceD bc bf bd bp aq af ci bi c4 c7)
theorem unw {so : Nat → Bool} {n k : Nat} {b : List Int} (hb : fa so n k = some b) (h : gk (dv n k) b = false) : fa so n (k + 1) = some b := by rw [uac hb, h, Bool.and_false]; rfl
theorem ufr {p : af} {R C : Nat → Int} (h : Bd p R C) (l : List Int) : Bd p R (i4 C l) := ⟨h.r, fun j => by
 have := h.c j
 unfold i4
 cases decide ((j : Int) ∈ l)
 ·exact this
 exact ⟨Int.le_refl _, by show (0 : Int) ≤ 1000000; omega⟩, h.nr, h.np⟩
theorem unh {p : af} {m : Int} (h : cg p ≠ 0) : i3 p m = cg p := by unfold i3; rw [decide_eq_false h]; rfl
theorem ung {p : af} {m : Int} (h : cg p = 0) (hm : m < 0) : i3 p m = 2 := by unfold i3; rw [decide_eq_true h, decide_eq_true hm]; rfl
theorem uni {p : af} {m : Int} (h : cg p = 0) (hm : ¬ m < 0) (ht : iz p = false) : i3 p m = 8 := by unfold i3; rw [decide_eq_true h, decide_eq_false hm, ht]; rfl
theorem unf {p : af} {m : Int} (h : cg p = 0) (hm : ¬ m < 0) (ht : iz p = true) : i3 p m = 0 := by unfold i3; rw [decide_eq_true h, decide_eq_false hm, ht]; rfl
end Go.AB
namespace Go.Proofs.YtbbdginipiljdaaGreatDoor
set_option maxRecDepth 10000
open Go.RowKit Go.AB
open Go.AB.Enc (cells)
open Go.PB (aw ai PlaceD bc bf bd bp aq af ci bi c4 c7)
end Go.Proofs.YtbbdginipiljdaaGreatDoor
namespace Go.AB
open Go Go.RowKit
open Go.AB.Enc (cells)
open Go.PB (aw ai PlaceD bc bf bd bp aq af ci bi c4 c7)
/-- whether a set is taken, and how often one was -/
def ku (so : Nat → Bool) (n k : Nat) : Bool := so k && match fa so n k with
 | none => true
 | some b => gk (dv n k) b
def l6 (so : Nat → Bool) (n : Nat) : Nat → Nat
 | 0 => 0
 | k + 1 => l6 so n k + (ku so n k).toNat
theorem xr {so : Nat → Bool} {n k : Nat} (h : ku so n k = true) : fa so n (k + 1) = some (dv n k) ∧ l6 so n (k + 1) = l6 so n k + 1 := by
 refine ⟨?_, by show l6 so n k + (ku so n k).toNat = _; rw [h]; rfl⟩
 unfold ku at h
 rw [Bool.and_eq_true] at h
 cases hb : fa so n k with
 | none => exact un0 hb h.1
 | some b =>
  have h2 := h.2
  rw [hb] at h2
  have h3 : gk (dv n k) b = true := h2
  rw [uny hb h.1, h3]; rfl
theorem xu {so : Nat → Bool} {n k : Nat} (h : ku so n k = false) : fa so n (k + 1) = fa so n k ∧ l6 so n (k + 1) = l6 so n k := by
 refine ⟨?_, by show l6 so n k + (ku so n k).toNat = _; rw [h]; rfl⟩
 unfold ku at h
 cases hs : so k
 ·exact unx hs
 rw [hs, Bool.true_and] at h
 cases hb : fa so n k with
 | none => rw [hb] at h; cases h
 | some b =>
  rw [hb] at h
  have h3 : gk (dv n k) b = false := h
  rw [unw hb h3]
theorem uhm {so : Nat → Bool} {n k : Nat} (h : so k = false) : ku so n k = false := by unfold ku; rw [h]; rfl
theorem uhn {so : Nat → Bool} {n k : Nat} (h : so k = true) (hb : fa so n k = none) : ku so n k = true := by unfold ku; rw [h, hb]; rfl
theorem ux {so : Nat → Bool} {n k : Nat} {b : List Int} (h : so k = true) (hb : fa so n k = some b) : ku so n k = gk (dv n k) b := by unfold ku; rw [h, hb]; rfl
end Go.AB
namespace Go.Proofs.YtbbdginipiljdaaGreatDoor
set_option maxRecDepth 10000
open Go Go.RowKit Go.AB
open Go.AB.Enc (cells)
open Go.PB (aw ai PlaceD bc bf bd bp aq af ci bi c4 c7)
theorem ubi (m : Nat) : Pure Tryz.prog 54 [.v (.int .i64 (m : Int))] (.fn (.func 89) [.elem [.v (.int .i64 (m : Int))]]) := by
 refine cr Tryz.func54 rfl (fun m => (.fn (cb (.elem (cb .v da)) da))) fun G nx => ?_
 simp only [Tryz.ntmps54, List.length_cons, List.length_nil, Nat.reduceAdd, Nat.reduceSub]
 refine bv fun hlt => ?_
 dsimp only at hlt
 refine yS fun _ K1 => ?_
 refine yR ?_
 try dsimp only [St.put]
 refine yB rfl rfl rfl ?_
 refine yA rfl rfl ?_
 refine yN ?_
 dsimp only [St.put]
 refine K1 _ ?_
 refine yS fun _ K2 => ?_
 refine yR ?_
 refine aa rfl (px rfl rfl) ?_
 refine yA rfl rfl ?_
 refine yN ?_
 dsimp only [St.put]
 refine K2 _ ?_
 refine ar ?_
 refine az rfl (by constructor) zN zS ?_
 rfl
set_option maxHeartbeats 1000000 in
theorem uek (n : Nat) (m : Nat) (so : Nat → Bool) (k0 : FuncId) (caps : List C) [Fun Tryz.prog k0] (hm : m ≤ 8) (hcl : ∀ N, ∀ c ∈ caps, C.low N c) (hso : ∀ s : Nat, s < 2 ^ m → AB.Pure Tryz.prog k0 (.v (.int .i64 (s : Int)) :: lst (dv m s) :: caps) (.v (.bool (so s)))) : er n eo Tryz.prog 53 [.fn (.func 89) [.elem [.v (.int .i64 (m : Int))]], .fn (.func k0) caps, .fn (.func 57) []] (lst (l3 so m)) := fun G nx hF hnx => by
 refine g7 (G) (nx) Tryz.func53 rfl ((bu _ _)) zN (fun hlt => zH) ?_
 simp only [Tryz.ntmps53, List.length_cons, List.length_nil, Nat.reduceAdd, Nat.reduceSub]
 refine bv fun hlt => ?_
 dsimp only at hlt
 refine yS fun _ K1 => ?_
 refine yR ?_
 try dsimp only [St.put]
 refine yB rfl rfl rfl ?_
 try dsimp only [St.put]
 refine yB rfl rfl rfl ?_
 refine yA rfl rfl ?_
 refine yN ?_
 dsimp only [St.put]
 refine K1 _ ?_
 refine yS fun _ K2 => ?_
 refine yR ?_
 try dsimp only [St.put]
 refine ae rfl (dn rfl ?_)
 refine yN ?_
 dsimp only [St.put]
 refine K2 _ ?_
 refine yS fun _ K3 => ?_
 refine yR ?_
 try dsimp only [St.put]
 refine ae rfl (dn rfl ?_)
 try dsimp only [St.put]
 refine ae rfl (c5 rfl rfl rfl zG rfl rfl (by rfl) ?_)
 refine yN ?_
 dsimp only [St.put]
 refine K3 _ ?_
 refine yS fun _ K4 => ?_
 refine yS fun _ K5 => ?_
 refine w9 nx 0 [lst ([] : List Int)] zG zW ?_
 refine yR ?_
 refine yM rfl rfl ?_
 refine yN ?_
 dsimp only [St.put]
 refine K5 _ ?_
 refine ba ?_
 refine cd 12 ?_
 refine zQ ?_
 refine cz ((ak (ak G nx (.box (l6 so m 0) [lst ((fa so m 0).getD [])])) (nx + 1) (.box (1 + l6 so m 0) [.v (.bool (fa so m 0).isSome)]))) zX ?_
 dsimp only
 refine uft [12, 13] (fun k => (ak (ak G nx (.box (l6 so m k) [lst ((fa so m k).getD [])])) (nx + 1) (.box (1 + l6 so m k) [.v (.bool (fa so m k).isSome)]))) (fun k => [(13, lst (dv m k)), (12, .v (.int .i64 (k : Int)))]) (uih n m hm) (fun k => zG) (by (try dsimp only); omega) rfl rfl (fun _ => rfl) ?_ ?_ ?_ (fun lr k hrk => ?_) ?_
 ·intro k
  rfl
 ·exact zX
 ·intro k
  exact zH
 ·have hbl := unz (so := so) (n := m) (k := k)
  have hml := py m k
  refine yS fun _ K6 => ?_
  refine yR ?_
  refine yA rfl rfl ?_
  refine yN ?_
  dsimp only [St.put]
  refine K6 _ ?_
  refine yR ?_
  refine yA rfl rfl ?_
  refine yN ?_
  dsimp only [St.put]
  show AW _ _ _ _ _
  refine ba ?_
  refine yS fun _ K7 => ?_
  refine yR ?_
  refine yL rfl rfl rfl ?_
  refine yM rfl rfl ?_
  refine yM rfl rfl ?_
  try dsimp only [St.put]
  refine ae rfl (ax rfl rfl rfl (hso k hrk) ?_)
  refine yM rfl rfl ?_
  refine ez (fun hs => ?_) (fun hs => ?_)
  ·have hw : so k = true := hs
   try dsimp only [St.put]
   refine bz rfl (fk rfl rfl zG trivial (by first | rfl | assumption)) ?_
   refine aa rfl (dq rfl rfl) ?_
   refine yM rfl rfl ?_
   refine ez (fun hs => ?_) (fun hs => ?_)
   ·have hb0 : fa so m k = none := by simpa using hs
    have htk := xr (uhn hw hb0)
    refine yK rfl ?_
    refine yK rfl ?_
    refine yK rfl ?_
    refine yK rfl ?_
    refine yK rfl ?_
    refine aa rfl (bw rfl rfl (by constructor)) ?_
    refine aa rfl (bw rfl rfl (by constructor)) ?_
    refine yN ?_
    dsimp only [St.put]
    refine K7 _ ?_
    refine am rfl (fun _ => ?_) (fun h => by cases h)
    first
    | (have hbf : gk (dv m k) b = true := (vd _ _).symm.trans hc
       have htk := xr ((ux hw hb0).trans hbf))
    | skip
    refine yR ?_
    refine yM rfl rfl ?_
    try dsimp only [St.put]
    refine ae rfl (c5 rfl rfl rfl zG rfl rfl (by rfl) ?_)
    try dsimp only [St.put]
    refine ae rfl (c5 rfl rfl rfl zG rfl rfl (by rfl) ?_)
    refine yN ?_
    dsimp only [St.put]
    dsimp only [se, uo]
    first
    | (rw [htk.1, htk.2]
       exact zX)
    | (rw [hke.1, hke.2]
       try rw [hb0]
       exact zX)
   obtain ⟨b, hb0⟩ : ∃ b, fa so m k = some b := by
     cases hb : fa so m k with
     | none => rw [hb] at hs; cases hs
     | some b => exact ⟨b, rfl⟩
   rw [hb0] at hbl
   rw [hb0]
   have hbl2 : b.length ≤ m := hbl
   refine yL rfl rfl rfl ?_
   refine yM rfl rfl ?_
   try dsimp only [St.put]
   refine bz rfl (fk rfl rfl zG trivial (by first | rfl | assumption)) ?_
   try dsimp only [St.put]
   refine ae rfl (ax rfl rfl rfl (uju (dv m k) b (by omega) (by omega)) ?_)
   refine aa rfl (cc rfl rfl rfl) ?_
   refine aa rfl (cp rfl rfl (by constructor)) ?_
   refine aa rfl (bw rfl rfl (by constructor)) ?_
   refine yN ?_
   dsimp only [St.put]
   refine K7 _ ?_
   refine am rfl (fun hc => ?_) (fun hc => ?_)
   ·first
    | (have hbf : gk (dv m k) b = true := (vd _ _).symm.trans hc
       have htk := xr ((ux hw hb0).trans hbf))
    | skip
    refine yR ?_
    refine yM rfl rfl ?_
    try dsimp only [St.put]
    refine ae rfl (c5 rfl rfl rfl zG rfl rfl (by rfl) ?_)
    try dsimp only [St.put]
    refine ae rfl (c5 rfl rfl rfl zG rfl rfl (by rfl) ?_)
    refine yN ?_
    dsimp only [St.put]
    dsimp only [se, uo]
    first
    | (rw [htk.1, htk.2]
       exact zX)
    | (rw [hke.1, hke.2]
       try rw [hb0]
       exact zX)
   first
   | (have hbf : gk (dv m k) b = false := (vd _ _).symm.trans hc
      have hke := xu ((ux hw hb0).trans hbf))
   | skip
   refine av ?_
   dsimp only [se, uo]
   first
   | (rw [htk.1, htk.2]
      exact zX)
   | (rw [hke.1, hke.2]
      try rw [hb0]
      exact zX)
  have hw : so k = false := hs
  have hke := xu (uhm (n := m) hw)
  refine yK rfl ?_
  refine yK rfl ?_
  refine yK rfl ?_
  refine yK rfl ?_
  refine yK rfl ?_
  refine yK rfl ?_
  refine yK rfl ?_
  refine yK rfl ?_
  refine yK rfl ?_
  refine aa rfl (cp rfl rfl (by constructor)) ?_
  refine yN ?_
  dsimp only [St.put]
  refine K7 _ ?_
  refine am rfl (fun h => by cases h) (fun _ => ?_)
  first
  | (have hbf : gk (dv m k) b = false := (vd _ _).symm.trans hc
     have hke := xu ((ux hw hb0).trans hbf))
  | skip
  refine av ?_
  dsimp only [se, uo]
  first
  | (rw [htk.1, htk.2]
     exact zX)
  | (rw [hke.1, hke.2]
     try rw [hb0]
     exact zX)
 dsimp only
 refine K4 _ ?_
 refine yS fun _ K8 => ?_
 refine yR ?_
 try dsimp only [St.put]
 refine bz rfl (fk rfl rfl zG trivial (by first | rfl | assumption)) ?_
 refine yA rfl rfl ?_
 refine yN ?_
 dsimp only [St.put]
 refine K8 _ ?_
 refine ar ?_
 refine az rfl (by constructor) zN zS ?_
 rfl
theorem ujs (p : af) (R C : Nat → Int) (a : Int) (s : Nat) (l : List Int) (h : d7 p) (hB : Bd p R C) (hs : s ≤ 1000) : Pure Tryz.prog 55 [.v (.int .i64 (s : Int)), lst l, .elem (cells (ge p R C)), .elem [.v (.int .i64 a)]] (.v (.bool (decide ((bk p).f R C (fun i => s.testBit i) = a)))) := by
 refine cr Tryz.func55 rfl (fun m => .v) fun G nx => ?_
 simp only [Tryz.ntmps55, List.length_cons, List.length_nil, Nat.reduceAdd, Nat.reduceSub]
 refine bv fun hlt => ?_
 dsimp only at hlt
 refine yS fun _ K1 => ?_
 refine yR ?_
 refine yA rfl rfl ?_
 refine yN ?_
 dsimp only [St.put]
 refine K1 _ ?_
 refine yS fun _ K2 => ?_
 refine gw [(0, none), (1, none), (3, none), (2, none), (4, none), (5, none)] (fun i => [].contains i) (fun i => [2].contains i) (fun i => [1, 4, 5].contains i) [] (by kernel_rfl) (by kernel_rfl) ?_
 try dsimp only [St.put]
 refine ay rfl rfl rfl rfl (ep rfl rfl (Enc.len _)) ?_
 refine xM rfl rfl rfl rfl rfl ?_
 try dsimp only [St.put]
 refine ay rfl rfl rfl rfl (ca rfl rfl) ?_
 refine jj ?_
 try dsimp only [St.put]
 refine j7 rfl rfl rfl (ax rfl rfl rfl (ucg p R C s h hB hs) ⟨zD, ?_⟩)
 refine cv rfl rfl rfl rfl (ff rfl rfl rfl) ?_
 refine cv rfl rfl rfl rfl (fh rfl (by constructor)) ?_
 refine jc ?_
 dsimp only [St.put]
 refine K2 _ ?_
 refine ar ?_
 refine az rfl (by constructor) zN zS ?_
 rfl
theorem uj2 (p : af) (m : Int) (s : Int) (l : List Int) (h : d7 p) (hl : l.length ≤ 1000) (hm : ∀ z ∈ l, 0 ≤ z ∧ z < (p.pages.length : Int)) : Pure Tryz.prog 78 [.v (.int .i64 s), lst l, .elem (cells (ge p (co p) (c6 p))), .elem [.v (.int .i64 m)]] (.v (.bool (decide (uf6 p l ≤ m)))) := by
 refine cr Tryz.func78 rfl (fun m => .v) fun G nx => ?_
 simp only [Tryz.ntmps78, List.length_cons, List.length_nil, Nat.reduceAdd, Nat.reduceSub]
 refine bv fun hlt => ?_
 dsimp only at hlt
 refine yS fun _ K1 => ?_
 refine yR ?_
 refine yA rfl rfl ?_
 refine yN ?_
 dsimp only [St.put]
 refine K1 _ ?_
 refine yS fun _ K2 => ?_
 refine yR ?_
 refine yE rfl rfl rfl ?_
 try dsimp only [St.put]
 refine ae rfl (dn rfl ?_)
 try dsimp only [St.put]
 refine ae rfl (c5 rfl rfl rfl zG rfl rfl (by rfl) ?_)
 refine yN ?_
 dsimp only [St.put]
 rw [show cells (ge p (co p) (c6 p)) = cells (ge p (co p) (i4 (c6 p) (l.take 0))) by rw [List.take_zero, xj]]
 refine K2 _ ?_
 refine yS fun _ K3 => ?_
 refine yS fun _ K4 => ?_
 refine yR ?_
 refine yM rfl rfl ?_
 refine aa rfl (bh rfl rfl (List.length_map _)) ?_
 refine yM rfl rfl ?_
 refine yN ?_
 dsimp only [St.put]
 refine K4 _ ?_
 refine ba ?_
 refine cd 14 ?_
 refine zQ ?_
 refine cz ((ak G nx (.box (0 + 1) (cells (ge p (co p) (i4 (c6 p) (l.take 0))))))) zX ?_
 dsimp only
 refine cy (X := Nat) (fun k => k ≤ l.length) (fun k => l.length - k) (fun k => [(8, .any), (9, .any), (13, .v (.int .i64 (k : Int)))]) (fun k G' => (ak G nx (.box (k + 1) (cells (ge p (co p) (i4 (c6 p) (l.take k))))))) 0 rfl ?_ ?_ ?_ ?_ ?_ ?_
 ·exact Nat.zero_le _
 ·exact zF
 ·exact zX
 ·rintro k hI
  exact zL
 ·rintro k hI
  exact zH
 rintro k hI
 dsimp only at hI ⊢
 refine yS fun _ K5 => ?_
 refine yR ?_
 refine aa rfl (cc rfl rfl rfl) ?_
 refine yN ?_
 dsimp only [St.put]
 refine K5 _ ?_
 refine yS fun _ K6 => ?_
 refine am rfl (fun hc => ?_) (fun hc => ?_)
 ·replace hc := of_decide_eq_true hc
  obtain ⟨z0, hz0⟩ : ∃ z, l[k]? = some z := dc (by omega)
  have hzb := hm z0 (fw hz0)
  obtain ⟨j, rfl⟩ : ∃ j : Nat, z0 = (j : Int) := ⟨z0.toNat, by omega⟩
  have hz := hz0
  obtain ⟨x, hx⟩ : ∃ x, p.pages[j]? = some x := dc (by omega)
  have hB := ufr (uk h) (l.take k)
  refine av ?_
  refine K6 _ ?_
  refine yS fun _ K7 => ?_
  refine ba ?_
  refine yS fun _ K8 => ?_
  refine yR ?_
  refine aa rfl (bq rfl rfl rfl rfl (bn (by assumption)) (Enc.len _)) ?_
  refine yL rfl rfl rfl ?_
  refine yA rfl rfl ?_
  refine yN ?_
  dsimp only [St.put]
  refine K8 _ ?_
  refine yR ?_
  try dsimp only [St.put]
  refine bz rfl (iu rfl rfl zG trivial (by rfl)) ?_
  refine yM rfl rfl ?_
  try dsimp only [St.put]
  refine ae rfl (ax rfl rfl rfl (yh p (co p) (i4 (c6 p) (l.take k)) j x 0 h hx (by omega) hB.r) ?_)
  try dsimp only [St.put]
  refine ae rfl (c5 rfl rfl rfl zG rfl rfl (by rfl) ?_)
  refine yN ?_
  dsimp only [St.put]
  refine K7 _ ?_
  refine yR ?_
  refine aa rfl (br rfl rfl rfl (by omega)) ?_
  refine yM rfl rfl ?_
  refine yN ?_
  dsimp only [St.put]
  rw [ulh, ← ugg, ← ua0 hz]
  exact ⟨k + 1, by omega, by omega, ⟨⟨rfl, rfl⟩, zF, zB, zN, zX⟩⟩
 replace hc := of_decide_eq_false hc
 rw [fp (show l.length ≤ k by omega)]
 refine ct ?_
 refine K3 _ ?_
 refine yS fun _ K9 => ?_
 refine gw [(0, none), (2, none), (1, none), (3, none), (4, none)] (fun i => [].contains i) (fun i => [1].contains i) (fun i => [3, 4].contains i) [nx] (by kernel_rfl) (by kernel_rfl) ?_
 try dsimp only [St.put]
 refine ay rfl rfl rfl rfl (iu rfl rfl zG (by simp) (by rfl)) ?_
 try dsimp only [St.put]
 refine ay rfl rfl rfl rfl (ca rfl rfl) ?_
 refine jj ?_
 try dsimp only [St.put]
 refine j7 rfl rfl rfl (ax rfl rfl rfl (td p (co p) (i4 (c6 p) l) h (ufr (uk h) l)) ⟨zD, ?_⟩)
 refine cv rfl rfl rfl rfl (tj rfl rfl rfl) ?_
 refine cv rfl rfl rfl rfl (fh rfl (by constructor)) ?_
 refine jc ?_
 dsimp only [St.put]
 refine K9 _ ?_
 refine ar ?_
 refine az rfl (by constructor) zN zS ?_
 rfl
theorem ubx (p : af) (R Q : Nat → Int) (a : Int) (N : Nat) : ∀ c ∈ [C.elem (cells (ge p R Q)), C.elem [C.v (.int .i64 a)]], C.low N c := cb (fj _ _) (cb (.elem (cb .v da)) da)
set_option maxHeartbeats 1000000 in
theorem yi (n : Nat) (p : af) : er n eo Tryz.prog 17 [val p] (.tup [lst (atE (fg p (cg p)) [] (je p (eg p))), lst (atE (fg p (cg p)) [] (i5 p (eg p))), .v (.int .i64 (fg p (cg p)))]) := fun G nx hF hnx => by
 refine g7 (G) (nx) Tryz.func17 rfl (.tup (cb (bu _ _) (cb (bu _ _) (cb .v da)))) zN (fun hlt => zH) ?_
 simp only [Tryz.ntmps17, List.length_cons, List.length_nil, Nat.reduceAdd, Nat.reduceSub]
 refine bv fun hlt => ?_
 dsimp only at hlt
 refine yS fun _ K1 => ?_
 refine yR ?_
 try dsimp only [St.put]
 refine yB rfl rfl rfl ?_
 refine yA rfl rfl ?_
 refine yA rfl rfl ?_
 refine yA rfl rfl ?_
 refine yN ?_
 dsimp only [St.put]
 refine K1 _ ?_
 refine yS fun _ K2 => ?_
 by_cases hL : fg p (cg p) = 0
 ·refine yR ?_
  refine yE rfl rfl rfl ?_
  try dsimp only [St.put]
  refine ae rfl (dw rfl rfl rfl (n1 n p) zG (by dsimp only [St.put]; omega) ?_)
  refine yX rfl rfl rfl rfl ?_
  refine yX rfl rfl rfl rfl ?_
  try dsimp only [St.put]
  refine ae rfl (dw rfl rfl rfl (s9 n p (jp p) (cg p) pg hL) zG (by dsimp only [St.put]; omega) ?_)
  refine yM rfl rfl ?_
  refine yX rfl rfl rfl rfl ?_
  refine yX rfl rfl rfl rfl ?_
  try dsimp only [St.put]
  refine ae rfl (dn rfl ?_)
  try dsimp only [St.put]
  refine ae rfl (c5 rfl rfl rfl zG rfl rfl (by rfl) ?_)
  refine yA rfl rfl ?_
  refine yN ?_
  dsimp only [St.put]
  refine K2 _ ?_
  refine yS fun _ K3 => ?_
  refine yS fun _ K4 => ?_
  refine yR ?_
  refine yM rfl rfl ?_
  refine aa rfl (fe rfl rfl rfl) ?_
  refine yN ?_
  dsimp only [St.put]
  refine K4 _ ?_
  refine am rfl (fun hc => ?_) (fun hc => ?_)
  ·exact absurd hc (by decide)
  obtain ⟨h0, hTB⟩ := tw hL
  obtain ⟨hok, _⟩ := lh h0
  have hn1 := hok.nf
  have hn2 := hok.ns
  have hnr : bj p = p.firsts.length + p.seconds.length := rfl
  have hl1 := gq (bj p) (co p)
  have hB := uk hok
  have h64 : 2 ^ bj p ≤ 2 ^ 6 := Nat.pow_le_pow_right (by omega) (by omega)
  have hwl : (eg p).length ≤ 6 := by
   have := uad (nl p) (bj p)
   show (l3 (nl p) (bj p)).length ≤ 6
   omega
  refine av ?_
  refine K3 _ ?_
  refine yS fun _ K5 => ?_
  refine yR ?_
  try dsimp only [St.put]
  refine bz rfl (iu rfl rfl zG trivial (by rfl)) ?_
  try dsimp only [St.put]
  refine ae rfl (ax rfl rfl rfl (td p (co p) (c6 p) hok hB) ?_)
  try dsimp only [St.put]
  refine ae rfl (dn rfl ?_)
  try dsimp only [St.put]
  refine ae rfl (c5 rfl rfl rfl zG rfl rfl (by rfl) ?_)
  refine yN ?_
  dsimp only [St.put]
  refine K5 _ ?_
  refine f9 (i := 5) rfl zG zC ?_
  refine f9 (i := 6) rfl zG zC ?_
  dsimp only
  refine yS fun _ K6 => ?_
  refine yS fun _ K7 => ?_
  refine yR ?_
  refine yF rfl rfl rfl rfl ?_
  refine yL rfl rfl rfl ?_
  refine aa rfl (bh rfl rfl (List.length_map _)) ?_
  try dsimp only [St.put]
  refine ae rfl (ax rfl rfl rfl (ubi (bg (bj p) (co p)).length) ?_)
  refine aa rfl (px rfl rfl) ?_
  try dsimp only [St.put]
  refine ae rfl (dw rfl rfl rfl (uek n (bg (bj p) (co p)).length (nl p) 55 [.elem (cells (ge p (co p) (c6 p))), .elem [.v (.int .i64 ((bk p).most (co p) (c6 p)))]] (by rw [hl1]; omega) (ubx p _ _ _) (fun s hs => ujs p (co p) (c6 p) _ s _ hok hB (by rw [hl1] at hs; omega))) zG (by dsimp only [St.put]; omega) ?_)
  refine aa rfl (bh rfl rfl (List.length_map _)) ?_
  refine yM rfl rfl ?_
  refine yN ?_
  dsimp only [St.put]
  rw [hl1, show l3 (nl p) (bj p) = eg p from rfl]
  refine K7 _ ?_
  refine ng 2 3 1 rfl (by decide) ?_
  refine ng 3 3 1 rfl (by decide) ?_
  dsimp only [List.set_cons_zero, List.set_cons_succ]
  refine ba ?_
  refine cd 30 ?_
  refine zQ ?_
  refine cz ((ak (ak G (nx + 1 + 1) (.tip (je p ((eg p).take 0)).length 3 1)) (nx + 1 + 1 + 1) (.tip (i5 p ((eg p).take 0)).length 3 1))) zX ?_
  dsimp only
  refine cy (X := Nat) (fun k => k ≤ (eg p).length) (fun k => (eg p).length - k) (fun k => [(2, .list ((je p ((eg p).take k)).map cells) (.tip (nx + 1 + 1))), (3, .list ((i5 p ((eg p).take k)).map cells) (.tip (nx + 1 + 1 + 1))), (8, .any), (29, .v (.int .i64 (k : Int)))]) (fun k G' => (ak (ak G (nx + 1 + 1) (.tip (je p ((eg p).take k)).length 3 1)) (nx + 1 + 1 + 1) (.tip (i5 p ((eg p).take k)).length 3 1))) 0 rfl ?_ ?_ ?_ ?_ ?_ ?_
  ·exact Nat.zero_le _
  ·exact zF
  ·exact zX
  ·rintro k hI
   exact zL
  ·rintro k hI
   exact zH
  rintro k hK
  dsimp only at hK ⊢
  refine yS fun _ K8 => ?_
  refine yR ?_
  refine aa rfl (cc rfl rfl rfl) ?_
  refine yN ?_
  dsimp only [St.put]
  refine K8 _ ?_
  refine yS fun _ K9 => ?_
  refine am rfl (fun hc => ?_) (fun hc => ?_)
  ·replace hc := of_decide_eq_true hc
   obtain ⟨z, hz⟩ : ∃ z, (eg p)[k]? = some z := dc (by omega)
   have hzb := ug3 (fw hz)
   have hF3 := ug4 p ((eg p).take k) z
   have hS3 := ug1 p ((eg p).take k) z
   rw [← ua0 hz] at hF3 hS3
   have hlF := uax p ((eg p).take k)
   have hlS := uaw p ((eg p).take k)
   have hlt2 : ((eg p).take k).length ≤ 6 := by rw [List.length_take]; omega
   refine av ?_
   refine K9 _ ?_
   refine yS fun _ K10 => ?_
   refine ba ?_
   refine yS fun _ K11 => ?_
   refine yR ?_
   refine aa rfl (bq rfl rfl rfl rfl (bn (by assumption)) (Enc.len _)) ?_
   refine yL rfl rfl rfl ?_
   refine yA rfl rfl ?_
   refine yN ?_
   dsimp only [St.put]
   refine K11 _ ?_
   refine yS fun _ K12 => ?_
   refine yR ?_
   refine yM rfl rfl ?_
   refine yF rfl rfl rfl rfl ?_
   refine yL rfl rfl rfl ?_
   refine aa rfl (bh rfl rfl (List.length_map _)) ?_
   refine aa rfl (cc rfl rfl rfl) ?_
   refine yN ?_
   dsimp only [St.put]
   refine K12 _ ?_
   refine am rfl (fun hc => ?_) (fun hc => ?_)
   ·have hyes := of_decide_eq_true hc
    refine yR ?_
    refine yM rfl rfl ?_
    refine yM rfl rfl ?_
    try dsimp only [St.put]
    refine ae rfl (di rfl rfl rfl (by decide) (by decide) zR (by decide) ?_)
    try dsimp only [St.put]
    refine ae rfl (ja ([z]) rfl rfl zG zE rfl rfl zA ?_ zA)
    refine yA rfl rfl ?_
    refine yN ?_
    dsimp only [St.put]
    refine K10 _ ?_
    refine yR ?_
    refine aa rfl (br rfl rfl rfl (by omega)) ?_
    refine yM rfl rfl ?_
    refine yN ?_
    dsimp only [St.put]
    first
    | (have hy2 : z < (p.firsts.length : Int) := hyes
       rw [decide_eq_true hy2, cond_true] at hF3 hS3
       rw [List.append_nil] at hS3
       simp only [← hF3]
       rw [← hS3]
       exact ⟨k + 1, by omega, by omega, ⟨⟨rfl, rfl⟩, zF, zB, zN, zX⟩⟩)
    | (have hy2 : ¬ z < (p.firsts.length : Int) := hno
       rw [decide_eq_false hy2, cond_false] at hF3 hS3
       rw [List.append_nil] at hF3
       simp only [← hS3]
       rw [← hF3]
       exact ⟨k + 1, by omega, by omega, ⟨⟨rfl, rfl⟩, zF, zB, zN, zX⟩⟩)
   have hno := of_decide_eq_false hc
   refine yR ?_
   refine yM rfl rfl ?_
   refine yM rfl rfl ?_
   refine yF rfl rfl rfl rfl ?_
   refine yL rfl rfl rfl ?_
   refine aa rfl (bh rfl rfl (List.length_map _)) ?_
   refine aa rfl (gj rfl rfl rfl (by omega)) ?_
   try dsimp only [St.put]
   refine ae rfl (di rfl rfl rfl (by decide) (by decide) zR (by decide) ?_)
   try dsimp only [St.put]
   refine ae rfl (ja ([z - (p.firsts.length : Int)]) rfl rfl zG zE rfl rfl zA ?_ zA)
   refine yA rfl rfl ?_
   refine yN ?_
   dsimp only [St.put]
   refine K10 _ ?_
   refine yR ?_
   refine aa rfl (br rfl rfl rfl (by omega)) ?_
   refine yM rfl rfl ?_
   refine yN ?_
   dsimp only [St.put]
   first
   | (have hy2 : z < (p.firsts.length : Int) := hyes
      rw [decide_eq_true hy2, cond_true] at hF3 hS3
      rw [List.append_nil] at hS3
      simp only [← hF3]
      rw [← hS3]
      exact ⟨k + 1, by omega, by omega, ⟨⟨rfl, rfl⟩, zF, zB, zN, zX⟩⟩)
   | (have hy2 : ¬ z < (p.firsts.length : Int) := hno
      rw [decide_eq_false hy2, cond_false] at hF3 hS3
      rw [List.append_nil] at hF3
      simp only [← hS3]
      rw [← hF3]
      exact ⟨k + 1, by omega, by omega, ⟨⟨rfl, rfl⟩, zF, zB, zN, zX⟩⟩)
  replace hc := of_decide_eq_false hc
  refine ct ?_
  refine K6 _ ?_
  refine yS fun _ K13 => ?_
  refine yR ?_
  refine yM rfl rfl ?_
  refine yM rfl rfl ?_
  refine yA rfl rfl ?_
  refine yA rfl rfl ?_
  refine yA rfl rfl ?_
  refine yN ?_
  dsimp only [St.put]
  refine K13 _ ?_
  refine ar ?_
  refine uet rfl (dz (by constructor)) (dz (by constructor)) (dz (by constructor)) zN zS ?_ ?_ ?_
  ·rw [hL, nh, fp (show (eg p).length ≤ k by omega)]; exact zW
  ·rw [hL, nh, fp (show (eg p).length ≤ k by omega)]; exact zW
  rw [hL]; exact zW
 refine yR ?_
 refine yE rfl rfl rfl ?_
 try dsimp only [St.put]
 refine ae rfl (dw rfl rfl rfl (n1 n p) zG (by dsimp only [St.put]; omega) ?_)
 refine yX rfl rfl rfl rfl ?_
 refine yX rfl rfl rfl rfl ?_
 try dsimp only [St.put]
 refine ae rfl (dw rfl rfl rfl (ta n p (jp p) (cg p) pg hL) zG (by dsimp only [St.put]; omega) ?_)
 refine yM rfl rfl ?_
 refine yX rfl rfl rfl rfl ?_
 refine yX rfl rfl rfl rfl ?_
 try dsimp only [St.put]
 refine ae rfl (dn rfl ?_)
 try dsimp only [St.put]
 refine ae rfl (c5 rfl rfl rfl zG rfl rfl (by rfl) ?_)
 refine yA rfl rfl ?_
 refine yN ?_
 dsimp only [St.put]
 refine K2 _ ?_
 refine yS fun _ K14 => ?_
 refine yS fun _ K15 => ?_
 refine yR ?_
 refine yM rfl rfl ?_
 refine aa rfl (fe rfl rfl rfl) ?_
 refine yN ?_
 dsimp only [St.put]
 refine K15 _ ?_
 refine am rfl (fun hc => ?_) (fun hc => ?_)
 ·try replace hc := of_decide_eq_true hc
  refine yS fun _ K16 => ?_
  refine yR ?_
  refine yM rfl rfl ?_
  refine yA rfl rfl ?_
  refine yA rfl rfl ?_
  refine yA rfl rfl ?_
  refine yN ?_
  dsimp only [St.put]
  refine K16 _ ?_
  refine ar ?_
  refine uet rfl (dz (by constructor)) (dz (by constructor)) (dz (by constructor)) zN zS ?_ ?_ ?_
  ·rw [lj hL]; exact zW
  ·rw [lj hL]; exact zW
  exact zW
 exact absurd (g4 hc) hL
set_option maxHeartbeats 1000000 in
theorem uj1 (n : Nat) (p : af) (m : Int) : er n eo Tryz.prog 35 [val p, .v (.int .i64 m)] (.tup [lst (j4 p m), .v (.int .i64 (i3 p m))]) := fun G nx hF hnx => by
 refine g7 (G) (nx) Tryz.func35 rfl (.tup (cb (bu _ _) (cb .v da))) zN (fun hlt => zH) ?_
 simp only [Tryz.ntmps35, List.length_cons, List.length_nil, Nat.reduceAdd, Nat.reduceSub]
 refine bv fun hlt => ?_
 dsimp only at hlt
 refine yS fun _ K1 => ?_
 refine yR ?_
 try dsimp only [St.put]
 refine yB rfl rfl rfl ?_
 try dsimp only [St.put]
 refine yB rfl rfl rfl ?_
 refine yA rfl rfl ?_
 refine yA rfl rfl ?_
 refine yN ?_
 dsimp only [St.put]
 refine K1 _ ?_
 refine yS fun _ K2 => ?_
 refine yR ?_
 refine yE rfl rfl rfl ?_
 try dsimp only [St.put]
 refine ae rfl (dw rfl rfl rfl (n1 n p) zG (by dsimp only [St.put]; omega) ?_)
 refine yM rfl rfl ?_
 refine yX rfl rfl rfl rfl ?_
 refine yX rfl rfl rfl rfl ?_
 refine yA rfl rfl ?_
 refine yA rfl rfl ?_
 refine yN ?_
 dsimp only [St.put]
 refine K2 _ ?_
 refine yS fun _ K3 => ?_
 refine yS fun _ K4 => ?_
 refine yR ?_
 refine yM rfl rfl ?_
 refine aa rfl (fe rfl rfl rfl) ?_
 refine yN ?_
 dsimp only [St.put]
 refine K4 _ ?_
 refine am rfl (fun hc => ?_) (fun hc => ?_)
 ·have h0 : cg p ≠ 0 := jf hc
  have hE : i3 p m = cg p := unh h0
  have hV : j4 p m = [] := by unfold j4; rw [hE, lj h0]
  refine yS fun _ K5 => ?_
  refine yR ?_
  refine yM rfl rfl ?_
  refine yA rfl rfl ?_
  refine yA rfl rfl ?_
  refine yN ?_
  dsimp only [St.put]
  refine K5 _ ?_
  refine ar ?_
  refine gz rfl (dz (by constructor)) (dz (by constructor)) zN zS ?_ ?_
  ·rw [hV]; exact zW
  rw [hE]; exact zW
 have h0 : cg p = 0 := g4 hc
 obtain ⟨hok, _⟩ := lh h0
 have hnp := hok.np
 refine av ?_
 refine K3 _ ?_
 refine yS fun _ K6 => ?_
 refine yS fun _ K7 => ?_
 refine yR ?_
 refine yL rfl rfl rfl ?_
 refine aa rfl (cc rfl rfl rfl) ?_
 refine yN ?_
 dsimp only [St.put]
 refine K7 _ ?_
 refine am rfl (fun hc => ?_) (fun hc => ?_)
 ·have hm : m < 0 := of_decide_eq_true hc
  have hE : i3 p m = 2 := ung h0 hm
  have hV : j4 p m = [] := by unfold j4; rw [hE, lj (by decide)]
  refine yS fun _ K8 => ?_
  refine yR ?_
  refine yA rfl rfl ?_
  refine yA rfl rfl ?_
  refine yN ?_
  dsimp only [St.put]
  refine K8 _ ?_
  refine ar ?_
  refine gz rfl (dz (by constructor)) (dz (by constructor)) zN zS ?_ ?_
  ·rw [hV]; exact zW
  rw [hE]; exact zW
 have hm : ¬ m < 0 := of_decide_eq_false hc
 refine av ?_
 refine K6 _ ?_
 refine yS fun _ K9 => ?_
 by_cases hL : fg p (cg p) = 0
 ·refine yR ?_
  refine yM rfl rfl ?_
  refine yM rfl rfl ?_
  try dsimp only [St.put]
  refine ae rfl (dw rfl rfl rfl (s9 n p (jp p) (cg p) pg hL) zG (by dsimp only [St.put]; omega) ?_)
  refine yM rfl rfl ?_
  refine yX rfl rfl rfl rfl ?_
  refine yX rfl rfl rfl rfl ?_
  try dsimp only [St.put]
  refine ae rfl (dn rfl ?_)
  try dsimp only [St.put]
  refine ae rfl (c5 rfl rfl rfl zG rfl rfl (by rfl) ?_)
  refine yA rfl rfl ?_
  refine yN ?_
  dsimp only [St.put]
  refine K9 _ ?_
  refine f9 (i := 8) rfl zG zC ?_
  dsimp only
  refine yS fun _ K10 => ?_
  refine yS fun _ K11 => ?_
  refine yR ?_
  refine yM rfl rfl ?_
  refine aa rfl (fe rfl rfl rfl) ?_
  refine yN ?_
  dsimp only [St.put]
  refine K11 _ ?_
  refine am rfl (fun hc => ?_) (fun hc => ?_)
  ·exact absurd hc (by decide)
  have hTB := (tw hL).2
  have hE : i3 p m = 0 := unf h0 hm hTB
  have hV : j4 p m = l3 (uh p m) p.pages.length := by unfold j4; rw [hE, nh]
  refine av ?_
  refine K10 _ ?_
  refine yS fun _ K12 => ?_
  refine yR ?_
  refine yF rfl rfl rfl rfl ?_
  refine yL rfl rfl rfl ?_
  refine aa rfl (bh rfl rfl (List.length_map _)) ?_
  try dsimp only [St.put]
  refine ae rfl (ax rfl rfl rfl (ubi p.pages.length) ?_)
  refine aa rfl (px rfl rfl) ?_
  try dsimp only [St.put]
  refine ae rfl (dw rfl rfl rfl (uek n p.pages.length (uh p m) 78 [.elem (cells (ge p (co p) (c6 p))), .elem [.v (.int .i64 m)]] hnp (ubx p _ _ _) (fun s _ => uj2 p m s _ hok (by have := py p.pages.length s; omega) (fun z hz => by obtain ⟨i, rfl, hi, _⟩ := membersL_mem.1 hz; omega))) zG (by dsimp only [St.put]; omega) ?_)
  refine yA rfl rfl ?_
  refine yA rfl rfl ?_
  refine yN ?_
  dsimp only [St.put]
  refine K12 _ ?_
  refine ar ?_
  refine gz rfl (dz (by constructor)) (dz (by constructor)) zN zS ?_ ?_
  ·rw [hV]; exact zW
  rw [hE]; exact zW
 refine yR ?_
 refine yM rfl rfl ?_
 refine yM rfl rfl ?_
 try dsimp only [St.put]
 refine ae rfl (dw rfl rfl rfl (ta n p (jp p) (cg p) pg hL) zG (by dsimp only [St.put]; omega) ?_)
 refine yM rfl rfl ?_
 refine yX rfl rfl rfl rfl ?_
 refine yX rfl rfl rfl rfl ?_
 try dsimp only [St.put]
 refine ae rfl (dn rfl ?_)
 try dsimp only [St.put]
 refine ae rfl (c5 rfl rfl rfl zG rfl rfl (by rfl) ?_)
 refine yA rfl rfl ?_
 refine yN ?_
 dsimp only [St.put]
 refine K9 _ ?_
 refine f9 (i := 8) rfl zG zC ?_
 dsimp only
 refine yS fun _ K13 => ?_
 refine yS fun _ K14 => ?_
 refine yR ?_
 refine yM rfl rfl ?_
 refine aa rfl (fe rfl rfl rfl) ?_
 refine yN ?_
 dsimp only [St.put]
 refine K14 _ ?_
 refine am rfl (fun hc => ?_) (fun hc => ?_)
 ·have hTB : iz p = false := by
   cases h : iz p
   ·rfl
   exact absurd (by rw [h0, re, h]; rfl) hL
  have hE : i3 p m = 8 := uni h0 hm hTB
  have hV : j4 p m = [] := by unfold j4; rw [hE, lj (by decide)]
  have hL8 : fg p (cg p) = 8 := by rw [h0, re, hTB]; rfl
  refine yS fun _ K15 => ?_
  refine yR ?_
  refine yM rfl rfl ?_
  refine yA rfl rfl ?_
  refine yA rfl rfl ?_
  refine yN ?_
  dsimp only [St.put]
  refine K15 _ ?_
  refine ar ?_
  refine gz rfl (dz (by constructor)) (dz (by constructor)) zN zS ?_ ?_
  ·rw [hV]; exact zW
  rw [hE, hL8]; exact zW
 exact absurd (g4 hc) hL
end Go.Proofs.YtbbdginipiljdaaGreatDoor
namespace Go.AB
open Go Go.RowKit
open Go.AB.Enc (cells)
open Go.PB (aw ai PlaceD bc bf bd bp aq af ci bi c4 c7)
def qs (p : af) : Bool := !n9 p && decide (cg p = 0)
section
variable {P : Program} {o : Oper} {st : St} {K : St → Prop}
/-- What stands in a slot is known less well, ahead of an operation. -/
theorem e_wk (i : Nat) {c : C} (c' : C) (h0 : st.at i = c) (hw : Wk c c') (h : EStep P o { st with r := (i, c') :: st.r } K) : EStep P o st K := by
 intro E w a hs
 have hp := hs.at i
 rw [h0] at hp
 refine h E w a ⟨hs.d, hs.sz, fun j v hj => ?_, hs.g⟩
 simp only [cn]
 cases hb : Nat.beq i j
 ·exact hs.t j v hj
 have hij := Nat.eq_of_beq_eq_true hb
 subst hij
 have hv : a.tmps.getD i undef = v := by rw [Array.getD_eq_getD_getElem?, hj]; rfl
 rw [hv] at hp
 exact hw.2 _ _ _ hp
end
theorem ll {α : Type} [Enc α] (l : List α) : ∀ r ∈ l.map cells, r.length = Enc.n α := fun r hr => by
 obtain ⟨y, _, rfl⟩ := List.mem_map.1 hr
 exact Enc.len y
theorem readyP_true {p : af} : qs p = true ↔ n9 p = false ∧ cg p = 0 := by simp [qs]
end Go.AB
namespace Go.Proofs.YtbbdginipiljdaaGreatDoor
set_option maxRecDepth 10000
open Go Go.RowKit Go.AB
open Go.AB.Enc (cells)
open Go.PB (aw ai PlaceD bc bf bd bp aq af ci bi c4 c7)
theorem udu (a : List PlaceD) : Pure Tryz.prog 61 [lst a, lst a] (.v (.bool true)) := by
 have := uo1 a a
 rwa [decide_eq_true rfl] at this
theorem udv (a : List Int) (ha : a.length ≤ 1000) : Pure Tryz.prog 19 [lst a, lst a] (.v (.bool true)) := by
 have := ub1 a a ha
 rwa [decide_eq_true rfl] at this
theorem p9 (a b c : Int) : Pure Tryz.prog 68 [.v (.int .i64 a), .v (.int .i64 b), .v (.int .i64 c)] (val (⟨a, b, c⟩ : PlaceD)) := by
 refine cr Tryz.func68 rfl (fun m => (ec _ _)) fun G nx => ?_
 simp only [Tryz.ntmps68, List.length_cons, List.length_nil, Nat.reduceAdd, Nat.reduceSub]
 refine bv fun hlt => ?_
 dsimp only at hlt
 refine yS fun _ K1 => ?_
 refine yR ?_
 try dsimp only [St.put]
 refine ae rfl (dn rfl ?_)
 refine yN ?_
 dsimp only [St.put]
 refine K1 _ ?_
 refine yS fun _ K2 => ?_
 refine yR ?_
 refine yM rfl rfl ?_
 refine yM rfl rfl ?_
 refine yM rfl rfl ?_
 refine aa rfl (ib rfl rfl) ?_
 try dsimp only [St.put]
 refine ae rfl (c5 rfl rfl rfl zG rfl rfl (by rfl) ?_)
 refine yN ?_
 dsimp only [St.put]
 refine K2 _ ?_
 refine ar ?_
 refine rm rfl (jx rfl zG (by rfl) zC rfl) zN zS ?_
 exact zW
theorem t7 (l : List PlaceD) : Pure Tryz.prog 67 [lst l] (lst l) := by
 refine cr Tryz.func67 rfl (fun m => (bu _ _)) fun G nx => ?_
 simp only [Tryz.ntmps67, List.length_cons, List.length_nil, Nat.reduceAdd, Nat.reduceSub]
 refine bv fun hlt => ?_
 dsimp only at hlt
 refine yS fun _ K1 => ?_
 refine yR ?_
 refine yA rfl rfl ?_
 refine yN ?_
 dsimp only [St.put]
 refine K1 _ ?_
 refine yS fun _ K2 => ?_
 refine yR ?_
 refine yM rfl rfl ?_
 refine yA rfl rfl ?_
 refine yN ?_
 dsimp only [St.put]
 refine K2 _ ?_
 refine ar ?_
 refine az rfl (by constructor) zN zS ?_
 rfl
theorem m7 : Pure Tryz.prog 63 [] (val exPr) := by
 refine cr Tryz.func63 rfl (fun m => (ec _ _)) fun G nx => ?_
 simp only [Tryz.ntmps63, List.length_cons, List.length_nil, Nat.reduceAdd, Nat.reduceSub]
 refine bv fun hlt => ?_
 dsimp only at hlt
 refine yS fun _ K1 => ?_
 refine yR ?_
 try dsimp only [St.put]
 refine ae rfl (dn rfl ?_)
 refine yN ?_
 dsimp only [St.put]
 refine K1 _ ?_
 refine yS fun _ K2 => ?_
 refine yR ?_
 try dsimp only [St.put]
 refine ae rfl (di (rows := ([mq, iy, xIs, mr] : List ByteArray).map cells) rfl rfl rfl (by decide) (by decide) (ll _) (by decide) ?_)
 try dsimp only [St.put]
 refine ae rfl (di (rows := ([mr, mq, iy] : List ByteArray).map cells) rfl rfl rfl (by decide) (by decide) (ll _) (by decide) ?_)
 try dsimp only [St.put]
 refine ae rfl (di (rows := ([[mq, iy, xIs, mr], [mr, mq, iy]] : List (List ByteArray)).map cells) rfl rfl rfl (by decide) (by decide) (ll _) (by decide) ?_)
 refine aa rfl (ib (cs := cells (⟨7, [[mq, iy, xIs, mr], [mr, mq, iy]]⟩ : aw)) rfl rfl) ?_
 try dsimp only [St.put]
 refine ae rfl (di (rows := ([iy, sf, iy] : List ByteArray).map cells) rfl rfl rfl (by decide) (by decide) (ll _) (by decide) ?_)
 try dsimp only [St.put]
 refine ae rfl (di (rows := ([[iy, sf, iy]] : List (List ByteArray)).map cells) rfl rfl rfl (by decide) (by decide) (ll _) (by decide) ?_)
 refine aa rfl (ib (cs := cells (⟨3, [[iy, sf, iy]]⟩ : aw)) rfl rfl) ?_
 try dsimp only [St.put]
 refine ae rfl (di (rows := ([⟨7, [[mq, iy, xIs, mr], [mr, mq, iy]]⟩, ⟨3, [[iy, sf, iy]]⟩] : List aw).map cells) rfl rfl rfl (by decide) (by decide) (ll _) (by decide) ?_)
 refine aa rfl (ib (cs := [lst exTx]) rfl rfl) ?_
 refine aa rfl (ib (cs := cells (⟨1, 50⟩ : bp)) rfl rfl) ?_
 refine aa rfl (ib (cs := cells (⟨2, 0⟩ : bp)) rfl rfl) ?_
 try dsimp only [St.put]
 refine ae rfl (di (rows := ([⟨1, 50⟩, ⟨2, 0⟩] : List bp).map cells) rfl rfl rfl (by decide) (by decide) (ll _) (by decide) ?_)
 refine aa rfl (ib (cs := cells (⟨3, 60⟩ : bp)) rfl rfl) ?_
 try dsimp only [St.put]
 refine ae rfl (di (rows := ([⟨3, 60⟩] : List bp).map cells) rfl rfl rfl (by decide) (by decide) (ll _) (by decide) ?_)
 try dsimp only [St.put]
 refine ae rfl (ax rfl rfl rfl (p9 _ _ _) ?_)
 try dsimp only [St.put]
 refine ae rfl (di (rows := ([⟨0, 0, 0⟩] : List PlaceD).map cells) rfl rfl rfl (by decide) (by decide) (ll _) (by decide) ?_)
 try dsimp only [St.put]
 refine ae rfl (ax rfl rfl rfl (t7 [⟨0, 0, 0⟩]) ?_)
 try dsimp only [St.put]
 refine ae rfl (ax rfl rfl rfl (p9 _ _ _) ?_)
 try dsimp only [St.put]
 refine ae rfl (ax rfl rfl rfl (p9 _ _ _) ?_)
 try dsimp only [St.put]
 refine ae rfl (di (rows := ([⟨0, 0, 0⟩, ⟨0, 0, 3⟩] : List PlaceD).map cells) rfl rfl rfl (by decide) (by decide) (ll _) (by decide) ?_)
 try dsimp only [St.put]
 refine ae rfl (ax rfl rfl rfl (t7 [⟨0, 0, 0⟩, ⟨0, 0, 3⟩]) ?_)
 refine aa rfl (ib (cs := cells (⟨0, 0, 0, 0, [⟨0, 0, 0⟩], [⟨0, 0, 0⟩, ⟨0, 0, 3⟩]⟩ : aq)) rfl rfl) ?_
 try dsimp only [St.put]
 refine ae rfl (ax rfl rfl rfl (p9 _ _ _) ?_)
 try dsimp only [St.put]
 refine ae rfl (di (rows := ([⟨0, 1, 1⟩] : List PlaceD).map cells) rfl rfl rfl (by decide) (by decide) (ll _) (by decide) ?_)
 try dsimp only [St.put]
 refine ae rfl (ax rfl rfl rfl (t7 [⟨0, 1, 1⟩]) ?_)
 refine aa rfl (ib (cs := [.v (.int .i64 1), .v (.int .i64 2), .v (.int .i64 0), .v (.int .i64 (-1)), lst ([⟨0, 1, 1⟩] : List PlaceD), .list [] .nil]) rfl rfl) ?_
 try dsimp only [St.put]
 refine ae rfl (e_wk 26 (val (⟨1, 2, 0, -1, [⟨0, 1, 1⟩], []⟩ : aq)) rfl (by show Wk _ (.agg _); exact zW) ?_)
 dsimp only
 refine di (rows := ([⟨0, 0, 0, 0, [⟨0, 0, 0⟩], [⟨0, 0, 0⟩, ⟨0, 0, 3⟩]⟩, ⟨1, 2, 0, -1, [⟨0, 1, 1⟩], []⟩] : List aq).map cells) rfl rfl rfl (by decide) (by decide) (ll _) (by decide) ?_
 refine aa rfl (ib (cs := [lst exTx, lst exPr.firsts, lst exPr.seconds, lst exPr.pages]) rfl rfl) ?_
 try dsimp only [St.put]
 refine ae rfl (c5 rfl rfl rfl zG rfl rfl (by rfl) ?_)
 refine yN ?_
 dsimp only [St.put]
 refine K2 _ ?_
 refine ar ?_
 refine rm rfl (jx rfl zG (by rfl) zC rfl) zN zS ?_
 exact zW
theorem ul1 (n : Nat) (b : Bool) (r want : Int) : er n eo Tryz.prog 69 [.v (.bool b), .v (.int .i64 r), .v (.int .i64 want)] (.v (.bool (decide (jv exPr b r = 0) && decide (ml exPr b r = want)))) := fun G nx hF hnx => by
 refine g7 (G) (nx) Tryz.func69 rfl (.v) zN (fun hlt => zH) ?_
 simp only [Tryz.ntmps69, List.length_cons, List.length_nil, Nat.reduceAdd, Nat.reduceSub]
 refine bv fun hlt => ?_
 dsimp only at hlt
 refine yS fun _ K1 => ?_
 refine yR ?_
 refine yA rfl rfl ?_
 refine yN ?_
 dsimp only [St.put]
 refine K1 _ ?_
 refine yS fun _ K2 => ?_
 refine yR ?_
 try dsimp only [St.put]
 refine ae rfl (ax rfl rfl rfl (m7) ?_)
 refine yM rfl rfl ?_
 refine yM rfl rfl ?_
 try dsimp only [St.put]
 refine ae rfl (dw rfl rfl rfl (uck n exPr b r) zG (by dsimp only [St.put]; omega) ?_)
 refine yM rfl rfl ?_
 refine yX rfl rfl rfl rfl ?_
 refine yX rfl rfl rfl rfl ?_
 refine yA rfl rfl ?_
 refine yA rfl rfl ?_
 refine yN ?_
 dsimp only [St.put]
 refine K2 _ ?_
 refine yS fun _ K3 => ?_
 refine yR ?_
 refine yM rfl rfl ?_
 refine aa rfl (ff rfl rfl rfl) ?_
 refine ez (fun hs => ?_) (fun hs => ?_)
 ·have h1 : decide (jv exPr b r = 0) = true := hs
  refine yM rfl rfl ?_
  refine yM rfl rfl ?_
  refine yM rfl rfl ?_
  refine aa rfl (ff rfl rfl rfl) ?_
  refine aa rfl (bw rfl rfl (by constructor)) ?_
  refine yA rfl rfl ?_
  refine yN ?_
  dsimp only [St.put]
  refine K3 _ ?_
  refine ar ?_
  refine az rfl (by constructor) zN zS ?_
  exact vb (by rw [h1]; rfl)
 have h1 : decide (jv exPr b r = 0) = false := hs
 refine yM rfl rfl ?_
 refine yK rfl ?_
 refine yK rfl ?_
 refine yK rfl ?_
 refine aa rfl (cp rfl rfl (by constructor)) ?_
 refine yA rfl rfl ?_
 refine yN ?_
 dsimp only [St.put]
 refine K3 _ ?_
 refine ar ?_
 refine az rfl (by constructor) zN zS ?_
 exact vb (by rw [h1]; rfl)
theorem ul0 (n : Nat) (m : Int) (want : List Int) : er n eo Tryz.prog 70 [.v (.int .i64 m), lst want] (.v (.bool (decide (i3 exPr m = 0) && decide (j4 exPr m = want)))) := fun G nx hF hnx => by
 refine g7 (G) (nx) Tryz.func70 rfl (.v) zN (fun hlt => zH) ?_
 simp only [Tryz.ntmps70, List.length_cons, List.length_nil, Nat.reduceAdd, Nat.reduceSub]
 refine bv fun hlt => ?_
 dsimp only at hlt
 have hcl : (j4 exPr m).length ≤ 1000 := by
  unfold j4 atE
  cases decide (i3 exPr m = 0)
  ·exact Nat.zero_le _
  have := uad (uh exPr m) exPr.pages.length
  have e : exPr.pages.length = 2 := rfl
  show (l3 (uh exPr m) exPr.pages.length).length ≤ 1000
  omega
 refine yS fun _ K1 => ?_
 refine yR ?_
 refine yA rfl rfl ?_
 refine yN ?_
 dsimp only [St.put]
 refine K1 _ ?_
 refine yS fun _ K2 => ?_
 refine yR ?_
 try dsimp only [St.put]
 refine ae rfl (ax rfl rfl rfl (m7) ?_)
 refine yM rfl rfl ?_
 try dsimp only [St.put]
 refine ae rfl (dw rfl rfl rfl (uj1 n exPr m) zG (by dsimp only [St.put]; omega) ?_)
 refine yM rfl rfl ?_
 refine yX rfl rfl rfl rfl ?_
 refine yX rfl rfl rfl rfl ?_
 refine yA rfl rfl ?_
 refine yA rfl rfl ?_
 refine yN ?_
 dsimp only [St.put]
 refine K2 _ ?_
 refine yS fun _ K3 => ?_
 refine yR ?_
 refine yM rfl rfl ?_
 refine aa rfl (ff rfl rfl rfl) ?_
 refine ez (fun hs => ?_) (fun hs => ?_)
 ·have h1 : decide (i3 exPr m = 0) = true := hs
  refine yM rfl rfl ?_
  refine yM rfl rfl ?_
  refine yM rfl rfl ?_
  try dsimp only [St.put]
  refine ae rfl (ax rfl rfl rfl (ub1 (j4 exPr m) want hcl) ?_)
  refine aa rfl (bw rfl rfl (by constructor)) ?_
  refine yA rfl rfl ?_
  refine yN ?_
  dsimp only [St.put]
  refine K3 _ ?_
  refine ar ?_
  refine az rfl (by constructor) zN zS ?_
  exact vb (by rw [h1]; rfl)
 have h1 : decide (i3 exPr m = 0) = false := hs
 refine yM rfl rfl ?_
 refine yK rfl ?_
 refine yK rfl ?_
 refine yK rfl ?_
 refine aa rfl (cp rfl rfl (by constructor)) ?_
 refine yA rfl rfl ?_
 refine yN ?_
 dsimp only [St.put]
 refine K3 _ ?_
 refine ar ?_
 refine az rfl (by constructor) zN zS ?_
 exact vb (by rw [h1]; rfl)
theorem uon (n : Nat) : er n eo Tryz.prog 62 [val exPr, .v (.int .i64 1)] (.tup [.v (.int .i64 6), .v (.int .i64 0)]) := by
 have := uce n exPr 1
 rwa [xp_words.1, xp_words.2.1] at this
theorem uor (n : Nat) : er n eo Tryz.prog 64 [val exPr, .v (.int .i64 0)] (.tup [lst ([⟨0, 0, 0⟩, ⟨0, 0, 3⟩] : List PlaceD), .v (.int .i64 0)]) := by
 have := ucj n exPr 0
 rwa [xp_found.1, xp_words.2.2.2] at this
theorem uou (n : Nat) : er n eo Tryz.prog 65 [val exPr, .v (.int .i64 0)] (.tup [lst ([⟨0, 0, 0⟩] : List PlaceD), .v (.int .i64 0)]) := by
 have := uj3 n exPr 0
 rwa [xp_found.2, xp_words.2.2.2] at this
theorem uoq (n : Nat) : er n eo Tryz.prog 66 [val exPr, .v (.int .i64 0)] (.tup [val (⟨2, 2⟩ : bi), .v (.int .i64 0)]) := by
 have := uj0 n exPr 0
 rwa [xp_guess.1, xp_guess.2] at this
theorem uop (n : Nat) : er n eo Tryz.prog 11 [val exPr, .v (.int .i64 1)] (.tup [val (⟨0, 1⟩ : bi), .v (.int .i64 0)]) := by
 have := ujw n exPr 1
 rwa [xp_remain.1, xp_remain.2.1] at this
theorem uoo (n : Nat) : er n eo Tryz.prog 13 [val exPr] (.tup [val (⟨0, 1⟩ : bi), .v (.int .i64 0)]) := by
 have := yj n exPr
 rwa [ugi, ur] at this
theorem uom (n : Nat) : er n eo Tryz.prog 15 [val exPr] (.tup [lst ([1, 0] : List Int), .v (.int .i64 0)]) := by
 have := ujp n exPr
 rwa [ugh, ur] at this
theorem alWhy (n : Nat) : er n eo Tryz.prog 17 [val exPr] (.tup [lst ([0] : List Int), lst ([] : List Int), .v (.int .i64 0)]) := by
 have := yi n exPr
 rwa [ur, nh, nh, xp_why.1, xp_why.2] at this
theorem uot (n : Nat) : er n eo Tryz.prog 69 [.v (.bool false), .v (.int .i64 0), .v (.int .i64 4)] (.v (.bool true)) := by
 have := ul1 n false 0 4
 rwa [xp_bound.1, xp_bound.2.1] at this
theorem uos (n : Nat) : er n eo Tryz.prog 70 [.v (.int .i64 0), lst ([0, 1] : List Int)] (.v (.bool true)) := by
 have := ul0 n 0 [0, 1]
 rwa [xp_chief.1, xp_chief.2.1] at this
set_option maxHeartbeats 4000000 in
theorem uol (n : Nat) : er n eo Tryz.prog 21 [] (.v (.bool true)) := fun G nx hF hnx => by
 refine g7 (G) (nx) Tryz.func21 rfl (.v) zN (fun hlt => zH) ?_
 simp only [Tryz.ntmps21, List.length_cons, List.length_nil, Nat.reduceAdd, Nat.reduceSub]
 refine bv fun hlt => ?_
 dsimp only at hlt
 refine yS fun _ K1 => ?_
 refine yR ?_
 refine yA rfl rfl ?_
 refine yN ?_
 dsimp only [St.put]
 refine K1 _ ?_
 refine yS fun _ K2 => ?_
 refine yR ?_
 try dsimp only [St.put]
 refine ae rfl (ax rfl rfl rfl (m7) ?_)
 try dsimp only [St.put]
 refine ae rfl ((dw rfl rfl rfl ((uon n)) zG (by dsimp only [St.put]; omega) ?_))
 refine yM rfl rfl ?_
 refine yX rfl rfl rfl rfl ?_
 refine yX rfl rfl rfl rfl ?_
 refine yA rfl rfl ?_
 refine yA rfl rfl ?_
 refine yN ?_
 dsimp only [St.put]
 refine K2 _ ?_
 refine yS fun _ K3 => ?_
 refine yR ?_
 try dsimp only [St.put]
 refine ae rfl (ax rfl rfl rfl (m7) ?_)
 try dsimp only [St.put]
 refine ae rfl ((dw rfl rfl rfl ((uor n)) zG (by dsimp only [St.put]; omega) ?_))
 refine yM rfl rfl ?_
 refine yX rfl rfl rfl rfl ?_
 refine yX rfl rfl rfl rfl ?_
 refine yA rfl rfl ?_
 refine yA rfl rfl ?_
 refine yN ?_
 dsimp only [St.put]
 refine K3 _ ?_
 refine yS fun _ K4 => ?_
 refine yR ?_
 try dsimp only [St.put]
 refine ae rfl (ax rfl rfl rfl (m7) ?_)
 try dsimp only [St.put]
 refine ae rfl ((dw rfl rfl rfl ((uou n)) zG (by dsimp only [St.put]; omega) ?_))
 refine yM rfl rfl ?_
 refine yX rfl rfl rfl rfl ?_
 refine yX rfl rfl rfl rfl ?_
 refine yA rfl rfl ?_
 refine yA rfl rfl ?_
 refine yN ?_
 dsimp only [St.put]
 refine K4 _ ?_
 refine yS fun _ K5 => ?_
 refine yR ?_
 try dsimp only [St.put]
 refine ae rfl (ax rfl rfl rfl (m7) ?_)
 try dsimp only [St.put]
 refine ae rfl ((dw rfl rfl rfl ((uoq n)) zG (by dsimp only [St.put]; omega) ?_))
 refine yM rfl rfl ?_
 refine yX rfl rfl rfl rfl ?_
 refine yX rfl rfl rfl rfl ?_
 try dsimp only [St.put]
 refine ae rfl (dn rfl ?_)
 try dsimp only [St.put]
 refine ae rfl (c5 rfl rfl rfl zG rfl rfl (by rfl) ?_)
 refine yA rfl rfl ?_
 refine yN ?_
 dsimp only [St.put]
 refine K5 _ ?_
 refine f9 (i := 7) rfl zG zC ?_
 dsimp only
 refine yS fun _ K6 => ?_
 refine yR ?_
 try dsimp only [St.put]
 refine ae rfl (ax rfl rfl rfl (m7) ?_)
 try dsimp only [St.put]
 refine ae rfl ((dw rfl rfl rfl ((uop n)) zG (by dsimp only [St.put]; omega) ?_))
 refine yM rfl rfl ?_
 refine yX rfl rfl rfl rfl ?_
 refine yX rfl rfl rfl rfl ?_
 try dsimp only [St.put]
 refine ae rfl (dn rfl ?_)
 try dsimp only [St.put]
 refine ae rfl (c5 rfl rfl rfl zG rfl rfl (by rfl) ?_)
 refine yA rfl rfl ?_
 refine yN ?_
 dsimp only [St.put]
 refine K6 _ ?_
 refine f9 (i := 9) rfl zG zC ?_
 dsimp only
 refine yS fun _ K7 => ?_
 refine yR ?_
 try dsimp only [St.put]
 refine ae rfl (ax rfl rfl rfl (m7) ?_)
 try dsimp only [St.put]
 refine ae rfl ((dw rfl rfl rfl ((uoo n)) zG (by dsimp only [St.put]; omega) ?_))
 refine yM rfl rfl ?_
 refine yX rfl rfl rfl rfl ?_
 refine yX rfl rfl rfl rfl ?_
 try dsimp only [St.put]
 refine ae rfl (dn rfl ?_)
 try dsimp only [St.put]
 refine ae rfl (c5 rfl rfl rfl zG rfl rfl (by rfl) ?_)
 refine yA rfl rfl ?_
 refine yN ?_
 dsimp only [St.put]
 refine K7 _ ?_
 refine f9 (i := 11) rfl zG zC ?_
 dsimp only
 refine yS fun _ K8 => ?_
 refine yR ?_
 try dsimp only [St.put]
 refine ae rfl (ax rfl rfl rfl (m7) ?_)
 try dsimp only [St.put]
 refine ae rfl ((dw rfl rfl rfl ((uom n)) zG (by dsimp only [St.put]; omega) ?_))
 refine yM rfl rfl ?_
 refine yX rfl rfl rfl rfl ?_
 refine yX rfl rfl rfl rfl ?_
 refine yA rfl rfl ?_
 refine yA rfl rfl ?_
 refine yN ?_
 dsimp only [St.put]
 refine K8 _ ?_
 refine yS fun _ K9 => ?_
 refine yR ?_
 try dsimp only [St.put]
 refine ae rfl (ax rfl rfl rfl (m7) ?_)
 try dsimp only [St.put]
 refine ae rfl ((dw rfl rfl rfl ((alWhy n)) zG (by dsimp only [St.put]; omega) ?_))
 refine yM rfl rfl ?_
 refine yX rfl rfl rfl rfl ?_
 refine yX rfl rfl rfl rfl ?_
 refine yX rfl rfl rfl rfl ?_
 refine yA rfl rfl ?_
 refine yA rfl rfl ?_
 refine yA rfl rfl ?_
 refine yN ?_
 dsimp only [St.put]
 refine K9 _ ?_
 refine yS fun _ K10 => ?_
 refine cd 18 ?_
 refine zQ ?_
 refine cz G zX ?_
 dsimp only
 refine yR ?_
 refine yM rfl rfl ?_
 refine aa rfl (ed (ff rfl rfl rfl) (decide_eq_true (by omega))) ?_
 refine yM rfl rfl ?_
 refine yM rfl rfl ?_
 ((first | refine aa rfl ((ed (c := true) (ff rfl rfl rfl) (decide_eq_true rfl))) ?_ | refine ah rfl rfl rfl rfl ((ed (c := true) (ff rfl rfl rfl) (decide_eq_true rfl))) ?_ | refine cv rfl rfl rfl rfl ((ed (c := true) (ff rfl rfl rfl) (decide_eq_true rfl))) ?_ | refine um rfl rfl rfl ((ed (c := true) (ff rfl rfl rfl) (decide_eq_true rfl))) ?_))
 refine aa rfl (bw rfl rfl (by constructor)) ?_
 refine yM rfl rfl ?_
 refine yM rfl rfl ?_
 refine aa rfl (ed (ff rfl rfl rfl) (decide_eq_true (by omega))) ?_
 refine aa rfl (bw rfl rfl (by constructor)) ?_
 refine yM rfl rfl ?_
 refine yM rfl rfl ?_
 try dsimp only [St.put]
 refine ae rfl (ax rfl rfl rfl (p9 _ _ _) ?_)
 try dsimp only [St.put]
 refine ae rfl (ax rfl rfl rfl (p9 _ _ _) ?_)
 try dsimp only [St.put]
 refine ae rfl (di rfl rfl rfl (by decide) (by decide) zR (by decide) ?_)
 try dsimp only [St.put]
 refine ae rfl (ax rfl rfl rfl (t7 [⟨0, 0, 0⟩, ⟨0, 0, 3⟩]) ?_)
 try dsimp only [St.put]
 refine ae rfl (ax rfl rfl rfl (udu [⟨0, 0, 0⟩, ⟨0, 0, 3⟩]) ?_)
 refine aa rfl (bw rfl rfl (by constructor)) ?_
 refine yM rfl rfl ?_
 refine yM rfl rfl ?_
 refine aa rfl (ed (ff rfl rfl rfl) (decide_eq_true (by omega))) ?_
 refine aa rfl (bw rfl rfl (by constructor)) ?_
 refine yM rfl rfl ?_
 refine yM rfl rfl ?_
 try dsimp only [St.put]
 refine ae rfl (ax rfl rfl rfl (p9 _ _ _) ?_)
 try dsimp only [St.put]
 refine ae rfl (di rfl rfl rfl (by decide) (by decide) zR (by decide) ?_)
 try dsimp only [St.put]
 refine ae rfl (ax rfl rfl rfl (t7 [⟨0, 0, 0⟩]) ?_)
 try dsimp only [St.put]
 refine ae rfl (ax rfl rfl rfl (udu [⟨0, 0, 0⟩]) ?_)
 refine aa rfl (bw rfl rfl (by constructor)) ?_
 refine yM rfl rfl ?_
 try dsimp only [St.put]
 refine ae rfl ((dw rfl rfl rfl ((uot n)) zG (by dsimp only [St.put]; omega) ?_))
 refine aa rfl (bw rfl rfl (by constructor)) ?_
 refine yM rfl rfl ?_
 refine yM rfl rfl ?_
 refine aa rfl (ed (ff rfl rfl rfl) (decide_eq_true (by omega))) ?_
 refine aa rfl (bw rfl rfl (by constructor)) ?_
 refine yM rfl rfl ?_
 refine yE rfl rfl rfl ?_
 refine aa rfl (ib rfl rfl) ?_
 ((first | refine aa rfl ((ed (c := true) (lv (x := (⟨2, 2⟩ : bi)) (y := (⟨2, 2⟩ : bi)) rfl rfl rfl) (decide_eq_true rfl))) ?_ | refine ah rfl rfl rfl rfl ((ed (c := true) (lv (x := (⟨2, 2⟩ : bi)) (y := (⟨2, 2⟩ : bi)) rfl rfl rfl) (decide_eq_true rfl))) ?_ | refine cv rfl rfl rfl rfl ((ed (c := true) (lv (x := (⟨2, 2⟩ : bi)) (y := (⟨2, 2⟩ : bi)) rfl rfl rfl) (decide_eq_true rfl))) ?_ | refine um rfl rfl rfl ((ed (c := true) (lv (x := (⟨2, 2⟩ : bi)) (y := (⟨2, 2⟩ : bi)) rfl rfl rfl) (decide_eq_true rfl))) ?_))
 refine aa rfl (bw rfl rfl (by constructor)) ?_
 refine yM rfl rfl ?_
 refine yM rfl rfl ?_
 refine aa rfl (ed (ff rfl rfl rfl) (decide_eq_true (by omega))) ?_
 refine aa rfl (bw rfl rfl (by constructor)) ?_
 refine yM rfl rfl ?_
 refine yE rfl rfl rfl ?_
 refine aa rfl (ib rfl rfl) ?_
 ((first | refine aa rfl ((ed (c := true) (lv (x := (⟨0, 1⟩ : bi)) (y := (⟨0, 1⟩ : bi)) rfl rfl rfl) (decide_eq_true rfl))) ?_ | refine ah rfl rfl rfl rfl ((ed (c := true) (lv (x := (⟨0, 1⟩ : bi)) (y := (⟨0, 1⟩ : bi)) rfl rfl rfl) (decide_eq_true rfl))) ?_ | refine cv rfl rfl rfl rfl ((ed (c := true) (lv (x := (⟨0, 1⟩ : bi)) (y := (⟨0, 1⟩ : bi)) rfl rfl rfl) (decide_eq_true rfl))) ?_ | refine um rfl rfl rfl ((ed (c := true) (lv (x := (⟨0, 1⟩ : bi)) (y := (⟨0, 1⟩ : bi)) rfl rfl rfl) (decide_eq_true rfl))) ?_))
 refine aa rfl (bw rfl rfl (by constructor)) ?_
 refine yM rfl rfl ?_
 refine yM rfl rfl ?_
 refine aa rfl (ed (ff rfl rfl rfl) (decide_eq_true (by omega))) ?_
 refine aa rfl (bw rfl rfl (by constructor)) ?_
 refine yM rfl rfl ?_
 refine yE rfl rfl rfl ?_
 refine aa rfl (ib rfl rfl) ?_
 ((first | refine aa rfl ((ed (c := true) (lv (x := (⟨0, 1⟩ : bi)) (y := (⟨0, 1⟩ : bi)) rfl rfl rfl) (decide_eq_true rfl))) ?_ | refine ah rfl rfl rfl rfl ((ed (c := true) (lv (x := (⟨0, 1⟩ : bi)) (y := (⟨0, 1⟩ : bi)) rfl rfl rfl) (decide_eq_true rfl))) ?_ | refine cv rfl rfl rfl rfl ((ed (c := true) (lv (x := (⟨0, 1⟩ : bi)) (y := (⟨0, 1⟩ : bi)) rfl rfl rfl) (decide_eq_true rfl))) ?_ | refine um rfl rfl rfl ((ed (c := true) (lv (x := (⟨0, 1⟩ : bi)) (y := (⟨0, 1⟩ : bi)) rfl rfl rfl) (decide_eq_true rfl))) ?_))
 refine aa rfl (bw rfl rfl (by constructor)) ?_
 refine yM rfl rfl ?_
 refine yM rfl rfl ?_
 refine aa rfl (ed (ff rfl rfl rfl) (decide_eq_true (by omega))) ?_
 refine aa rfl (bw rfl rfl (by constructor)) ?_
 refine yM rfl rfl ?_
 refine yM rfl rfl ?_
 try dsimp only [St.put]
 refine ae rfl (di rfl rfl rfl (by decide) (by decide) zR (by decide) ?_)
 try dsimp only [St.put]
 refine ae rfl (ax rfl rfl rfl (udv [1, 0] (by decide)) ?_)
 refine aa rfl (bw rfl rfl (by constructor)) ?_
 refine yM rfl rfl ?_
 refine yM rfl rfl ?_
 refine aa rfl (ed (ff rfl rfl rfl) (decide_eq_true (by omega))) ?_
 refine aa rfl (bw rfl rfl (by constructor)) ?_
 refine yM rfl rfl ?_
 refine yM rfl rfl ?_
 try dsimp only [St.put]
 refine ae rfl (di rfl rfl rfl (by decide) (by decide) zR (by decide) ?_)
 try dsimp only [St.put]
 refine ae rfl (ax rfl rfl rfl (udv [0] (by decide)) ?_)
 refine aa rfl (bw rfl rfl (by constructor)) ?_
 refine yM rfl rfl ?_
 refine yM rfl rfl ?_
 refine aa rfl (bh rfl rfl (List.length_map _)) ?_
 ((first | refine aa rfl ((ed (c := true) (ff rfl rfl rfl) (decide_eq_true rfl))) ?_ | refine ah rfl rfl rfl rfl ((ed (c := true) (ff rfl rfl rfl) (decide_eq_true rfl))) ?_ | refine cv rfl rfl rfl rfl ((ed (c := true) (ff rfl rfl rfl) (decide_eq_true rfl))) ?_ | refine um rfl rfl rfl ((ed (c := true) (ff rfl rfl rfl) (decide_eq_true rfl))) ?_))
 refine aa rfl (bw rfl rfl (by constructor)) ?_
 refine yM rfl rfl ?_
 try dsimp only [St.put]
 refine ae rfl (di rfl rfl rfl (by decide) (by decide) zR (by decide) ?_)
 try dsimp only [St.put]
 refine ae rfl ((dw rfl rfl rfl ((uos n)) zG (by dsimp only [St.put]; omega) ?_))
 refine aa rfl (bw rfl rfl (by constructor)) ?_
 refine yA rfl rfl ?_
 refine yN ?_
 dsimp only [St.put]
 refine K10 _ ?_
 refine ar ?_
 refine az rfl (by constructor) zN zS ?_
 rfl
theorem ulw (p : af) : Pure Tryz.prog 22 [val p] (.v (.bool (qs p))) := by
 refine cr Tryz.func22 rfl (fun m => .v) fun G nx => ?_
 simp only [Tryz.ntmps22, List.length_cons, List.length_nil, Nat.reduceAdd, Nat.reduceSub]
 refine bv fun hlt => ?_
 dsimp only at hlt
 refine yS fun _ K1 => ?_
 refine yR ?_
 try dsimp only [St.put]
 refine yB rfl rfl rfl ?_
 refine yA rfl rfl ?_
 refine yN ?_
 dsimp only [St.put]
 refine K1 _ ?_
 refine yS fun _ K2 => ?_
 refine yR ?_
 refine yE rfl rfl rfl ?_
 try dsimp only [St.put]
 refine ae rfl (ax rfl rfl rfl (ujg p) ?_)
 refine aa rfl (dq rfl rfl) ?_
 refine yM rfl rfl ?_
 refine ez (fun hs => ?_) (fun hs => ?_)
 ·have h1 : n9 p = false := by simpa using hs
  refine yE rfl rfl rfl ?_
  try dsimp only [St.put]
  refine ae rfl (ax rfl rfl rfl (ujh p) ?_)
  refine aa rfl (ff rfl rfl rfl) ?_
  refine aa rfl (bw rfl rfl (by constructor)) ?_
  refine yA rfl rfl ?_
  refine yN ?_
  dsimp only [St.put]
  refine K2 _ ?_
  refine ar ?_
  refine az rfl (by constructor) zN zS ?_
  exact vb (by simp [qs, h1])
 have h1 : n9 p = true := by simpa using hs
 refine yK rfl ?_
 refine yK rfl ?_
 refine yK rfl ?_
 refine aa rfl (cp rfl rfl (by constructor)) ?_
 refine yA rfl rfl ?_
 refine yN ?_
 dsimp only [St.put]
 refine K2 _ ?_
 refine ar ?_
 refine az rfl (by constructor) zN zS ?_
 exact vb (by simp [qs, h1])
end Go.Proofs.YtbbdginipiljdaaGreatDoor
namespace Go.AB
open Go Go.RowKit
open Go.AB.Enc (cells)
open Go.PB (aw ai PlaceD bc bf bd bp aq af ci bi)
end Go.AB
namespace Go.AB
open Go Go.RowKit
open Go.AB.Enc (cells)
open Go.PB (aw ai PlaceD bc bf bd bp aq af ci bi c4 c7)
section
variable {p : af} {i : Nat} {x : aq}
theorem xb (h : cg p = 0) (hx : p.pages[i]? = some x) : ef p (i : Int) = 0 := by
 have := (List.getElem?_eq_some_iff.1 hx).1
 unfold ef
 rw [decide_eq_true h, cond_true, inB_true.2 (by omega)]
 rfl
theorem ucd (hx : p.pages[i]? = some x) : l8 p (i : Int) = x := by
 unfold l8
 rw [Int.toNat_natCast, hx]; rfl
end
end Go.AB
namespace Go.Proofs.YtbbdginipiljdaaGreatDoor
set_option maxRecDepth 10000
open Go Go.RowKit Go.AB
open Go.AB.Enc (cells)
open Go.PB (aw ai PlaceD bc bf bd bp aq af ci bi c4 c7)
section
variable {p : af} {i : Nat} {x : aq}
theorem ulu (n : Nat) (h : cg p = 0) (hx : p.pages[i]? = some x) : er n eo Tryz.prog 62 [val p, .v (.int .i64 (i : Int))] (.tup [.v (.int .i64 (el p.text x : Int)), .v (.int .i64 0)]) := by
 have := uce n p (i : Int)
 rwa [xb h hx, show nk p (i : Int) = (el p.text x : Int) by unfold nk; rw [xb h hx, ucd hx]; rfl] at this
theorem ulz (n : Nat) (h : cg p = 0) (hx : p.pages[i]? = some x) : er n eo Tryz.prog 64 [val p, .v (.int .i64 (i : Int))] (.tup [lst (dl p.text x), .v (.int .i64 0)]) := by
 have := ucj n p (i : Int)
 rwa [xb h hx, show pc p (i : Int) = dl p.text x by unfold pc; rw [xb h hx, ucd hx]; rfl] at this
end
end Go.Proofs.YtbbdginipiljdaaGreatDoor
namespace Go.AB
open Go Go.RowKit
open Go.AB.Enc (cells)
open Go.PB (aw ai PlaceD bc bf bd bp aq af ci bi c4 c7)
theorem ua2 {l : List Int} {k : Nat} {z : Int} (h : l[k]? = some z) : (l.take (k + 1)).sum = (l.take k).sum + z := by
 rw [List.take_add_one, h, Option.toList_some, List.sum_append]; simp
theorem ua3 {l : List Int} {m : Int} (h0 : 0 ≤ m) (h : ∀ z ∈ l, -m ≤ z ∧ z ≤ m) : ∀ k, k ≤ l.length → -(k * m) ≤ (l.take k).sum ∧ (l.take k).sum ≤ k * m
 | 0, _ => by simp
 | k + 1, hk => by
  have ih := ua3 h0 h k (by omega)
  have e := List.getElem?_eq_getElem (show k < l.length by omega)
  have hz := h _ (List.mem_of_getElem? e)
  rw [ua2 e]
  have e2 : ((k + 1 : Nat) : Int) * m = (k : Int) * m + m := by rw [Int.natCast_add, Int.add_mul]; simp
  omega
theorem uk4 {l : List Int} {k : Nat} {z n : Int} (h : l[k]? = some z) : n ∈ l.take (k + 1) ↔ n ∈ l.take k ∨ n = z := by rw [List.take_add_one, h]; simp
theorem uaz {p : af} (h : d7 p) (j : Nat) : 0 ≤ ck p j ∧ ck p j ≤ 600 := by
 refine ⟨uhg p j, ?_⟩
 have hq := ni h.text
 unfold ck kb
 cases p.pages[j]? with
 | none => show (0 : Int) ≤ 600; omega
 | some x => have := ud p.text x; show ((dl p.text x).length : Int) ≤ 600; omega
end Go.AB
namespace Go.Proofs.YtbbdginipiljdaaGreatDoor
set_option maxRecDepth 10000
open Go Go.RowKit Go.AB
open Go.AB.Enc (cells)
open Go.PB (aw ai PlaceD bc bf bd bp aq af ci bi c4 c7)
theorem upb (l : List Int) (hl : l.length ≤ 100) (hb : ∀ z ∈ l, -1000000000 ≤ z ∧ z ≤ 1000000000) : Pure Tryz.prog 30 [lst l] (.v (.int .i64 l.sum)) := by
 refine cr Tryz.func30 rfl (fun m => .v) fun G nx => ?_
 simp only [Tryz.ntmps30, List.length_cons, List.length_nil, Nat.reduceAdd, Nat.reduceSub]
 refine bv fun hlt => ?_
 dsimp only at hlt
 refine yS fun _ K1 => ?_
 refine yR ?_
 refine yA rfl rfl ?_
 refine yN ?_
 dsimp only [St.put]
 refine K1 _ ?_
 refine yS fun _ K2 => ?_
 refine yR ?_
 refine yA rfl rfl ?_
 refine yN ?_
 dsimp only [St.put]
 refine K2 _ ?_
 refine yS fun _ K3 => ?_
 refine yS fun _ K4 => ?_
 refine yR ?_
 refine yM rfl rfl ?_
 refine aa rfl (bh rfl rfl (List.length_map _)) ?_
 refine yM rfl rfl ?_
 refine yN ?_
 dsimp only [St.put]
 refine K4 _ ?_
 refine ba ?_
 refine cd 9 ?_
 refine zQ ?_
 refine cz (G) zX ?_
 dsimp only
 refine cy (X := Nat) (fun k => k ≤ l.length) (fun k => l.length - k) (fun k => [(3, .v (.int .i64 (l.take k).sum)), (5, .any), (8, .v (.int .i64 (k : Int)))]) (fun k G' => G') 0 rfl ?_ ?_ (fun _ _ h => h) ?_ ?_ ?_
 ·exact Nat.zero_le _
 ·exact zF
 ·rintro k hI
  exact zL
 ·exact fun _ _ _ _ h => .inl h
 rintro k hI
 dsimp only at hI ⊢
 refine yS fun _ K5 => ?_
 refine yR ?_
 refine aa rfl (cc rfl rfl rfl) ?_
 refine yN ?_
 dsimp only [St.put]
 refine K5 _ ?_
 refine yS fun _ K6 => ?_
 refine am rfl (fun hc => ?_) (fun hc => ?_)
 ·replace hc := of_decide_eq_true hc
  obtain ⟨z, hz⟩ : ∃ z, l[k]? = some z := dc (by omega)
  have h1 := ua3 (m := 1000000000) (by omega) hb k (by omega)
  have h2 := hb z (fw hz)
  refine av ?_
  refine K6 _ ?_
  refine yS fun _ K7 => ?_
  refine ba ?_
  refine yS fun _ K8 => ?_
  refine yR ?_
  refine aa rfl (bq rfl rfl rfl rfl (bn (by assumption)) (Enc.len _)) ?_
  refine yL rfl rfl rfl ?_
  refine yA rfl rfl ?_
  refine yN ?_
  dsimp only [St.put]
  refine K8 _ ?_
  refine yR ?_
  refine yM rfl rfl ?_
  refine yM rfl rfl ?_
  refine aa rfl (br rfl rfl rfl (by omega)) ?_
  refine yA rfl rfl ?_
  refine yN ?_
  dsimp only [St.put]
  refine K7 _ ?_
  refine yR ?_
  refine aa rfl (br rfl rfl rfl (by omega)) ?_
  refine yM rfl rfl ?_
  refine yN ?_
  dsimp only [St.put]
  rw [← ua2 hz]
  exact ⟨k + 1, by omega, by omega, ⟨⟨rfl, rfl⟩, zF, zB, zN, zX⟩⟩
 replace hc := of_decide_eq_false hc
 refine ct ?_
 refine K3 _ ?_
 refine yS fun _ K9 => ?_
 refine yR ?_
 refine yM rfl rfl ?_
 refine yA rfl rfl ?_
 refine yN ?_
 dsimp only [St.put]
 refine K9 _ ?_
 refine ar ?_
 refine az rfl (by constructor) zN zS ?_
 exact vi (by rw [fp (show l.length ≤ k by omega)])
theorem n5 (l : List Int) (n : Int) (hl : l.length ≤ 100) : Pure Tryz.prog 36 [lst l, .v (.int .i64 n)] (.v (.bool (decide (n ∈ l)))) := by
 refine cr Tryz.func36 rfl (fun m => .v) fun G nx => ?_
 simp only [Tryz.ntmps36, List.length_cons, List.length_nil, Nat.reduceAdd, Nat.reduceSub]
 refine bv fun hlt => ?_
 dsimp only at hlt
 refine yS fun _ K1 => ?_
 refine yR ?_
 refine yA rfl rfl ?_
 refine yN ?_
 dsimp only [St.put]
 refine K1 _ ?_
 refine yS fun _ K2 => ?_
 refine yS fun _ K3 => ?_
 refine yR ?_
 refine yM rfl rfl ?_
 refine aa rfl (bh rfl rfl (List.length_map _)) ?_
 refine yM rfl rfl ?_
 refine yN ?_
 dsimp only [St.put]
 refine K3 _ ?_
 refine ba ?_
 refine cd 10 ?_
 refine zQ ?_
 refine cz (G) zX ?_
 dsimp only
 refine cy (X := Nat) (fun k => k ≤ l.length ∧ n ∉ l.take k) (fun k => l.length - k) (fun k => [(6, .any), (9, .v (.int .i64 (k : Int)))]) (fun k G' => G') 0 rfl ?_ ?_ (fun _ _ h => h) ?_ ?_ ?_
 ·exact ⟨Nat.zero_le _, by simp⟩
 ·exact zF
 ·rintro k hI
  exact zL
 ·exact fun _ _ _ _ h => .inl h
 rintro k hI
 dsimp only at hI ⊢
 refine yS fun _ K4 => ?_
 refine yR ?_
 refine aa rfl (cc rfl rfl rfl) ?_
 refine yN ?_
 dsimp only [St.put]
 refine K4 _ ?_
 refine yS fun _ K5 => ?_
 refine am rfl (fun hc => ?_) (fun hc => ?_)
 ·replace hc := of_decide_eq_true hc
  obtain ⟨z, hz⟩ : ∃ z, l[k]? = some z := dc (by omega)
  refine av ?_
  refine K5 _ ?_
  refine yS fun _ K6 => ?_
  refine ba ?_
  refine yS fun _ K7 => ?_
  refine yR ?_
  refine aa rfl (bq rfl rfl rfl rfl (bn (by assumption)) (Enc.len _)) ?_
  refine yL rfl rfl rfl ?_
  refine yA rfl rfl ?_
  refine yN ?_
  dsimp only [St.put]
  refine K7 _ ?_
  refine yS fun _ K8 => ?_
  refine yR ?_
  refine yM rfl rfl ?_
  refine yM rfl rfl ?_
  refine aa rfl (ff rfl rfl rfl) ?_
  refine yN ?_
  dsimp only [St.put]
  refine K8 _ ?_
  refine am rfl (fun hc => ?_) (fun hc => ?_)
  ·have heq := of_decide_eq_true hc
   refine yS fun _ K9 => ?_
   refine yR ?_
   refine yA rfl rfl ?_
   refine yN ?_
   dsimp only [St.put]
   refine K9 _ ?_
   refine ar ?_
   refine az rfl (by constructor) zN zS ?_
   exact vb (decide_eq_true (by rw [← heq]; exact fw hz)).symm
  have hne := of_decide_eq_false hc
  refine av ?_
  refine K6 _ ?_
  refine yR ?_
  refine aa rfl (br rfl rfl rfl (by omega)) ?_
  refine yM rfl rfl ?_
  refine yN ?_
  dsimp only [St.put]
  exact ⟨k + 1, by omega, ⟨by omega, by rw [uk4 hz]; rintro (h | h); exact hI.2 h; exact hne h.symm⟩, ⟨⟨rfl, rfl⟩, zF, zB, zN, zX⟩⟩
 replace hc := of_decide_eq_false hc
 refine ct ?_
 refine K2 _ ?_
 refine yS fun _ K10 => ?_
 refine yR ?_
 refine yA rfl rfl ?_
 refine yN ?_
 dsimp only [St.put]
 refine K10 _ ?_
 refine ar ?_
 refine az rfl (by constructor) zN zS ?_
 exact vb (decide_eq_false (by
  have := hI.2
  rwa [fp (show l.length ≤ k by omega)] at this)).symm
theorem uly (n : Nat) (p : af) (h : cg p = 0) : er n eo Tryz.prog 27 [val p] (.tup [lst (bg p.pages.length (ck p)), .v (.bool true)]) := fun G nx hF hnx => by
 refine g7 (G) (nx) Tryz.func27 rfl (.tup (cb (bu _ _) (cb .v da))) zN (fun hlt => zH) ?_
 simp only [Tryz.ntmps27, List.length_cons, List.length_nil, Nat.reduceAdd, Nat.reduceSub]
 refine bv fun hlt => ?_
 dsimp only at hlt
 have hnp := (lh h).1.np
 refine yS fun _ K1 => ?_
 refine yR ?_
 try dsimp only [St.put]
 refine yB rfl rfl rfl ?_
 refine yA rfl rfl ?_
 refine yA rfl rfl ?_
 refine yN ?_
 dsimp only [St.put]
 refine K1 _ ?_
 refine yS fun _ K2 => ?_
 refine yR ?_
 refine yA rfl rfl ?_
 refine yN ?_
 dsimp only [St.put]
 refine K2 _ ?_
 refine ng 4 3 1 rfl (by decide) ?_
 dsimp only [List.set_cons_zero, List.set_cons_succ]
 refine yS fun _ K3 => ?_
 refine yS fun _ K4 => ?_
 refine yR ?_
 refine yF rfl rfl rfl rfl ?_
 refine yL rfl rfl rfl ?_
 refine aa rfl (bh rfl rfl (List.length_map _)) ?_
 refine yM rfl rfl ?_
 refine yN ?_
 dsimp only [St.put]
 refine K4 _ ?_
 refine ba ?_
 refine cd 12 ?_
 refine zQ ?_
 refine cz ((ak G nx (.tip (bg 0 (ck p)).length 3 1))) zX ?_
 dsimp only
 refine cy (X := Nat) (fun k => k ≤ p.pages.length) (fun k => p.pages.length - k) (fun k => [(4, .list ((bg k (ck p)).map cells) (.tip nx)), (5, .any), (6, .any), (7, .any), (11, .v (.int .i64 (k : Int)))]) (fun k G' => (ak G nx (.tip (bg k (ck p)).length 3 1))) 0 rfl ?_ ?_ ?_ ?_ ?_ ?_
 ·exact Nat.zero_le _
 ·exact zF
 ·exact zX
 ·rintro k hI
  exact zL
 ·rintro k hI
  exact zH
 rintro k hI
 dsimp only at hI ⊢
 refine yS fun _ K5 => ?_
 refine yR ?_
 refine aa rfl (cc rfl rfl rfl) ?_
 refine yN ?_
 dsimp only [St.put]
 refine K5 _ ?_
 refine yS fun _ K6 => ?_
 refine am rfl (fun hc => ?_) (fun hc => ?_)
 ·replace hc := of_decide_eq_true hc
  obtain ⟨x, hx⟩ : ∃ x, p.pages[k]? = some x := dc (by omega)
  have e := pk k (ck p)
  rw [show ck p k = ((dl p.text x).length : Int) from mx hx _] at e
  have hll := gq k (ck p)
  refine av ?_
  refine K6 _ ?_
  refine yS fun _ K7 => ?_
  refine ba ?_
  refine yS fun _ K8 => ?_
  refine yR ?_
  refine yM rfl rfl ?_
  refine yA rfl rfl ?_
  refine yN ?_
  dsimp only [St.put]
  refine K8 _ ?_
  refine yS fun _ K9 => ?_
  refine yR ?_
  refine yE rfl rfl rfl ?_
  refine yM rfl rfl ?_
  try dsimp only [St.put]
  refine ae rfl ((dw rfl rfl rfl ((ulz n h hx)) zG (by dsimp only [St.put]; omega) ?_))
  refine yM rfl rfl ?_
  refine yX rfl rfl rfl rfl ?_
  refine yX rfl rfl rfl rfl ?_
  refine yA rfl rfl ?_
  refine yA rfl rfl ?_
  refine yN ?_
  dsimp only [St.put]
  refine K9 _ ?_
  refine yS fun _ K10 => ?_
  refine yS fun _ K11 => ?_
  refine yR ?_
  refine yM rfl rfl ?_
  refine aa rfl (ed (c := false) (fe rfl rfl rfl) (th rfl)) ?_
  refine yN ?_
  dsimp only [St.put]
  refine K11 _ ?_
  refine am rfl (fun h => by cases h) (fun _ => ?_)
  refine av ?_
  refine K10 _ ?_
  refine yR ?_
  refine yM rfl rfl ?_
  refine yM rfl rfl ?_
  refine aa rfl (bh rfl rfl (List.length_map _)) ?_
  try dsimp only [St.put]
  refine ae rfl (di rfl rfl rfl (by decide) (by decide) zR (by decide) ?_)
  try dsimp only [St.put]
  refine ae rfl (ja ([((dl p.text x).length : Int)]) rfl rfl zG zE rfl rfl zA ?_ zA)
  refine yA rfl rfl ?_
  refine yN ?_
  dsimp only [St.put]
  refine K7 _ ?_
  refine yR ?_
  refine aa rfl (br rfl rfl rfl (by omega)) ?_
  refine yM rfl rfl ?_
  refine yN ?_
  dsimp only [St.put]
  rw [← e]
  exact ⟨k + 1, by omega, by omega, ⟨⟨rfl, rfl⟩, zF, zB, zN, zX⟩⟩
 replace hc := of_decide_eq_false hc
 obtain rfl : k = p.pages.length := by omega
 refine ct ?_
 refine K3 _ ?_
 refine yS fun _ K12 => ?_
 refine yR ?_
 refine yM rfl rfl ?_
 refine yA rfl rfl ?_
 refine yA rfl rfl ?_
 refine yN ?_
 dsimp only [St.put]
 refine K12 _ ?_
 refine ar ?_
 refine gz rfl (dz (by constructor)) (dz (by constructor)) zN zS ?_ ?_
 ·exact zW
 exact zW
theorem ulv (n : Nat) (p : af) (h : fg p (cg p) = 0) : er n eo Tryz.prog 13 [val p] (.tup [val (⟨0, l5 p⟩ : bi), .v (.int .i64 0)]) := by
 have := yj n p
 rwa [h, show ow p = ⟨0, l5 p⟩ by unfold ow; rw [h]; rfl] at this
end Go.Proofs.YtbbdginipiljdaaGreatDoor
namespace Go.PB
/-- what is told of all pages and readers -/
structure r9 where
 words : List Int
 told : List Int
 firsts : List Int
 seconds : List Int
end Go.PB
namespace Go.AB
open Go Go.RowKit
open Go.AB.Enc (cells)
open Go.PB (aw ai PlaceD bc bf bd bp aq af ci bi c4 c7 r9)
instance : Enc r9 := ⟨fun x => [lst x.words, lst x.told, lst x.firsts, lst x.seconds], 4, fun _ => rfl, fun m x c h => by
 simp only [List.mem_cons, List.not_mem_nil, or_false] at h
 rcases h with rfl | rfl | rfl | rfl
 ·exact bu m _
 ·exact bu m _
 ·exact bu m _
 ·exact bu m _, fun x c h => by
 simp only [List.mem_cons, List.not_mem_nil, or_false] at h; rcases h with rfl | rfl | rfl | rfl <;> rfl⟩
def rg (p : af) : r9 := ⟨bg p.pages.length (fy p), bg p.pages.length (ck p), bg p.firsts.length (cx p false), bg p.seconds.length (cx p true)⟩
theorem Rs.wk {E : Env} {w : World} : ∀ {cs cs' : List C} {vs : List Value}, Wks cs cs' → Rs E w cs vs → Rs E w cs' vs := fun {cs cs' vs} hw h =>
 ⟨hw.len ▸ h.1, fun j c v hj hv => by
  obtain ⟨c0, h1, h2⟩ := hw.get j c hj
  exact h2.2 _ _ _ (h.2 j c0 v h1 hv)⟩
theorem Pure.wk {P : Program} {f : FuncId} {al bl : List C} {r : C} (h : Pure P f bl r) (hw : Wks al bl) : Pure P f al r := fun G nx E w vs h3 h4 => h G nx E w vs (h3.wk hw) h4
theorem ujo {p : af} (h : d7 p) (F S but : List Int) (j : Nat) : -1200 ≤ bx p F S but j ∧ bx p F S but j ≤ 1200 := by
 have h1 := uaz h j
 have h2 := uff h j
 unfold bx kb
 unfold ck kb at h1
 unfold c6 kb at h2
 cases hx : p.pages[j]? with
 | none => show (-1200 : Int) ≤ 0 ∧ (0 : Int) ≤ 1200; omega
 | some x =>
  rw [hx] at h1 h2
  dsimp only at h1 h2 ⊢
  cases !decide (x.fst ∈ F) && !decide (x.snd ∈ S) && !decide ((j : Int) ∈ but) <;> cases decide (x.fst ∈ F) <;> cases decide (x.snd ∈ S) <;> simp only [cond_true, cond_false] <;> omega
theorem ua4 {p : af} (h : d7 p) (F S but : List Int) (k : Nat) (hk : k ≤ 8) : -9600 ≤ sm k (bx p F S but) ∧ sm k (bx p F S but) ≤ 9600 := by
 have := u9 (g := bx p F S but) (m := 1200) (fun j => ujo h F S but j) k
 omega
theorem em (k : Nat) (g : Nat → Int) : sm (k + 1) g = sm k g + g k := rfl
theorem ud1 {l : List Int} {g : Int → Int} {k : Nat} {z : Int} (h : l[k]? = some z) : ie (l.take (k + 1)) g = ie (l.take k) g + g z := by
 rw [List.take_add_one, h, Option.toList_some, ud2]
theorem wj {g : Int → Int} (hg : ∀ z, 0 ≤ g z ∧ g z ≤ 48000) : ∀ l : List Int, 0 ≤ ie l g ∧ ie l g ≤ l.length * 48000
 | [] => by simp [ie]
 | z :: l => by
  have ih := wj hg l
  have := hg z
  have e : ie (z :: l) g = g z + ie l g := by simp [ie]
  have e2 : ((z :: l).length : Int) * 48000 = (l.length : Int) * 48000 + 48000 := by rw [List.length_cons, Int.natCast_add, Int.add_mul]; simp
  omega
end Go.AB
namespace Go.Proofs.YtbbdginipiljdaaGreatDoor
set_option maxRecDepth 10000
open Go Go.RowKit Go.AB
open Go.AB.Enc (cells)
open Go.PB (aw ai PlaceD bc bf bd bp aq af ci bi c4 c7 r9)
theorem udy (n : Nat) (p : af) (b : Bool) (h : cg p = 0) {i : Nat} (hi : i < (dj p b).length) : er n eo Tryz.prog 29 [val p, .v (.bool b), .v (.int .i64 (i : Int))] (.tup [.v (.int .i64 (cx p b i)), .v (.int .i64 0)]) := by
 have := uck n p b (i : Int)
 have e : jv p b (i : Int) = 0 := by
  unfold jv
  rw [decide_eq_true h, cond_true, inB_true.2 (by omega)]; rfl
 rwa [e, show ml p b (i : Int) = cx p b i by unfold ml; rw [e, Int.toNat_natCast]; rfl] at this
set_option maxHeartbeats 2000000 in
theorem ul2 (n : Nat) (p : af) (h : cg p = 0) : er n eo Tryz.prog 31 [val p] (.tup [val (rg p), .v (.bool true)]) := fun G nx hF hnx => by
 refine g7 (G) (nx) Tryz.func31 rfl (.tup (cb (ec _ _) (cb .v da))) zN (fun hlt => zH) ?_
 simp only [Tryz.ntmps31, List.length_cons, List.length_nil, Nat.reduceAdd, Nat.reduceSub]
 refine bv fun hlt => ?_
 dsimp only at hlt
 have hok := (lh h).1
 have hn1 := hok.nf
 have hn2 := hok.ns
 have hnp := hok.np
 have hal := ni hok.text
 have hs1 : (dj p false).length = p.firsts.length := rfl
 have hs2 : (dj p true).length = p.seconds.length := rfl
 refine yS fun _ K1 => ?_
 refine yR ?_
 try dsimp only [St.put]
 refine yB rfl rfl rfl ?_
 try dsimp only [St.put]
 refine ae rfl (dn rfl ?_)
 refine yA rfl rfl ?_
 refine yN ?_
 dsimp only [St.put]
 refine K1 _ ?_
 refine yS fun _ K2 => ?_
 refine yR ?_
 try dsimp only [St.put]
 refine ae rfl (dn rfl ?_)
 refine yN ?_
 dsimp only [St.put]
 refine K2 _ ?_
 refine oo (nx + 1) 0 _ _ 3 1 zG rfl (by decide) ?_
 refine oo (nx + 1) 2 _ _ 3 1 zG rfl (by decide) ?_
 refine oo (nx + 1) 3 _ _ 3 1 zG rfl (by decide) ?_
 dsimp only [List.set_cons_zero, List.set_cons_succ]
 refine yS fun _ K3 => ?_
 refine yR ?_
 refine yE rfl rfl rfl ?_
 try dsimp only [St.put]
 refine ae rfl ((dw rfl rfl rfl ((uly n p h)) zG (by dsimp only [St.put]; omega) ?_))
 refine yM rfl rfl ?_
 refine yX rfl rfl rfl rfl ?_
 refine yX rfl rfl rfl rfl ?_
 refine yA rfl rfl ?_
 refine yA rfl rfl ?_
 refine yN ?_
 dsimp only [St.put]
 refine K3 _ ?_
 refine yS fun _ K4 => ?_
 refine yS fun _ K5 => ?_
 refine yR ?_
 refine yM rfl rfl ?_
 refine aa rfl (dq rfl rfl) ?_
 refine yN ?_
 dsimp only [St.put]
 refine K5 _ ?_
 refine am rfl (fun h => by cases h) (fun _ => ?_)
 refine av ?_
 refine K4 _ ?_
 refine yS fun _ K6 => ?_
 refine yR ?_
 refine yM rfl rfl ?_
 refine aa rfl (d9 rfl rfl) ?_
 try dsimp only [St.put]
 refine ae rfl (jh rfl rfl rfl zG (by constructor) rfl (by show 1 < 4; decide) ?_)
 refine yN ?_
 dsimp only [St.put]
 refine K6 _ ?_
 refine yS fun _ K7 => ?_
 refine yS fun _ K8 => ?_
 refine yR ?_
 refine yF rfl rfl rfl rfl ?_
 refine yL rfl rfl rfl ?_
 refine aa rfl (bh rfl rfl (List.length_map _)) ?_
 refine yM rfl rfl ?_
 refine yN ?_
 dsimp only [St.put]
 refine K8 _ ?_
 refine ba ?_
 refine cd 30 ?_
 refine zQ ?_
 refine cz ((ak (ak (ak (ak (ak G nx (.box 0 [.list [] .nil, .list [] .nil, .list [] .nil, .list [] .nil])) (nx + 1) (.box (1) [.list ((bg 0 (fy p)).map cells) (.tip (nx + 1 + 1)), lst (bg p.pages.length (ck p)), .list ((bg 0 (cx p false)).map cells) (.tip (nx + 1 + 1 + 1)), .list ((bg 0 (cx p true)).map cells) (.tip (nx + 1 + 1 + 1 + 1))])) (nx + 1 + 1) (.tip (bg 0 (fy p)).length 3 1)) (nx + 1 + 1 + 1) (.tip (bg 0 (cx p false)).length 3 1)) (nx + 1 + 1 + 1 + 1) (.tip (bg 0 (cx p true)).length 3 1))) zX ?_
 dsimp only
 refine cy (X := Nat) (fun k => k ≤ p.pages.length) (fun k => p.pages.length - k) (fun k => [(7, .any), (8, .any), (9, .any), (29, .v (.int .i64 (k : Int)))]) (fun k G' => (ak (ak (ak (ak (ak G nx (.box 0 [.list [] .nil, .list [] .nil, .list [] .nil, .list [] .nil])) (nx + 1) (.box ((1 + k)) [.list ((bg k (fy p)).map cells) (.tip (nx + 1 + 1)), lst (bg p.pages.length (ck p)), .list ((bg 0 (cx p false)).map cells) (.tip (nx + 1 + 1 + 1)), .list ((bg 0 (cx p true)).map cells) (.tip (nx + 1 + 1 + 1 + 1))])) (nx + 1 + 1) (.tip (bg k (fy p)).length 3 1)) (nx + 1 + 1 + 1) (.tip (bg 0 (cx p false)).length 3 1)) (nx + 1 + 1 + 1 + 1) (.tip (bg 0 (cx p true)).length 3 1))) 0 rfl ?_ ?_ ?_ ?_ ?_ ?_
 ·exact Nat.zero_le _
 ·exact zF
 ·exact zX
 ·rintro k hI
  exact zL
 ·rintro k hI
  exact zH
 rintro k hI
 dsimp only at hI ⊢
 refine yS fun _ K9 => ?_
 refine yR ?_
 refine aa rfl (cc rfl rfl rfl) ?_
 refine yN ?_
 dsimp only [St.put]
 refine K9 _ ?_
 refine yS fun _ K10 => ?_
 refine am rfl (fun hc => ?_) (fun hc => ?_)
 ·replace hc := of_decide_eq_true hc
  obtain ⟨x, hx⟩ : ∃ x, p.pages[k]? = some x := dc (by omega)
  have e := pk k (fy p)
  rw [show fy p k = (el p.text x : Int) from mx hx _] at e
  have hll := gq k (fy p)
  have hwx := si p.text x
  refine av ?_
  refine K10 _ ?_
  refine yS fun _ K11 => ?_
  refine ba ?_
  refine yS fun _ K12 => ?_
  refine yR ?_
  refine yM rfl rfl ?_
  refine yA rfl rfl ?_
  refine yN ?_
  dsimp only [St.put]
  refine K12 _ ?_
  refine yS fun _ K13 => ?_
  refine yR ?_
  refine yE rfl rfl rfl ?_
  refine yM rfl rfl ?_
  try dsimp only [St.put]
  refine ae rfl ((dw rfl rfl rfl ((ulu n h hx)) zG (by dsimp only [St.put]; omega) ?_))
  refine yM rfl rfl ?_
  refine yX rfl rfl rfl rfl ?_
  refine yX rfl rfl rfl rfl ?_
  refine yA rfl rfl ?_
  refine yA rfl rfl ?_
  refine yN ?_
  dsimp only [St.put]
  refine K13 _ ?_
  refine yS fun _ K14 => ?_
  refine yS fun _ K15 => ?_
  refine yR ?_
  refine yM rfl rfl ?_
  refine aa rfl (ed (c := false) (fe rfl rfl rfl) (th rfl)) ?_
  refine yN ?_
  dsimp only [St.put]
  refine K15 _ ?_
  refine am rfl (fun h => by cases h) (fun _ => ?_)
  refine av ?_
  refine K14 _ ?_
  refine yR ?_
  refine aa rfl (d9 rfl rfl) ?_
  try dsimp only [St.put]
  refine bz rfl (fk rfl rfl zG trivial (by first | rfl | assumption)) ?_
  refine yM rfl rfl ?_
  try dsimp only [St.put]
  refine ae rfl (di rfl rfl rfl (by decide) (by decide) zR (by decide) ?_)
  try dsimp only [St.put]
  refine ae rfl (ja ([(el p.text x : Int)]) rfl rfl zG zE rfl rfl zA ?_ zA)
  refine aa rfl (d9 rfl rfl) ?_
  try dsimp only [St.put]
  refine ae rfl (jh rfl rfl rfl zG (by constructor) rfl zO ?_)
  refine yN ?_
  dsimp only [St.put]
  refine K11 _ ?_
  refine yR ?_
  refine aa rfl (br rfl rfl rfl (by omega)) ?_
  refine yM rfl rfl ?_
  refine yN ?_
  dsimp only [St.put]
  rw [← e]
  exact ⟨k + 1, by omega, by omega, ⟨⟨rfl, rfl⟩, zF, zB, zN, zX⟩⟩
 replace hc := of_decide_eq_false hc
 obtain rfl : k = p.pages.length := by omega
 refine ct ?_
 refine K7 _ ?_
 refine yS fun _ K16 => ?_
 refine yS fun _ K17 => ?_
 refine yR ?_
 refine yF rfl rfl rfl rfl ?_
 refine yL rfl rfl rfl ?_
 refine aa rfl (bh rfl rfl (List.length_map _)) ?_
 refine yM rfl rfl ?_
 refine yN ?_
 dsimp only [St.put]
 refine K17 _ ?_
 refine ba ?_
 refine cd 52 ?_
 refine zQ ?_
 refine cz ((ak (ak (ak (ak (ak G nx (.box 0 [.list [] .nil, .list [] .nil, .list [] .nil, .list [] .nil])) (nx + 1) (.box ((1 + p.pages.length)) [.list ((bg p.pages.length (fy p)).map cells) (.tip (nx + 1 + 1)), lst (bg p.pages.length (ck p)), .list ((bg 0 (cx p false)).map cells) (.tip (nx + 1 + 1 + 1)), .list ((bg 0 (cx p true)).map cells) (.tip (nx + 1 + 1 + 1 + 1))])) (nx + 1 + 1) (.tip (bg p.pages.length (fy p)).length 3 1)) (nx + 1 + 1 + 1) (.tip (bg 0 (cx p false)).length 3 1)) (nx + 1 + 1 + 1 + 1) (.tip (bg 0 (cx p true)).length 3 1))) zX ?_
 dsimp only
 refine cy (X := Nat) (fun i => i ≤ p.firsts.length) (fun i => p.firsts.length - i) (fun i => [(10, .any), (11, .any), (12, .any), (51, .v (.int .i64 (i : Int)))]) (fun i G' => (ak (ak (ak (ak (ak G nx (.box 0 [.list [] .nil, .list [] .nil, .list [] .nil, .list [] .nil])) (nx + 1) (.box ((1 + p.pages.length + i)) [.list ((bg p.pages.length (fy p)).map cells) (.tip (nx + 1 + 1)), lst (bg p.pages.length (ck p)), .list ((bg i (cx p false)).map cells) (.tip (nx + 1 + 1 + 1)), .list ((bg 0 (cx p true)).map cells) (.tip (nx + 1 + 1 + 1 + 1))])) (nx + 1 + 1) (.tip (bg p.pages.length (fy p)).length 3 1)) (nx + 1 + 1 + 1) (.tip (bg i (cx p false)).length 3 1)) (nx + 1 + 1 + 1 + 1) (.tip (bg 0 (cx p true)).length 3 1))) 0 rfl ?_ ?_ ?_ ?_ ?_ ?_
 ·exact Nat.zero_le _
 ·exact zF
 ·exact zX
 ·rintro i hI
  exact zL
 ·rintro i hI
  exact zH
 rintro i hJ
 dsimp only at hJ ⊢
 refine yS fun _ K18 => ?_
 refine yR ?_
 refine aa rfl (cc rfl rfl rfl) ?_
 refine yN ?_
 dsimp only [St.put]
 refine K18 _ ?_
 refine yS fun _ K19 => ?_
 refine am rfl (fun hc => ?_) (fun hc => ?_)
 ·replace hc := of_decide_eq_true hc
  have e := pk i (cx p false)
  have hll := gq i (cx p false)
  have hbb := om hok false i
  refine av ?_
  refine K19 _ ?_
  refine yS fun _ K20 => ?_
  refine ba ?_
  refine yS fun _ K21 => ?_
  refine yR ?_
  refine yM rfl rfl ?_
  refine yA rfl rfl ?_
  refine yN ?_
  dsimp only [St.put]
  refine K21 _ ?_
  refine yS fun _ K22 => ?_
  refine yR ?_
  refine yE rfl rfl rfl ?_
  refine yM rfl rfl ?_
  try dsimp only [St.put]
  refine ae rfl ((dw rfl rfl rfl ((udy n p false h (i := i) (by omega))) zG (by dsimp only [St.put]; omega) ?_))
  refine yM rfl rfl ?_
  refine yX rfl rfl rfl rfl ?_
  refine yX rfl rfl rfl rfl ?_
  refine yA rfl rfl ?_
  refine yA rfl rfl ?_
  refine yN ?_
  dsimp only [St.put]
  refine K22 _ ?_
  refine yS fun _ K23 => ?_
  refine yS fun _ K24 => ?_
  refine yR ?_
  refine yM rfl rfl ?_
  refine aa rfl (ed (c := false) (fe rfl rfl rfl) (th rfl)) ?_
  refine yN ?_
  dsimp only [St.put]
  refine K24 _ ?_
  refine am rfl (fun h => by cases h) (fun _ => ?_)
  refine av ?_
  refine K23 _ ?_
  refine yR ?_
  refine aa rfl (d9 rfl rfl) ?_
  try dsimp only [St.put]
  refine bz rfl (fk rfl rfl zG trivial (by first | rfl | assumption)) ?_
  refine yM rfl rfl ?_
  try dsimp only [St.put]
  refine ae rfl (di rfl rfl rfl (by decide) (by decide) zR (by decide) ?_)
  try dsimp only [St.put]
  refine ae rfl (ja ([cx p false i]) rfl rfl zG zE rfl rfl zA ?_ zA)
  refine aa rfl (d9 rfl rfl) ?_
  try dsimp only [St.put]
  refine ae rfl (jh rfl rfl rfl zG (by constructor) rfl zO ?_)
  refine yN ?_
  dsimp only [St.put]
  refine K20 _ ?_
  refine yR ?_
  refine aa rfl (br rfl rfl rfl (by omega)) ?_
  refine yM rfl rfl ?_
  refine yN ?_
  dsimp only [St.put]
  rw [← e]
  exact ⟨i + 1, by omega, by omega, ⟨⟨rfl, rfl⟩, zF, zB, zN, zX⟩⟩
 replace hc := of_decide_eq_false hc
 obtain rfl : i = p.firsts.length := by omega
 refine ct ?_
 refine K16 _ ?_
 refine yS fun _ K25 => ?_
 refine yS fun _ K26 => ?_
 refine yR ?_
 refine yF rfl rfl rfl rfl ?_
 refine yL rfl rfl rfl ?_
 refine aa rfl (bh rfl rfl (List.length_map _)) ?_
 refine yM rfl rfl ?_
 refine yN ?_
 dsimp only [St.put]
 refine K26 _ ?_
 refine ba ?_
 refine cd 74 ?_
 refine zQ ?_
 refine cz ((ak (ak (ak (ak (ak G nx (.box 0 [.list [] .nil, .list [] .nil, .list [] .nil, .list [] .nil])) (nx + 1) (.box ((1 + p.pages.length + p.firsts.length)) [.list ((bg p.pages.length (fy p)).map cells) (.tip (nx + 1 + 1)), lst (bg p.pages.length (ck p)), .list ((bg p.firsts.length (cx p false)).map cells) (.tip (nx + 1 + 1 + 1)), .list ((bg 0 (cx p true)).map cells) (.tip (nx + 1 + 1 + 1 + 1))])) (nx + 1 + 1) (.tip (bg p.pages.length (fy p)).length 3 1)) (nx + 1 + 1 + 1) (.tip (bg p.firsts.length (cx p false)).length 3 1)) (nx + 1 + 1 + 1 + 1) (.tip (bg 0 (cx p true)).length 3 1))) zX ?_
 dsimp only
 refine cy (X := Nat) (fun j => j ≤ p.seconds.length) (fun j => p.seconds.length - j) (fun j => [(13, .any), (14, .any), (15, .any), (73, .v (.int .i64 (j : Int)))]) (fun j G' => (ak (ak (ak (ak (ak G nx (.box 0 [.list [] .nil, .list [] .nil, .list [] .nil, .list [] .nil])) (nx + 1) (.box ((1 + p.pages.length + p.firsts.length + j)) [.list ((bg p.pages.length (fy p)).map cells) (.tip (nx + 1 + 1)), lst (bg p.pages.length (ck p)), .list ((bg p.firsts.length (cx p false)).map cells) (.tip (nx + 1 + 1 + 1)), .list ((bg j (cx p true)).map cells) (.tip (nx + 1 + 1 + 1 + 1))])) (nx + 1 + 1) (.tip (bg p.pages.length (fy p)).length 3 1)) (nx + 1 + 1 + 1) (.tip (bg p.firsts.length (cx p false)).length 3 1)) (nx + 1 + 1 + 1 + 1) (.tip (bg j (cx p true)).length 3 1))) 0 rfl ?_ ?_ ?_ ?_ ?_ ?_
 ·exact Nat.zero_le _
 ·exact zF
 ·exact zX
 ·rintro j hI
  exact zL
 ·rintro j hI
  exact zH
 rintro j hM
 dsimp only at hM ⊢
 refine yS fun _ K27 => ?_
 refine yR ?_
 refine aa rfl (cc rfl rfl rfl) ?_
 refine yN ?_
 dsimp only [St.put]
 refine K27 _ ?_
 refine yS fun _ K28 => ?_
 refine am rfl (fun hc => ?_) (fun hc => ?_)
 ·replace hc := of_decide_eq_true hc
  have e := pk j (cx p true)
  have hll := gq j (cx p true)
  have hbb := om hok true j
  refine av ?_
  refine K28 _ ?_
  refine yS fun _ K29 => ?_
  refine ba ?_
  refine yS fun _ K30 => ?_
  refine yR ?_
  refine yM rfl rfl ?_
  refine yA rfl rfl ?_
  refine yN ?_
  dsimp only [St.put]
  refine K30 _ ?_
  refine yS fun _ K31 => ?_
  refine yR ?_
  refine yE rfl rfl rfl ?_
  refine yM rfl rfl ?_
  try dsimp only [St.put]
  refine ae rfl ((dw rfl rfl rfl ((udy n p true h (i := j) (by omega))) zG (by dsimp only [St.put]; omega) ?_))
  refine yM rfl rfl ?_
  refine yX rfl rfl rfl rfl ?_
  refine yX rfl rfl rfl rfl ?_
  refine yA rfl rfl ?_
  refine yA rfl rfl ?_
  refine yN ?_
  dsimp only [St.put]
  refine K31 _ ?_
  refine yS fun _ K32 => ?_
  refine yS fun _ K33 => ?_
  refine yR ?_
  refine yM rfl rfl ?_
  refine aa rfl (ed (c := false) (fe rfl rfl rfl) (th rfl)) ?_
  refine yN ?_
  dsimp only [St.put]
  refine K33 _ ?_
  refine am rfl (fun h => by cases h) (fun _ => ?_)
  refine av ?_
  refine K32 _ ?_
  refine yR ?_
  refine aa rfl (d9 rfl rfl) ?_
  try dsimp only [St.put]
  refine bz rfl (fk rfl rfl zG trivial (by first | rfl | assumption)) ?_
  refine yM rfl rfl ?_
  try dsimp only [St.put]
  refine ae rfl (di rfl rfl rfl (by decide) (by decide) zR (by decide) ?_)
  try dsimp only [St.put]
  refine ae rfl (ja ([cx p true j]) rfl rfl zG zE rfl rfl zA ?_ zA)
  refine aa rfl (d9 rfl rfl) ?_
  try dsimp only [St.put]
  refine ae rfl (jh rfl rfl rfl zG (by constructor) rfl zO ?_)
  refine yN ?_
  dsimp only [St.put]
  refine K29 _ ?_
  refine yR ?_
  refine aa rfl (br rfl rfl rfl (by omega)) ?_
  refine yM rfl rfl ?_
  refine yN ?_
  dsimp only [St.put]
  rw [← e]
  exact ⟨j + 1, by omega, by omega, ⟨⟨rfl, rfl⟩, zF, zB, zN, zX⟩⟩
 replace hc := of_decide_eq_false hc
 obtain rfl : j = p.seconds.length := by omega
 refine w9 (nx + 1) (1 + p.pages.length + p.firsts.length + p.seconds.length) (cells (rg p)) zG zW ?_
 refine ct ?_
 refine K25 _ ?_
 refine yS fun _ K34 => ?_
 refine yR ?_
 try dsimp only [St.put]
 refine bz rfl (iu rfl rfl zG trivial (by rfl)) ?_
 try dsimp only [St.put]
 refine ae rfl (c5 rfl rfl rfl zG rfl rfl (by rfl) ?_)
 refine yA rfl rfl ?_
 refine yN ?_
 dsimp only [St.put]
 refine K34 _ ?_
 refine ar ?_
 refine gz rfl (jx rfl zG (by rfl) zC rfl) (dz (by constructor)) zN zS ?_ ?_
 ·exact zW
 exact zW
set_option maxHeartbeats 2000000 in
theorem ulx (p : af) (F S but : List Int) (h : d7 p) (hF : ∀ z ∈ F, 0 ≤ z ∧ z < (p.firsts.length : Int)) (hS : ∀ z ∈ S, 0 ≤ z ∧ z < (p.seconds.length : Int)) (lF : F.length ≤ 20) (lS : S.length ≤ 20) (lB : but.length ≤ 20) : Pure Tryz.prog 32 [val (rg p), val p, lst F, lst S, lst but] (.v (.int .i64 (nz p F S but))) := by
 refine cr Tryz.func32 rfl (fun m => .v) fun G nx => ?_
 simp only [Tryz.ntmps32, List.length_cons, List.length_nil, Nat.reduceAdd, Nat.reduceSub]
 refine bv fun hlt => ?_
 dsimp only at hlt
 have hnp := h.np
 have hl1 := gq p.pages.length (fy p)
 have hl2 := gq p.pages.length (ck p)
 have hl3 := gq p.firsts.length (cx p false)
 have hk3 : (rg p).firsts.length = p.firsts.length := gq _ _
 have hk4 : (rg p).seconds.length = p.seconds.length := gq _ _
 have hl4 := gq p.seconds.length (cx p true)
 refine yS fun _ K1 => ?_
 refine yR ?_
 try dsimp only [St.put]
 refine yB rfl rfl rfl ?_
 try dsimp only [St.put]
 refine yB rfl rfl rfl ?_
 refine yA rfl rfl ?_
 refine yN ?_
 dsimp only [St.put]
 refine K1 _ ?_
 refine yS fun _ K2 => ?_
 refine yR ?_
 refine yA rfl rfl ?_
 refine yN ?_
 dsimp only [St.put]
 refine K2 _ ?_
 refine yS fun _ K3 => ?_
 refine yS fun _ K4 => ?_
 refine yR ?_
 refine yF rfl rfl rfl rfl ?_
 refine yL rfl rfl rfl ?_
 refine aa rfl (bh rfl rfl (List.length_map _)) ?_
 refine yM rfl rfl ?_
 refine yN ?_
 dsimp only [St.put]
 refine K4 _ ?_
 refine ba ?_
 refine cd 22 ?_
 refine zQ ?_
 refine cz (G) zX ?_
 dsimp only
 refine cy (X := Nat) (fun k => k ≤ p.pages.length) (fun k => p.pages.length - k) (fun k => [(11, .v (.int .i64 (sm k (bx p F S but)))), (12, .any), (13, .any), (21, .v (.int .i64 (k : Int)))]) (fun k G' => G') 0 rfl ?_ ?_ (fun _ _ h => h) ?_ ?_ ?_
 ·exact Nat.zero_le _
 ·exact zF
 ·rintro k hI
  exact zL
 ·exact fun _ _ _ _ h => .inl h
 rintro k hI
 dsimp only at hI ⊢
 refine yS fun _ K5 => ?_
 refine yR ?_
 refine aa rfl (cc rfl rfl rfl) ?_
 refine yN ?_
 dsimp only [St.put]
 refine K5 _ ?_
 refine yS fun _ K6 => ?_
 refine am rfl (fun hc => ?_) (fun hc => ?_)
 ·replace hc := of_decide_eq_true hc
  obtain ⟨x, hx⟩ : ∃ x, p.pages[k]? = some x := dc (by omega)
  have hkl : k < p.pages.length := by omega
  have e : bx p F S but k = (bif !decide (x.fst ∈ F) && !decide (x.snd ∈ S) && !decide ((k : Int) ∈ but) then fy p k - ck p k else 0) - (bif decide (x.fst ∈ F) then ck p k else 0) - (bif decide (x.snd ∈ S) then ck p k else 0) := by
   unfold bx fy ck
   rw [mx hx, mx hx, mx hx]; rfl
  have hw := ugu h k
  have ht := uaz h k
  have hsb := ua4 h F S but k (by omega)
  have hgw := ka (fy p) hkl
  have hgt := ka (ck p) hkl
  refine av ?_
  refine K6 _ ?_
  refine yS fun _ K7 => ?_
  refine ba ?_
  refine yS fun _ K8 => ?_
  refine yR ?_
  refine yM rfl rfl ?_
  refine aa rfl (bq rfl rfl rfl rfl (bn (by assumption)) (Enc.len _)) ?_
  refine yE rfl rfl rfl ?_
  try dsimp only [St.put]
  refine ae rfl (dn rfl ?_)
  refine yA rfl rfl ?_
  try dsimp only [St.put]
  refine ae rfl (c5 rfl rfl rfl zG rfl rfl (by rfl) ?_)
  refine yN ?_
  dsimp only [St.put]
  refine K8 _ ?_
  refine f9 (i := 13) rfl zG zC ?_
  dsimp only
  refine yS fun _ K9 => ?_
  refine cd 22 ?_
  refine zQ ?_
  refine ko (X := Bool) (fun d => (!decide (x.fst ∈ F) && !decide (x.snd ∈ S) && !decide ((k : Int) ∈ but)) = d) (fun d => [(43, .v (.bool d))]) (fun d G' => G') rfl ?_ (fun _ _ _ _ h => .inl h) ?_ ?_
  ·rintro d hI
   exact zL
  ·refine yR ?_
   refine yM rfl rfl ?_
   refine yF rfl rfl rfl rfl ?_
   refine yL rfl rfl rfl ?_
   try dsimp only [St.put]
   refine ae rfl (ax rfl rfl rfl (n5 F x.fst (by omega)) ?_)
   refine aa rfl (dq rfl rfl) ?_
   refine ez (fun hs => ?_) (fun hs => ?_)
   ·have c1 : decide (x.fst ∈ F) = false := by simpa using hs
    refine yM rfl rfl ?_
    refine yM rfl rfl ?_
    refine yF rfl rfl rfl rfl ?_
    refine yL rfl rfl rfl ?_
    try dsimp only [St.put]
    refine ae rfl (ax rfl rfl rfl (n5 S x.snd (by omega)) ?_)
    refine aa rfl (dq rfl rfl) ?_
    refine aa rfl (bw rfl rfl (by constructor)) ?_
    refine ez (fun hs => ?_) (fun hs => ?_)
    ·have c2 : decide (x.snd ∈ S) = false := by simpa using hs
     refine yM rfl rfl ?_
     refine yM rfl rfl ?_
     refine yM rfl rfl ?_
     try dsimp only [St.put]
     refine ae rfl (ax rfl rfl rfl (n5 but (k : Int) (by omega)) ?_)
     refine aa rfl (dq rfl rfl) ?_
     refine aa rfl (bw rfl rfl (by constructor)) ?_
     refine yN ?_
     dsimp only [St.put]
     refine ⟨_, ?_, ⟨⟨rfl, rfl⟩, zF, zB, zN, zX⟩⟩
     simp_all
    have c2 : decide (x.snd ∈ S) = true := by simpa using hs
    refine yM rfl rfl ?_
    refine yK rfl ?_
    refine yK rfl ?_
    refine yK rfl ?_
    refine yK rfl ?_
    refine aa rfl (cp rfl rfl (by constructor)) ?_
    refine yN ?_
    dsimp only [St.put]
    refine ⟨_, ?_, ⟨⟨rfl, rfl⟩, zF, zB, zN, zX⟩⟩
    simp_all
   have c1 : decide (x.fst ∈ F) = true := by simpa using hs
   refine yM rfl rfl ?_
   refine yK rfl ?_
   refine yK rfl ?_
   refine yK rfl ?_
   refine yK rfl ?_
   refine yK rfl ?_
   refine aa rfl (cp rfl rfl (by constructor)) ?_
   refine yM rfl rfl ?_
   refine yK rfl ?_
   refine yK rfl ?_
   refine yK rfl ?_
   refine yK rfl ?_
   refine aa rfl (cp rfl rfl (by constructor)) ?_
   refine yN ?_
   dsimp only [St.put]
   refine ⟨_, ?_, ⟨⟨rfl, rfl⟩, zF, zB, zN, zX⟩⟩
   simp_all
  rintro d hst
  dsimp only at hst ⊢
  refine am rfl (fun hc => ?_) (fun hc => ?_)
  ·have hd1 := hst.trans hc
   refine gw [(0, none), (1, none), (2, none), (3, none), (4, none), (5, none), (6, none), (7, none), (8, none), (9, none), (10, none), (11, none), (12, none), (13, none)] (fun i => [].contains i) (fun i => [].contains i) (fun i => [0, 1, 3, 4, 6, 8, 9, 11, 12, 13].contains i) [] (by kernel_rfl) (by kernel_rfl) ?_
   refine xM rfl rfl rfl rfl rfl ?_
   refine ah rfl rfl rfl rfl (cj rfl rfl rfl) ?_
   try dsimp only [St.put]
   refine ay rfl rfl rfl rfl (ca rfl rfl) ?_
   refine xM rfl rfl rfl rfl rfl ?_
   try dsimp only [St.put]
   refine ah rfl rfl rfl rfl (bq rfl rfl rfl rfl (bn (by assumption)) (Enc.len _)) ?_
   try dsimp only [St.put]
   refine ay rfl rfl rfl rfl (ca rfl rfl) ?_
   refine ah rfl rfl rfl rfl (cj rfl rfl rfl) ?_
   try dsimp only [St.put]
   refine ay rfl rfl rfl rfl (ca rfl rfl) ?_
   refine xM rfl rfl rfl rfl rfl ?_
   try dsimp only [St.put]
   refine ah rfl rfl rfl rfl (bq rfl rfl rfl rfl (bn (by assumption)) (Enc.len _)) ?_
   try dsimp only [St.put]
   refine ay rfl rfl rfl rfl (ca rfl rfl) ?_
   refine ah rfl rfl rfl rfl (gj rfl rfl rfl (by omega)) ?_
   refine ah rfl rfl rfl rfl (br rfl rfl rfl (by omega)) ?_
   refine ah rfl rfl rfl rfl (fh rfl (by constructor)) ?_
   refine ce ?_
   dsimp only [St.put]
   refine K9 _ ?_
   refine yS fun _ K11 => ?_
   refine yS fun _ K12 => ?_
   refine yR ?_
   refine yM rfl rfl ?_
   refine yF rfl rfl rfl rfl ?_
   refine yL rfl rfl rfl ?_
   try dsimp only [St.put]
   refine ae rfl (ax rfl rfl rfl (n5 F x.fst (by omega)) ?_)
   refine yN ?_
   dsimp only [St.put]
   refine K12 _ ?_
   refine am rfl (fun hc => ?_) (fun hc => ?_)
   ·have hf1 : decide (x.fst ∈ F) = true := hc
    refine yR ?_
    refine yM rfl rfl ?_
    refine yF rfl rfl rfl rfl ?_
    refine yL rfl rfl rfl ?_
    refine yM rfl rfl ?_
    refine aa rfl (bq rfl rfl rfl rfl (bn (by assumption)) (Enc.len _)) ?_
    refine yL rfl rfl rfl ?_
    refine aa rfl (gj rfl rfl rfl (by omega)) ?_
    refine yA rfl rfl ?_
    refine yN ?_
    dsimp only [St.put]
    refine K11 _ ?_
    refine yS fun _ K13 => ?_
    refine yR ?_
    refine yM rfl rfl ?_
    refine yF rfl rfl rfl rfl ?_
    refine yL rfl rfl rfl ?_
    try dsimp only [St.put]
    refine ae rfl (ax rfl rfl rfl (n5 S x.snd (by omega)) ?_)
    refine yN ?_
    dsimp only [St.put]
    refine K13 _ ?_
    refine am rfl (fun hc => ?_) (fun hc => ?_)
    ·have hg1 : decide (x.snd ∈ S) = true := hc
     refine yR ?_
     refine yM rfl rfl ?_
     refine yF rfl rfl rfl rfl ?_
     refine yL rfl rfl rfl ?_
     refine yM rfl rfl ?_
     refine aa rfl (bq rfl rfl rfl rfl (bn (by assumption)) (Enc.len _)) ?_
     refine yL rfl rfl rfl ?_
     refine aa rfl (gj rfl rfl rfl (by omega)) ?_
     refine yA rfl rfl ?_
     refine yN ?_
     dsimp only [St.put]
     refine K7 _ ?_
     refine yR ?_
     refine aa rfl (br rfl rfl rfl (by omega)) ?_
     refine yM rfl rfl ?_
     refine yN ?_
     dsimp only [St.put]
     first
     | (have q1 : (!decide (x.fst ∈ F) && !decide (x.snd ∈ S) && !decide ((k : Int) ∈ but)) = true := hd1
        have q2 : decide (x.fst ∈ F) = true := hf1
        rw [q2] at q1
        exact absurd q1 (by simp))
     | (have q1 : (!decide (x.fst ∈ F) && !decide (x.snd ∈ S) && !decide ((k : Int) ∈ but)) = true := hd1
        have q3 : decide (x.snd ∈ S) = true := hg1
        rw [q3] at q1
        exact absurd q1 (by simp))
     | (have q1 : (!decide (x.fst ∈ F) && !decide (x.snd ∈ S) && !decide ((k : Int) ∈ but)) = true := hd1
        have q2 : decide (x.fst ∈ F) = false := hf0
        have q3 : decide (x.snd ∈ S) = false := hg0
        rw [q1, q2, q3] at e
        simp only [cond_true, cond_false] at e
        rw [show sm k (bx p F S but) + (fy p k - ck p k) = sm (k + 1) (bx p F S but) by rw [em, e]; omega]
        exact ⟨k + 1, by omega, by omega, ⟨⟨rfl, rfl⟩, zF, zB, zN, zX⟩⟩)
     | (have q1 : (!decide (x.fst ∈ F) && !decide (x.snd ∈ S) && !decide ((k : Int) ∈ but)) = false := hd0
        have q2 : decide (x.fst ∈ F) = true := hf1
        have q3 : decide (x.snd ∈ S) = true := hg1
        rw [q1, q2, q3] at e
        simp only [cond_true, cond_false] at e
        rw [show sm k (bx p F S but) - ck p k - ck p k = sm (k + 1) (bx p F S but) by rw [em, e]; omega]
        exact ⟨k + 1, by omega, by omega, ⟨⟨rfl, rfl⟩, zF, zB, zN, zX⟩⟩)
     | (have q1 : (!decide (x.fst ∈ F) && !decide (x.snd ∈ S) && !decide ((k : Int) ∈ but)) = false := hd0
        have q2 : decide (x.fst ∈ F) = true := hf1
        have q3 : decide (x.snd ∈ S) = false := hg0
        rw [q1, q2, q3] at e
        simp only [cond_true, cond_false] at e
        rw [show sm k (bx p F S but) - ck p k = sm (k + 1) (bx p F S but) by rw [em, e]; omega]
        exact ⟨k + 1, by omega, by omega, ⟨⟨rfl, rfl⟩, zF, zB, zN, zX⟩⟩)
     | (have q1 : (!decide (x.fst ∈ F) && !decide (x.snd ∈ S) && !decide ((k : Int) ∈ but)) = false := hd0
        have q2 : decide (x.fst ∈ F) = false := hf0
        have q3 : decide (x.snd ∈ S) = true := hg1
        rw [q1, q2, q3] at e
        simp only [cond_true, cond_false] at e
        rw [show sm k (bx p F S but) - ck p k = sm (k + 1) (bx p F S but) by rw [em, e]; omega]
        exact ⟨k + 1, by omega, by omega, ⟨⟨rfl, rfl⟩, zF, zB, zN, zX⟩⟩)
     | (have q1 : (!decide (x.fst ∈ F) && !decide (x.snd ∈ S) && !decide ((k : Int) ∈ but)) = false := hd0
        have q2 : decide (x.fst ∈ F) = false := hf0
        have q3 : decide (x.snd ∈ S) = false := hg0
        rw [q1, q2, q3] at e
        simp only [cond_false] at e
        rw [show sm k (bx p F S but) = sm (k + 1) (bx p F S but) by rw [em, e]; omega]
        exact ⟨k + 1, by omega, by omega, ⟨⟨rfl, rfl⟩, zF, zB, zN, zX⟩⟩)
    have hg0 : decide (x.snd ∈ S) = false := hc
    refine av ?_
    refine K7 _ ?_
    refine yR ?_
    refine aa rfl (br rfl rfl rfl (by omega)) ?_
    refine yM rfl rfl ?_
    refine yN ?_
    dsimp only [St.put]
    first
    | (have q1 : (!decide (x.fst ∈ F) && !decide (x.snd ∈ S) && !decide ((k : Int) ∈ but)) = true := hd1
       have q2 : decide (x.fst ∈ F) = true := hf1
       rw [q2] at q1
       exact absurd q1 (by simp))
    | (have q1 : (!decide (x.fst ∈ F) && !decide (x.snd ∈ S) && !decide ((k : Int) ∈ but)) = true := hd1
       have q3 : decide (x.snd ∈ S) = true := hg1
       rw [q3] at q1
       exact absurd q1 (by simp))
    | (have q1 : (!decide (x.fst ∈ F) && !decide (x.snd ∈ S) && !decide ((k : Int) ∈ but)) = true := hd1
       have q2 : decide (x.fst ∈ F) = false := hf0
       have q3 : decide (x.snd ∈ S) = false := hg0
       rw [q1, q2, q3] at e
       simp only [cond_true, cond_false] at e
       rw [show sm k (bx p F S but) + (fy p k - ck p k) = sm (k + 1) (bx p F S but) by rw [em, e]; omega]
       exact ⟨k + 1, by omega, by omega, ⟨⟨rfl, rfl⟩, zF, zB, zN, zX⟩⟩)
    | (have q1 : (!decide (x.fst ∈ F) && !decide (x.snd ∈ S) && !decide ((k : Int) ∈ but)) = false := hd0
       have q2 : decide (x.fst ∈ F) = true := hf1
       have q3 : decide (x.snd ∈ S) = true := hg1
       rw [q1, q2, q3] at e
       simp only [cond_true, cond_false] at e
       rw [show sm k (bx p F S but) - ck p k - ck p k = sm (k + 1) (bx p F S but) by rw [em, e]; omega]
       exact ⟨k + 1, by omega, by omega, ⟨⟨rfl, rfl⟩, zF, zB, zN, zX⟩⟩)
    | (have q1 : (!decide (x.fst ∈ F) && !decide (x.snd ∈ S) && !decide ((k : Int) ∈ but)) = false := hd0
       have q2 : decide (x.fst ∈ F) = true := hf1
       have q3 : decide (x.snd ∈ S) = false := hg0
       rw [q1, q2, q3] at e
       simp only [cond_true, cond_false] at e
       rw [show sm k (bx p F S but) - ck p k = sm (k + 1) (bx p F S but) by rw [em, e]; omega]
       exact ⟨k + 1, by omega, by omega, ⟨⟨rfl, rfl⟩, zF, zB, zN, zX⟩⟩)
    | (have q1 : (!decide (x.fst ∈ F) && !decide (x.snd ∈ S) && !decide ((k : Int) ∈ but)) = false := hd0
       have q2 : decide (x.fst ∈ F) = false := hf0
       have q3 : decide (x.snd ∈ S) = true := hg1
       rw [q1, q2, q3] at e
       simp only [cond_true, cond_false] at e
       rw [show sm k (bx p F S but) - ck p k = sm (k + 1) (bx p F S but) by rw [em, e]; omega]
       exact ⟨k + 1, by omega, by omega, ⟨⟨rfl, rfl⟩, zF, zB, zN, zX⟩⟩)
    | (have q1 : (!decide (x.fst ∈ F) && !decide (x.snd ∈ S) && !decide ((k : Int) ∈ but)) = false := hd0
       have q2 : decide (x.fst ∈ F) = false := hf0
       have q3 : decide (x.snd ∈ S) = false := hg0
       rw [q1, q2, q3] at e
       simp only [cond_false] at e
       rw [show sm k (bx p F S but) = sm (k + 1) (bx p F S but) by rw [em, e]; omega]
       exact ⟨k + 1, by omega, by omega, ⟨⟨rfl, rfl⟩, zF, zB, zN, zX⟩⟩)
   have hf0 : decide (x.fst ∈ F) = false := hc
   refine av ?_
   refine K11 _ ?_
   refine yS fun _ K14 => ?_
   refine yR ?_
   refine yM rfl rfl ?_
   refine yF rfl rfl rfl rfl ?_
   refine yL rfl rfl rfl ?_
   try dsimp only [St.put]
   refine ae rfl (ax rfl rfl rfl (n5 S x.snd (by omega)) ?_)
   refine yN ?_
   dsimp only [St.put]
   refine K14 _ ?_
   refine am rfl (fun hc => ?_) (fun hc => ?_)
   ·have hg1 : decide (x.snd ∈ S) = true := hc
    refine yR ?_
    refine yM rfl rfl ?_
    refine yF rfl rfl rfl rfl ?_
    refine yL rfl rfl rfl ?_
    refine yM rfl rfl ?_
    refine aa rfl (bq rfl rfl rfl rfl (bn (by assumption)) (Enc.len _)) ?_
    refine yL rfl rfl rfl ?_
    refine aa rfl (gj rfl rfl rfl (by omega)) ?_
    refine yA rfl rfl ?_
    refine yN ?_
    dsimp only [St.put]
    refine K7 _ ?_
    refine yR ?_
    refine aa rfl (br rfl rfl rfl (by omega)) ?_
    refine yM rfl rfl ?_
    refine yN ?_
    dsimp only [St.put]
    first
    | (have q1 : (!decide (x.fst ∈ F) && !decide (x.snd ∈ S) && !decide ((k : Int) ∈ but)) = true := hd1
       have q2 : decide (x.fst ∈ F) = true := hf1
       rw [q2] at q1
       exact absurd q1 (by simp))
    | (have q1 : (!decide (x.fst ∈ F) && !decide (x.snd ∈ S) && !decide ((k : Int) ∈ but)) = true := hd1
       have q3 : decide (x.snd ∈ S) = true := hg1
       rw [q3] at q1
       exact absurd q1 (by simp))
    | (have q1 : (!decide (x.fst ∈ F) && !decide (x.snd ∈ S) && !decide ((k : Int) ∈ but)) = true := hd1
       have q2 : decide (x.fst ∈ F) = false := hf0
       have q3 : decide (x.snd ∈ S) = false := hg0
       rw [q1, q2, q3] at e
       simp only [cond_true, cond_false] at e
       rw [show sm k (bx p F S but) + (fy p k - ck p k) = sm (k + 1) (bx p F S but) by rw [em, e]; omega]
       exact ⟨k + 1, by omega, by omega, ⟨⟨rfl, rfl⟩, zF, zB, zN, zX⟩⟩)
    | (have q1 : (!decide (x.fst ∈ F) && !decide (x.snd ∈ S) && !decide ((k : Int) ∈ but)) = false := hd0
       have q2 : decide (x.fst ∈ F) = true := hf1
       have q3 : decide (x.snd ∈ S) = true := hg1
       rw [q1, q2, q3] at e
       simp only [cond_true, cond_false] at e
       rw [show sm k (bx p F S but) - ck p k - ck p k = sm (k + 1) (bx p F S but) by rw [em, e]; omega]
       exact ⟨k + 1, by omega, by omega, ⟨⟨rfl, rfl⟩, zF, zB, zN, zX⟩⟩)
    | (have q1 : (!decide (x.fst ∈ F) && !decide (x.snd ∈ S) && !decide ((k : Int) ∈ but)) = false := hd0
       have q2 : decide (x.fst ∈ F) = true := hf1
       have q3 : decide (x.snd ∈ S) = false := hg0
       rw [q1, q2, q3] at e
       simp only [cond_true, cond_false] at e
       rw [show sm k (bx p F S but) - ck p k = sm (k + 1) (bx p F S but) by rw [em, e]; omega]
       exact ⟨k + 1, by omega, by omega, ⟨⟨rfl, rfl⟩, zF, zB, zN, zX⟩⟩)
    | (have q1 : (!decide (x.fst ∈ F) && !decide (x.snd ∈ S) && !decide ((k : Int) ∈ but)) = false := hd0
       have q2 : decide (x.fst ∈ F) = false := hf0
       have q3 : decide (x.snd ∈ S) = true := hg1
       rw [q1, q2, q3] at e
       simp only [cond_true, cond_false] at e
       rw [show sm k (bx p F S but) - ck p k = sm (k + 1) (bx p F S but) by rw [em, e]; omega]
       exact ⟨k + 1, by omega, by omega, ⟨⟨rfl, rfl⟩, zF, zB, zN, zX⟩⟩)
    | (have q1 : (!decide (x.fst ∈ F) && !decide (x.snd ∈ S) && !decide ((k : Int) ∈ but)) = false := hd0
       have q2 : decide (x.fst ∈ F) = false := hf0
       have q3 : decide (x.snd ∈ S) = false := hg0
       rw [q1, q2, q3] at e
       simp only [cond_false] at e
       rw [show sm k (bx p F S but) = sm (k + 1) (bx p F S but) by rw [em, e]; omega]
       exact ⟨k + 1, by omega, by omega, ⟨⟨rfl, rfl⟩, zF, zB, zN, zX⟩⟩)
   have hg0 : decide (x.snd ∈ S) = false := hc
   refine av ?_
   refine K7 _ ?_
   refine yR ?_
   refine aa rfl (br rfl rfl rfl (by omega)) ?_
   refine yM rfl rfl ?_
   refine yN ?_
   dsimp only [St.put]
   first
   | (have q1 : (!decide (x.fst ∈ F) && !decide (x.snd ∈ S) && !decide ((k : Int) ∈ but)) = true := hd1
      have q2 : decide (x.fst ∈ F) = true := hf1
      rw [q2] at q1
      exact absurd q1 (by simp))
   | (have q1 : (!decide (x.fst ∈ F) && !decide (x.snd ∈ S) && !decide ((k : Int) ∈ but)) = true := hd1
      have q3 : decide (x.snd ∈ S) = true := hg1
      rw [q3] at q1
      exact absurd q1 (by simp))
   | (have q1 : (!decide (x.fst ∈ F) && !decide (x.snd ∈ S) && !decide ((k : Int) ∈ but)) = true := hd1
      have q2 : decide (x.fst ∈ F) = false := hf0
      have q3 : decide (x.snd ∈ S) = false := hg0
      rw [q1, q2, q3] at e
      simp only [cond_true, cond_false] at e
      rw [show sm k (bx p F S but) + (fy p k - ck p k) = sm (k + 1) (bx p F S but) by rw [em, e]; omega]
      exact ⟨k + 1, by omega, by omega, ⟨⟨rfl, rfl⟩, zF, zB, zN, zX⟩⟩)
   | (have q1 : (!decide (x.fst ∈ F) && !decide (x.snd ∈ S) && !decide ((k : Int) ∈ but)) = false := hd0
      have q2 : decide (x.fst ∈ F) = true := hf1
      have q3 : decide (x.snd ∈ S) = true := hg1
      rw [q1, q2, q3] at e
      simp only [cond_true, cond_false] at e
      rw [show sm k (bx p F S but) - ck p k - ck p k = sm (k + 1) (bx p F S but) by rw [em, e]; omega]
      exact ⟨k + 1, by omega, by omega, ⟨⟨rfl, rfl⟩, zF, zB, zN, zX⟩⟩)
   | (have q1 : (!decide (x.fst ∈ F) && !decide (x.snd ∈ S) && !decide ((k : Int) ∈ but)) = false := hd0
      have q2 : decide (x.fst ∈ F) = true := hf1
      have q3 : decide (x.snd ∈ S) = false := hg0
      rw [q1, q2, q3] at e
      simp only [cond_true, cond_false] at e
      rw [show sm k (bx p F S but) - ck p k = sm (k + 1) (bx p F S but) by rw [em, e]; omega]
      exact ⟨k + 1, by omega, by omega, ⟨⟨rfl, rfl⟩, zF, zB, zN, zX⟩⟩)
   | (have q1 : (!decide (x.fst ∈ F) && !decide (x.snd ∈ S) && !decide ((k : Int) ∈ but)) = false := hd0
      have q2 : decide (x.fst ∈ F) = false := hf0
      have q3 : decide (x.snd ∈ S) = true := hg1
      rw [q1, q2, q3] at e
      simp only [cond_true, cond_false] at e
      rw [show sm k (bx p F S but) - ck p k = sm (k + 1) (bx p F S but) by rw [em, e]; omega]
      exact ⟨k + 1, by omega, by omega, ⟨⟨rfl, rfl⟩, zF, zB, zN, zX⟩⟩)
   | (have q1 : (!decide (x.fst ∈ F) && !decide (x.snd ∈ S) && !decide ((k : Int) ∈ but)) = false := hd0
      have q2 : decide (x.fst ∈ F) = false := hf0
      have q3 : decide (x.snd ∈ S) = false := hg0
      rw [q1, q2, q3] at e
      simp only [cond_false] at e
      rw [show sm k (bx p F S but) = sm (k + 1) (bx p F S but) by rw [em, e]; omega]
      exact ⟨k + 1, by omega, by omega, ⟨⟨rfl, rfl⟩, zF, zB, zN, zX⟩⟩)
  have hd0 := hst.trans hc
  refine av ?_
  refine K9 _ ?_
  refine yS fun _ K15 => ?_
  refine yS fun _ K16 => ?_
  refine yR ?_
  refine yM rfl rfl ?_
  refine yF rfl rfl rfl rfl ?_
  refine yL rfl rfl rfl ?_
  try dsimp only [St.put]
  refine ae rfl (ax rfl rfl rfl (n5 F x.fst (by omega)) ?_)
  refine yN ?_
  dsimp only [St.put]
  refine K16 _ ?_
  refine am rfl (fun hc => ?_) (fun hc => ?_)
  ·have hf1 : decide (x.fst ∈ F) = true := hc
   refine yR ?_
   refine yM rfl rfl ?_
   refine yF rfl rfl rfl rfl ?_
   refine yL rfl rfl rfl ?_
   refine yM rfl rfl ?_
   refine aa rfl (bq rfl rfl rfl rfl (bn (by assumption)) (Enc.len _)) ?_
   refine yL rfl rfl rfl ?_
   refine aa rfl (gj rfl rfl rfl (by omega)) ?_
   refine yA rfl rfl ?_
   refine yN ?_
   dsimp only [St.put]
   refine K15 _ ?_
   refine yS fun _ K17 => ?_
   refine yR ?_
   refine yM rfl rfl ?_
   refine yF rfl rfl rfl rfl ?_
   refine yL rfl rfl rfl ?_
   try dsimp only [St.put]
   refine ae rfl (ax rfl rfl rfl (n5 S x.snd (by omega)) ?_)
   refine yN ?_
   dsimp only [St.put]
   refine K17 _ ?_
   refine am rfl (fun hc => ?_) (fun hc => ?_)
   ·have hg1 : decide (x.snd ∈ S) = true := hc
    refine yR ?_
    refine yM rfl rfl ?_
    refine yF rfl rfl rfl rfl ?_
    refine yL rfl rfl rfl ?_
    refine yM rfl rfl ?_
    refine aa rfl (bq rfl rfl rfl rfl (bn (by assumption)) (Enc.len _)) ?_
    refine yL rfl rfl rfl ?_
    refine aa rfl (gj rfl rfl rfl (by omega)) ?_
    refine yA rfl rfl ?_
    refine yN ?_
    dsimp only [St.put]
    refine K7 _ ?_
    refine yR ?_
    refine aa rfl (br rfl rfl rfl (by omega)) ?_
    refine yM rfl rfl ?_
    refine yN ?_
    dsimp only [St.put]
    first
    | (have q1 : (!decide (x.fst ∈ F) && !decide (x.snd ∈ S) && !decide ((k : Int) ∈ but)) = true := hd1
       have q2 : decide (x.fst ∈ F) = true := hf1
       rw [q2] at q1
       exact absurd q1 (by simp))
    | (have q1 : (!decide (x.fst ∈ F) && !decide (x.snd ∈ S) && !decide ((k : Int) ∈ but)) = true := hd1
       have q3 : decide (x.snd ∈ S) = true := hg1
       rw [q3] at q1
       exact absurd q1 (by simp))
    | (have q1 : (!decide (x.fst ∈ F) && !decide (x.snd ∈ S) && !decide ((k : Int) ∈ but)) = true := hd1
       have q2 : decide (x.fst ∈ F) = false := hf0
       have q3 : decide (x.snd ∈ S) = false := hg0
       rw [q1, q2, q3] at e
       simp only [cond_true, cond_false] at e
       rw [show sm k (bx p F S but) + (fy p k - ck p k) = sm (k + 1) (bx p F S but) by rw [em, e]; omega]
       exact ⟨k + 1, by omega, by omega, ⟨⟨rfl, rfl⟩, zF, zB, zN, zX⟩⟩)
    | (have q1 : (!decide (x.fst ∈ F) && !decide (x.snd ∈ S) && !decide ((k : Int) ∈ but)) = false := hd0
       have q2 : decide (x.fst ∈ F) = true := hf1
       have q3 : decide (x.snd ∈ S) = true := hg1
       rw [q1, q2, q3] at e
       simp only [cond_true, cond_false] at e
       rw [show sm k (bx p F S but) - ck p k - ck p k = sm (k + 1) (bx p F S but) by rw [em, e]; omega]
       exact ⟨k + 1, by omega, by omega, ⟨⟨rfl, rfl⟩, zF, zB, zN, zX⟩⟩)
    | (have q1 : (!decide (x.fst ∈ F) && !decide (x.snd ∈ S) && !decide ((k : Int) ∈ but)) = false := hd0
       have q2 : decide (x.fst ∈ F) = true := hf1
       have q3 : decide (x.snd ∈ S) = false := hg0
       rw [q1, q2, q3] at e
       simp only [cond_true, cond_false] at e
       rw [show sm k (bx p F S but) - ck p k = sm (k + 1) (bx p F S but) by rw [em, e]; omega]
       exact ⟨k + 1, by omega, by omega, ⟨⟨rfl, rfl⟩, zF, zB, zN, zX⟩⟩)
    | (have q1 : (!decide (x.fst ∈ F) && !decide (x.snd ∈ S) && !decide ((k : Int) ∈ but)) = false := hd0
       have q2 : decide (x.fst ∈ F) = false := hf0
       have q3 : decide (x.snd ∈ S) = true := hg1
       rw [q1, q2, q3] at e
       simp only [cond_true, cond_false] at e
       rw [show sm k (bx p F S but) - ck p k = sm (k + 1) (bx p F S but) by rw [em, e]; omega]
       exact ⟨k + 1, by omega, by omega, ⟨⟨rfl, rfl⟩, zF, zB, zN, zX⟩⟩)
    | (have q1 : (!decide (x.fst ∈ F) && !decide (x.snd ∈ S) && !decide ((k : Int) ∈ but)) = false := hd0
       have q2 : decide (x.fst ∈ F) = false := hf0
       have q3 : decide (x.snd ∈ S) = false := hg0
       rw [q1, q2, q3] at e
       simp only [cond_false] at e
       rw [show sm k (bx p F S but) = sm (k + 1) (bx p F S but) by rw [em, e]; omega]
       exact ⟨k + 1, by omega, by omega, ⟨⟨rfl, rfl⟩, zF, zB, zN, zX⟩⟩)
   have hg0 : decide (x.snd ∈ S) = false := hc
   refine av ?_
   refine K7 _ ?_
   refine yR ?_
   refine aa rfl (br rfl rfl rfl (by omega)) ?_
   refine yM rfl rfl ?_
   refine yN ?_
   dsimp only [St.put]
   first
   | (have q1 : (!decide (x.fst ∈ F) && !decide (x.snd ∈ S) && !decide ((k : Int) ∈ but)) = true := hd1
      have q2 : decide (x.fst ∈ F) = true := hf1
      rw [q2] at q1
      exact absurd q1 (by simp))
   | (have q1 : (!decide (x.fst ∈ F) && !decide (x.snd ∈ S) && !decide ((k : Int) ∈ but)) = true := hd1
      have q3 : decide (x.snd ∈ S) = true := hg1
      rw [q3] at q1
      exact absurd q1 (by simp))
   | (have q1 : (!decide (x.fst ∈ F) && !decide (x.snd ∈ S) && !decide ((k : Int) ∈ but)) = true := hd1
      have q2 : decide (x.fst ∈ F) = false := hf0
      have q3 : decide (x.snd ∈ S) = false := hg0
      rw [q1, q2, q3] at e
      simp only [cond_true, cond_false] at e
      rw [show sm k (bx p F S but) + (fy p k - ck p k) = sm (k + 1) (bx p F S but) by rw [em, e]; omega]
      exact ⟨k + 1, by omega, by omega, ⟨⟨rfl, rfl⟩, zF, zB, zN, zX⟩⟩)
   | (have q1 : (!decide (x.fst ∈ F) && !decide (x.snd ∈ S) && !decide ((k : Int) ∈ but)) = false := hd0
      have q2 : decide (x.fst ∈ F) = true := hf1
      have q3 : decide (x.snd ∈ S) = true := hg1
      rw [q1, q2, q3] at e
      simp only [cond_true, cond_false] at e
      rw [show sm k (bx p F S but) - ck p k - ck p k = sm (k + 1) (bx p F S but) by rw [em, e]; omega]
      exact ⟨k + 1, by omega, by omega, ⟨⟨rfl, rfl⟩, zF, zB, zN, zX⟩⟩)
   | (have q1 : (!decide (x.fst ∈ F) && !decide (x.snd ∈ S) && !decide ((k : Int) ∈ but)) = false := hd0
      have q2 : decide (x.fst ∈ F) = true := hf1
      have q3 : decide (x.snd ∈ S) = false := hg0
      rw [q1, q2, q3] at e
      simp only [cond_true, cond_false] at e
      rw [show sm k (bx p F S but) - ck p k = sm (k + 1) (bx p F S but) by rw [em, e]; omega]
      exact ⟨k + 1, by omega, by omega, ⟨⟨rfl, rfl⟩, zF, zB, zN, zX⟩⟩)
   | (have q1 : (!decide (x.fst ∈ F) && !decide (x.snd ∈ S) && !decide ((k : Int) ∈ but)) = false := hd0
      have q2 : decide (x.fst ∈ F) = false := hf0
      have q3 : decide (x.snd ∈ S) = true := hg1
      rw [q1, q2, q3] at e
      simp only [cond_true, cond_false] at e
      rw [show sm k (bx p F S but) - ck p k = sm (k + 1) (bx p F S but) by rw [em, e]; omega]
      exact ⟨k + 1, by omega, by omega, ⟨⟨rfl, rfl⟩, zF, zB, zN, zX⟩⟩)
   | (have q1 : (!decide (x.fst ∈ F) && !decide (x.snd ∈ S) && !decide ((k : Int) ∈ but)) = false := hd0
      have q2 : decide (x.fst ∈ F) = false := hf0
      have q3 : decide (x.snd ∈ S) = false := hg0
      rw [q1, q2, q3] at e
      simp only [cond_false] at e
      rw [show sm k (bx p F S but) = sm (k + 1) (bx p F S but) by rw [em, e]; omega]
      exact ⟨k + 1, by omega, by omega, ⟨⟨rfl, rfl⟩, zF, zB, zN, zX⟩⟩)
  have hf0 : decide (x.fst ∈ F) = false := hc
  refine av ?_
  refine K15 _ ?_
  refine yS fun _ K18 => ?_
  refine yR ?_
  refine yM rfl rfl ?_
  refine yF rfl rfl rfl rfl ?_
  refine yL rfl rfl rfl ?_
  try dsimp only [St.put]
  refine ae rfl (ax rfl rfl rfl (n5 S x.snd (by omega)) ?_)
  refine yN ?_
  dsimp only [St.put]
  refine K18 _ ?_
  refine am rfl (fun hc => ?_) (fun hc => ?_)
  ·have hg1 : decide (x.snd ∈ S) = true := hc
   refine yR ?_
   refine yM rfl rfl ?_
   refine yF rfl rfl rfl rfl ?_
   refine yL rfl rfl rfl ?_
   refine yM rfl rfl ?_
   refine aa rfl (bq rfl rfl rfl rfl (bn (by assumption)) (Enc.len _)) ?_
   refine yL rfl rfl rfl ?_
   refine aa rfl (gj rfl rfl rfl (by omega)) ?_
   refine yA rfl rfl ?_
   refine yN ?_
   dsimp only [St.put]
   refine K7 _ ?_
   refine yR ?_
   refine aa rfl (br rfl rfl rfl (by omega)) ?_
   refine yM rfl rfl ?_
   refine yN ?_
   dsimp only [St.put]
   first
   | (have q1 : (!decide (x.fst ∈ F) && !decide (x.snd ∈ S) && !decide ((k : Int) ∈ but)) = true := hd1
      have q2 : decide (x.fst ∈ F) = true := hf1
      rw [q2] at q1
      exact absurd q1 (by simp))
   | (have q1 : (!decide (x.fst ∈ F) && !decide (x.snd ∈ S) && !decide ((k : Int) ∈ but)) = true := hd1
      have q3 : decide (x.snd ∈ S) = true := hg1
      rw [q3] at q1
      exact absurd q1 (by simp))
   | (have q1 : (!decide (x.fst ∈ F) && !decide (x.snd ∈ S) && !decide ((k : Int) ∈ but)) = true := hd1
      have q2 : decide (x.fst ∈ F) = false := hf0
      have q3 : decide (x.snd ∈ S) = false := hg0
      rw [q1, q2, q3] at e
      simp only [cond_true, cond_false] at e
      rw [show sm k (bx p F S but) + (fy p k - ck p k) = sm (k + 1) (bx p F S but) by rw [em, e]; omega]
      exact ⟨k + 1, by omega, by omega, ⟨⟨rfl, rfl⟩, zF, zB, zN, zX⟩⟩)
   | (have q1 : (!decide (x.fst ∈ F) && !decide (x.snd ∈ S) && !decide ((k : Int) ∈ but)) = false := hd0
      have q2 : decide (x.fst ∈ F) = true := hf1
      have q3 : decide (x.snd ∈ S) = true := hg1
      rw [q1, q2, q3] at e
      simp only [cond_true, cond_false] at e
      rw [show sm k (bx p F S but) - ck p k - ck p k = sm (k + 1) (bx p F S but) by rw [em, e]; omega]
      exact ⟨k + 1, by omega, by omega, ⟨⟨rfl, rfl⟩, zF, zB, zN, zX⟩⟩)
   | (have q1 : (!decide (x.fst ∈ F) && !decide (x.snd ∈ S) && !decide ((k : Int) ∈ but)) = false := hd0
      have q2 : decide (x.fst ∈ F) = true := hf1
      have q3 : decide (x.snd ∈ S) = false := hg0
      rw [q1, q2, q3] at e
      simp only [cond_true, cond_false] at e
      rw [show sm k (bx p F S but) - ck p k = sm (k + 1) (bx p F S but) by rw [em, e]; omega]
      exact ⟨k + 1, by omega, by omega, ⟨⟨rfl, rfl⟩, zF, zB, zN, zX⟩⟩)
   | (have q1 : (!decide (x.fst ∈ F) && !decide (x.snd ∈ S) && !decide ((k : Int) ∈ but)) = false := hd0
      have q2 : decide (x.fst ∈ F) = false := hf0
      have q3 : decide (x.snd ∈ S) = true := hg1
      rw [q1, q2, q3] at e
      simp only [cond_true, cond_false] at e
      rw [show sm k (bx p F S but) - ck p k = sm (k + 1) (bx p F S but) by rw [em, e]; omega]
      exact ⟨k + 1, by omega, by omega, ⟨⟨rfl, rfl⟩, zF, zB, zN, zX⟩⟩)
   | (have q1 : (!decide (x.fst ∈ F) && !decide (x.snd ∈ S) && !decide ((k : Int) ∈ but)) = false := hd0
      have q2 : decide (x.fst ∈ F) = false := hf0
      have q3 : decide (x.snd ∈ S) = false := hg0
      rw [q1, q2, q3] at e
      simp only [cond_false] at e
      rw [show sm k (bx p F S but) = sm (k + 1) (bx p F S but) by rw [em, e]; omega]
      exact ⟨k + 1, by omega, by omega, ⟨⟨rfl, rfl⟩, zF, zB, zN, zX⟩⟩)
  have hg0 : decide (x.snd ∈ S) = false := hc
  refine av ?_
  refine K7 _ ?_
  refine yR ?_
  refine aa rfl (br rfl rfl rfl (by omega)) ?_
  refine yM rfl rfl ?_
  refine yN ?_
  dsimp only [St.put]
  first
  | (have q1 : (!decide (x.fst ∈ F) && !decide (x.snd ∈ S) && !decide ((k : Int) ∈ but)) = true := hd1
     have q2 : decide (x.fst ∈ F) = true := hf1
     rw [q2] at q1
     exact absurd q1 (by simp))
  | (have q1 : (!decide (x.fst ∈ F) && !decide (x.snd ∈ S) && !decide ((k : Int) ∈ but)) = true := hd1
     have q3 : decide (x.snd ∈ S) = true := hg1
     rw [q3] at q1
     exact absurd q1 (by simp))
  | (have q1 : (!decide (x.fst ∈ F) && !decide (x.snd ∈ S) && !decide ((k : Int) ∈ but)) = true := hd1
     have q2 : decide (x.fst ∈ F) = false := hf0
     have q3 : decide (x.snd ∈ S) = false := hg0
     rw [q1, q2, q3] at e
     simp only [cond_true, cond_false] at e
     rw [show sm k (bx p F S but) + (fy p k - ck p k) = sm (k + 1) (bx p F S but) by rw [em, e]; omega]
     exact ⟨k + 1, by omega, by omega, ⟨⟨rfl, rfl⟩, zF, zB, zN, zX⟩⟩)
  | (have q1 : (!decide (x.fst ∈ F) && !decide (x.snd ∈ S) && !decide ((k : Int) ∈ but)) = false := hd0
     have q2 : decide (x.fst ∈ F) = true := hf1
     have q3 : decide (x.snd ∈ S) = true := hg1
     rw [q1, q2, q3] at e
     simp only [cond_true, cond_false] at e
     rw [show sm k (bx p F S but) - ck p k - ck p k = sm (k + 1) (bx p F S but) by rw [em, e]; omega]
     exact ⟨k + 1, by omega, by omega, ⟨⟨rfl, rfl⟩, zF, zB, zN, zX⟩⟩)
  | (have q1 : (!decide (x.fst ∈ F) && !decide (x.snd ∈ S) && !decide ((k : Int) ∈ but)) = false := hd0
     have q2 : decide (x.fst ∈ F) = true := hf1
     have q3 : decide (x.snd ∈ S) = false := hg0
     rw [q1, q2, q3] at e
     simp only [cond_true, cond_false] at e
     rw [show sm k (bx p F S but) - ck p k = sm (k + 1) (bx p F S but) by rw [em, e]; omega]
     exact ⟨k + 1, by omega, by omega, ⟨⟨rfl, rfl⟩, zF, zB, zN, zX⟩⟩)
  | (have q1 : (!decide (x.fst ∈ F) && !decide (x.snd ∈ S) && !decide ((k : Int) ∈ but)) = false := hd0
     have q2 : decide (x.fst ∈ F) = false := hf0
     have q3 : decide (x.snd ∈ S) = true := hg1
     rw [q1, q2, q3] at e
     simp only [cond_true, cond_false] at e
     rw [show sm k (bx p F S but) - ck p k = sm (k + 1) (bx p F S but) by rw [em, e]; omega]
     exact ⟨k + 1, by omega, by omega, ⟨⟨rfl, rfl⟩, zF, zB, zN, zX⟩⟩)
  | (have q1 : (!decide (x.fst ∈ F) && !decide (x.snd ∈ S) && !decide ((k : Int) ∈ but)) = false := hd0
     have q2 : decide (x.fst ∈ F) = false := hf0
     have q3 : decide (x.snd ∈ S) = false := hg0
     rw [q1, q2, q3] at e
     simp only [cond_false] at e
     rw [show sm k (bx p F S but) = sm (k + 1) (bx p F S but) by rw [em, e]; omega]
     exact ⟨k + 1, by omega, by omega, ⟨⟨rfl, rfl⟩, zF, zB, zN, zX⟩⟩)
 replace hc := of_decide_eq_false hc
 obtain rfl : k = p.pages.length := by omega
 have hsb := ua4 h F S but p.pages.length hnp
 obtain ⟨A, hA⟩ : ∃ A, sm p.pages.length (bx p F S but) = A := ⟨_, rfl⟩
 rw [hA] at hsb
 refine ct ?_
 refine K3 _ ?_
 refine yS fun _ K19 => ?_
 refine yS fun _ K20 => ?_
 refine yR ?_
 refine yM rfl rfl ?_
 refine aa rfl (bh rfl rfl (List.length_map _)) ?_
 refine yM rfl rfl ?_
 refine yN ?_
 dsimp only [St.put]
 rw [hA, show A = A + ie (F.take 0) (fun i => cx p false i.toNat) by show A = A + 0; omega]
 refine K20 _ ?_
 refine ba ?_
 refine cd 83 ?_
 refine zQ ?_
 refine cz (G) zX ?_
 dsimp only
 refine cy (X := Nat) (fun i => i ≤ F.length) (fun i => F.length - i) (fun i => [(11, .v (.int .i64 (A + ie (F.take i) (fun i => cx p false i.toNat)))), (15, .any), (82, .v (.int .i64 (i : Int)))]) (fun i G' => G') 0 rfl ?_ ?_ (fun _ _ h => h) ?_ ?_ ?_
 ·exact Nat.zero_le _
 ·exact zF
 ·rintro i hI
  exact zL
 ·exact fun _ _ _ _ h => .inl h
 rintro i hJ
 dsimp only at hJ ⊢
 refine yS fun _ K21 => ?_
 refine yR ?_
 refine aa rfl (cc rfl rfl rfl) ?_
 refine yN ?_
 dsimp only [St.put]
 refine K21 _ ?_
 refine yS fun _ K22 => ?_
 refine am rfl (fun hc => ?_) (fun hc => ?_)
 ·replace hc := of_decide_eq_true hc
  obtain ⟨z0, hz0⟩ : ∃ z, F[i]? = some z := dc (by omega)
  have hzb := hF z0 (fw hz0)
  obtain ⟨z, rfl⟩ : ∃ z : Nat, z0 = (z : Int) := ⟨z0.toNat, by omega⟩
  have hzl : z < p.firsts.length := by omega
  have hgz := ka (cx p false) hzl
  have e := ud1 (g := fun i => cx p false i.toNat) hz0
  try dsimp only at e
  rw [Int.toNat_natCast] at e
  have hbz := om h false z
  have hib := wj (g := fun i => cx p false i.toNat) (fun z => om h false z.toNat) (F.take i)
  have htl : (F.take i).length ≤ 20 := by rw [List.length_take]; omega
  refine av ?_
  refine K22 _ ?_
  refine yS fun _ K23 => ?_
  refine ba ?_
  refine yS fun _ K24 => ?_
  refine yR ?_
  refine aa rfl (bq rfl rfl rfl rfl (bn (by assumption)) (Enc.len _)) ?_
  refine yL rfl rfl rfl ?_
  refine yA rfl rfl ?_
  refine yN ?_
  dsimp only [St.put]
  refine K24 _ ?_
  refine yS fun _ K25 => ?_
  refine yS fun _ K26 => ?_
  refine yR ?_
  refine yM rfl rfl ?_
  refine aa rfl (cc rfl rfl rfl) ?_
  refine yM rfl rfl ?_
  refine yM rfl rfl ?_
  refine yF rfl rfl rfl rfl ?_
  refine yL rfl rfl rfl ?_
  refine aa rfl (bh rfl rfl (List.length_map _)) ?_
  refine aa rfl ((ed (c := false) (lu rfl rfl rfl) (decide_eq_false (by rw [hk3]; omega)))) ?_
  refine aa rfl (cp rfl rfl (by constructor)) ?_
  refine yN ?_
  dsimp only [St.put]
  refine K26 _ ?_
  refine am rfl (fun h => by cases h) (fun _ => ?_)
  refine av ?_
  refine K25 _ ?_
  refine yR ?_
  refine yM rfl rfl ?_
  refine yF rfl rfl rfl rfl ?_
  refine yL rfl rfl rfl ?_
  refine yM rfl rfl ?_
  refine aa rfl (bq rfl rfl rfl rfl (bn (by assumption)) (Enc.len _)) ?_
  refine yL rfl rfl rfl ?_
  refine aa rfl (br rfl rfl rfl (by omega)) ?_
  refine yA rfl rfl ?_
  refine yN ?_
  dsimp only [St.put]
  refine K23 _ ?_
  refine yR ?_
  refine aa rfl (br rfl rfl rfl (by omega)) ?_
  refine yM rfl rfl ?_
  refine yN ?_
  dsimp only [St.put]
  rw [Int.add_assoc, ← e]
  exact ⟨i + 1, by omega, by omega, ⟨⟨rfl, rfl⟩, zF, zB, zN, zX⟩⟩
 replace hc := of_decide_eq_false hc
 rw [fp (show F.length ≤ i by omega)]
 have hib := wj (g := fun i => cx p false i.toNat) (fun z => om h false z.toNat) F
 obtain ⟨B, hB⟩ : ∃ B, ie F (fun i => cx p false i.toNat) = B := ⟨_, rfl⟩
 rw [hB] at hib
 refine ct ?_
 refine K19 _ ?_
 refine yS fun _ K27 => ?_
 refine yS fun _ K28 => ?_
 refine yR ?_
 refine yM rfl rfl ?_
 refine aa rfl (bh rfl rfl (List.length_map _)) ?_
 refine yM rfl rfl ?_
 refine yN ?_
 dsimp only [St.put]
 rw [hB, show A + B = A + B + ie (S.take 0) (fun i => cx p true i.toNat) by show A + B = A + B + 0; omega]
 refine K28 _ ?_
 refine ba ?_
 refine cd 106 ?_
 refine zQ ?_
 refine cz (G) zX ?_
 dsimp only
 refine cy (X := Nat) (fun j => j ≤ S.length) (fun j => S.length - j) (fun j => [(11, .v (.int .i64 (A + B + ie (S.take j) (fun i => cx p true i.toNat)))), (17, .any), (105, .v (.int .i64 (j : Int)))]) (fun j G' => G') 0 rfl ?_ ?_ (fun _ _ h => h) ?_ ?_ ?_
 ·exact Nat.zero_le _
 ·exact zF
 ·rintro j hI
  exact zL
 ·exact fun _ _ _ _ h => .inl h
 rintro j hM
 dsimp only at hM ⊢
 refine yS fun _ K29 => ?_
 refine yR ?_
 refine aa rfl (cc rfl rfl rfl) ?_
 refine yN ?_
 dsimp only [St.put]
 refine K29 _ ?_
 refine yS fun _ K30 => ?_
 refine am rfl (fun hc => ?_) (fun hc => ?_)
 ·replace hc := of_decide_eq_true hc
  obtain ⟨z0, hz0⟩ : ∃ z, S[j]? = some z := dc (by omega)
  have hzb := hS z0 (fw hz0)
  obtain ⟨z, rfl⟩ : ∃ z : Nat, z0 = (z : Int) := ⟨z0.toNat, by omega⟩
  have hzl : z < p.seconds.length := by omega
  have hgz := ka (cx p true) hzl
  have e := ud1 (g := fun i => cx p true i.toNat) hz0
  try dsimp only at e
  rw [Int.toNat_natCast] at e
  have hbz := om h true z
  have hib2 := wj (g := fun i => cx p true i.toNat) (fun z => om h true z.toNat) (S.take j)
  have htl : (S.take j).length ≤ 20 := by rw [List.length_take]; omega
  refine av ?_
  refine K30 _ ?_
  refine yS fun _ K31 => ?_
  refine ba ?_
  refine yS fun _ K32 => ?_
  refine yR ?_
  refine aa rfl (bq rfl rfl rfl rfl (bn (by assumption)) (Enc.len _)) ?_
  refine yL rfl rfl rfl ?_
  refine yA rfl rfl ?_
  refine yN ?_
  dsimp only [St.put]
  refine K32 _ ?_
  refine yS fun _ K33 => ?_
  refine yS fun _ K34 => ?_
  refine yR ?_
  refine yM rfl rfl ?_
  refine aa rfl (cc rfl rfl rfl) ?_
  refine yM rfl rfl ?_
  refine yM rfl rfl ?_
  refine yF rfl rfl rfl rfl ?_
  refine yL rfl rfl rfl ?_
  refine aa rfl (bh rfl rfl (List.length_map _)) ?_
  refine aa rfl ((ed (c := false) (lu rfl rfl rfl) (decide_eq_false (by rw [hk4]; omega)))) ?_
  refine aa rfl (cp rfl rfl (by constructor)) ?_
  refine yN ?_
  dsimp only [St.put]
  refine K34 _ ?_
  refine am rfl (fun h => by cases h) (fun _ => ?_)
  refine av ?_
  refine K33 _ ?_
  refine yR ?_
  refine yM rfl rfl ?_
  refine yF rfl rfl rfl rfl ?_
  refine yL rfl rfl rfl ?_
  refine yM rfl rfl ?_
  refine aa rfl (bq rfl rfl rfl rfl (bn (by assumption)) (Enc.len _)) ?_
  refine yL rfl rfl rfl ?_
  refine aa rfl (br rfl rfl rfl (by omega)) ?_
  refine yA rfl rfl ?_
  refine yN ?_
  dsimp only [St.put]
  refine K31 _ ?_
  refine yR ?_
  refine aa rfl (br rfl rfl rfl (by omega)) ?_
  refine yM rfl rfl ?_
  refine yN ?_
  dsimp only [St.put]
  rw [show A + B + ie (S.take j) (fun i => cx p true i.toNat) + cx p true z = A + B + ie (S.take (j + 1)) (fun i => cx p true i.toNat) by rw [e]; omega]
  exact ⟨j + 1, by omega, by omega, ⟨⟨rfl, rfl⟩, zF, zB, zN, zX⟩⟩
 replace hc := of_decide_eq_false hc
 rw [fp (show S.length ≤ j by omega)]
 refine ct ?_
 refine K27 _ ?_
 refine yS fun _ K35 => ?_
 refine yR ?_
 refine yM rfl rfl ?_
 refine yA rfl rfl ?_
 refine yN ?_
 dsimp only [St.put]
 refine K35 _ ?_
 refine ar ?_
 refine az rfl (by constructor) zN zS ?_
 exact vi (by rw [← hA, ← hB]; rfl)
end Go.Proofs.YtbbdginipiljdaaGreatDoor
namespace Go.AB
open Go Go.RowKit
open Go.AB.Enc (cells)
open Go.PB (aw ai PlaceD bc bf bd bp aq af ci bi c4 c7 r9)
/-- the readers of the bits of a number: firsts by the first ones, seconds by those from the fifth on -/
def rt (p : af) (A i : Nat) : Bool := bif decide (i < p.firsts.length) then A.testBit i else A.testBit (4 + (i - p.firsts.length))
theorem ufn (p : af) (A : Nat) : cm p.firsts.length (rt p A) = cm p.firsts.length fun i => A.testBit i := y4 fun i hi => by unfold rt; rw [decide_eq_true hi]; rfl
theorem ufm (p : af) (A : Nat) : (cm p.seconds.length fun i => rt p A (p.firsts.length + i)) = cm p.seconds.length fun i => A.testBit (4 + i) := y4 fun i _ => by unfold rt; rw [decide_eq_false (by omega), Nat.add_sub_cancel_left]; rfl
theorem v8 {n : Nat} {S : Nat → Bool} : ∀ z ∈ cm n S, 0 ≤ z ∧ z < (n : Int) := fun z hz => by
 obtain ⟨i, e, hi, _⟩ := memL_mem.1 hz
 omega
/-- the facts of the law -/
theorem ugy {p : af} (h : d7 p) (A : Nat) : nz p (je p (eg p)) (i5 p (eg p)) [] = l5 p ∧ l5 p ≤ nz p (cm p.firsts.length fun i => A.testBit i) (cm p.seconds.length fun i => A.testBit (4 + i)) [] ∧ (nz p (cm p.firsts.length fun i => A.testBit i) (cm p.seconds.length fun i => A.testBit (4 + i)) [] = l5 p → gk (g6 (cm p.firsts.length fun i => A.testBit i) (cm p.seconds.length fun i => A.testBit (4 + i))) (g6 (je p (eg p)) (i5 p (eg p))) = false) ∧ (∀ z ∈ je p (eg p), 0 ≤ z ∧ z < (p.firsts.length : Int)) ∧ (∀ z ∈ i5 p (eg p), 0 ≤ z ∧ z < (p.seconds.length : Int)) := by
 obtain ⟨T, hT, hf, hb⟩ := ug0 h
 rw [hT, ug5, ug2]
 have e1 := ub5 h (rt p A) []
 rw [ufn, ufm, xj] at e1
 have e2 := ub5 h T []
 rw [xj, hf] at e2
 refine ⟨e2, ?_, fun he => ?_, fun z hz => v8 z hz, fun z hz => v8 z hz⟩
 ·rw [e1]
  exact Net.most_le (yw h) _
 have e3 := un4 h.nf (b := p.seconds.length) (rt p A) T
 rw [ufn, ufm] at e3
 rw [e3]
 exact hb _ (e1.symm.trans he)
theorem z7 (a b : List Int) : (g6 a b).length = a.length + b.length := by simp [g6]
theorem uns (a : List Int) {b : List Int} {k : Nat} {z : Int} (h : b[k]? = some z) : g6 a (b.take (k + 1)) = g6 a (b.take k) ++ [z + 3] := by
 unfold g6
 rw [List.take_add_one, h, Option.toList_some, List.map_append, List.append_assoc]; rfl
end Go.AB
namespace Go.Proofs.YtbbdginipiljdaaGreatDoor
set_option maxRecDepth 10000
open Go Go.RowKit Go.AB
open Go.AB.Enc (cells)
open Go.PB (aw ai PlaceD bc bf bd bp aq af ci bi c4 c7 r9)
theorem udx (a b : List Int) (ha : a.length ≤ 100) (hb : b.length ≤ 100) (hz : ∀ z ∈ b, 0 ≤ z ∧ z ≤ 1000) : Pure Tryz.prog 33 [lst a, lst b] (lst (g6 a b)) := by
 refine cr Tryz.func33 rfl (fun m => (bu _ _)) fun G nx => ?_
 simp only [Tryz.ntmps33, List.length_cons, List.length_nil, Nat.reduceAdd, Nat.reduceSub]
 refine bv fun hlt => ?_
 dsimp only at hlt
 refine yS fun _ K1 => ?_
 refine yR ?_
 refine yA rfl rfl ?_
 refine yN ?_
 dsimp only [St.put]
 refine K1 _ ?_
 refine yS fun _ K2 => ?_
 refine yR ?_
 try dsimp only [St.put]
 refine ae rfl (um3 rfl (by decide) ?_)
 refine yM rfl rfl ?_
 try dsimp only [St.put]
 refine ae rfl (rn (xs := ([] : List Int)) a rfl rfl zG rfl rfl rfl rfl zA zA (fun v1 => ?_))
 refine yA rfl rfl ?_
 refine yN ?_
 dsimp only [St.put]
 simp only [List.nil_append]
 rw [show dd a = dd (g6 a (b.take 0)) by simp [g6], show a.length = (g6 a (b.take 0)).length by simp [g6]]
 refine K2 _ ?_
 refine yS fun _ K3 => ?_
 refine yS fun _ K4 => ?_
 refine yR ?_
 refine yM rfl rfl ?_
 refine aa rfl (bh rfl rfl (List.length_map _)) ?_
 refine yM rfl rfl ?_
 refine yN ?_
 dsimp only [St.put]
 refine K4 _ ?_
 refine ba ?_
 refine cd 14 ?_
 refine zQ ?_
 refine cz ((ak G nx (.arr v1 0 3 1 (g6 a (b.take 0)).length (dd (g6 a (b.take 0)))))) zX ?_
 dsimp only
 refine cy (X := Nat × Nat) (fun y => y.1 ≤ b.length) (fun y => b.length - y.1) (fun y => [(5, .own nx y.2 (g6 a (b.take y.1)).length), (7, .any), (13, .v (.int .i64 (y.1 : Int)))]) (fun y G' => (ak G nx (.arr y.2 0 3 1 (g6 a (b.take y.1)).length (dd (g6 a (b.take y.1)))))) (0, v1) rfl ?_ ?_ ?_ ?_ ?_ ?_
 ·exact Nat.zero_le _
 ·exact zF
 ·exact zX
 ·rintro ⟨k, v⟩ hI
  exact zL
 ·rintro ⟨k, v⟩ hI
  exact zH
 rintro ⟨k, v⟩ hI
 dsimp only at hI ⊢
 refine yS fun _ K5 => ?_
 refine yR ?_
 refine aa rfl (cc rfl rfl rfl) ?_
 refine yN ?_
 dsimp only [St.put]
 refine K5 _ ?_
 refine yS fun _ K6 => ?_
 refine am rfl (fun hc => ?_) (fun hc => ?_)
 ·replace hc := of_decide_eq_true hc
  obtain ⟨z, hk⟩ : ∃ z, b[k]? = some z := dc (by omega)
  have hzb := hz z (fw hk)
  have e := uns a hk
  have hl := z7 a (b.take k)
  have htl : (b.take k).length ≤ b.length := List.length_take_le' _ _
  refine av ?_
  refine K6 _ ?_
  refine yS fun _ K7 => ?_
  refine ba ?_
  refine yS fun _ K8 => ?_
  refine yR ?_
  refine aa rfl (bq rfl rfl rfl rfl (bn (by assumption)) (Enc.len _)) ?_
  refine yL rfl rfl rfl ?_
  refine yA rfl rfl ?_
  refine yN ?_
  dsimp only [St.put]
  refine K8 _ ?_
  refine yR ?_
  refine yM rfl rfl ?_
  refine yM rfl rfl ?_
  refine aa rfl (br rfl rfl rfl (by omega)) ?_
  try dsimp only [St.put]
  refine ae rfl (di rfl rfl rfl (by decide) (by decide) zR (by decide) ?_)
  try dsimp only [St.put]
  refine ae rfl (rn (xs := g6 a (b.take k)) [z + 3] rfl rfl zG rfl rfl rfl rfl (by simp only [List.length_cons, List.length_nil]; omega) (by simp only [List.length_cons, List.length_nil]; omega) (fun v2 => ?_))
  refine yA rfl rfl ?_
  refine yN ?_
  dsimp only [St.put]
  refine K7 _ ?_
  refine yR ?_
  refine aa rfl (br rfl rfl rfl (by omega)) ?_
  refine yM rfl rfl ?_
  refine yN ?_
  dsimp only [St.put]
  rw [← e]
  exact ⟨(k + 1, v2), by (dsimp only; omega), by (dsimp only; omega), ⟨⟨rfl, rfl⟩, zF, zB, zN, zX⟩⟩
 replace hc := of_decide_eq_false hc
 rw [fp (show b.length ≤ k by omega)]
 refine xa 5 (g6 a b) rfl zG rfl rfl rfl ?_
 refine ct ?_
 refine K3 _ ?_
 refine yS fun _ K9 => ?_
 refine yR ?_
 refine yM rfl rfl ?_
 refine yA rfl rfl ?_
 refine yN ?_
 dsimp only [St.put]
 refine K9 _ ?_
 refine ar ?_
 refine az rfl (by constructor) zN zS ?_
 rfl
theorem lWhy (n : Nat) (p : af) (h : fg p (cg p) = 0) : er n eo Tryz.prog 17 [val p] (.tup [lst (je p (eg p)), lst (i5 p (eg p)), .v (.int .i64 0)]) := by
 have := yi n p
 rwa [h, nh, nh] at this
theorem udw (p : af) (F S : List Int) (h : d7 p) (hF : ∀ z ∈ F, 0 ≤ z ∧ z < (p.firsts.length : Int)) (hS : ∀ z ∈ S, 0 ≤ z ∧ z < (p.seconds.length : Int)) (lF : F.length ≤ 20) (lS : S.length ≤ 20) : Pure Tryz.prog 32 [val (rg p), val p, lst F, lst S, .list [] .nil] (.v (.int .i64 (nz p F S []))) :=
 (ulx p F S [] h hF hS lF lS (by simp)).wk ⟨Wk.refl _, Wk.refl _, Wk.refl _, Wk.refl _, Wk.tok, trivial⟩
set_option maxHeartbeats 4000000 in
theorem why_s (p : af) (a : Int) : er 0 eo Tryz.prog 7 [val p, .v (.int .u8 a)] (.v (.bool true)) := fun G nx hF hnx => by
 refine g7 (G) (nx) Tryz.func7 rfl (.v) zN (fun hlt => zH) ?_
 simp only [Tryz.ntmps7, List.length_cons, List.length_nil, Nat.reduceAdd, Nat.reduceSub]
 refine bv fun hlt => ?_
 dsimp only at hlt
 refine li 1 (fun hfa => ?_)
 replace hfa := uhd hfa
 obtain ⟨A, rfl⟩ : ∃ A : Nat, a = (A : Int) := ⟨a.toNat, by omega⟩
 refine yS fun _ K1 => ?_
 refine yR ?_
 try dsimp only [St.put]
 refine yB rfl rfl rfl ?_
 refine yA rfl rfl ?_
 refine yN ?_
 dsimp only [St.put]
 refine K1 _ ?_
 refine yS fun _ K2 => ?_
 refine yR ?_
 try dsimp only [St.put]
 refine ae rfl ((dw rfl rfl rfl ((uol 0)) zG (by dsimp only [St.put]; omega) ?_))
 refine yA rfl rfl ?_
 refine yN ?_
 dsimp only [St.put]
 refine K2 _ ?_
 refine yS fun _ K3 => ?_
 refine yS fun _ K4 => ?_
 refine yR ?_
 refine yE rfl rfl rfl ?_
 try dsimp only [St.put]
 refine ae rfl (ax rfl rfl rfl (ulw p) ?_)
 refine aa rfl (dq rfl rfl) ?_
 refine ez (fun hs => ?_) (fun hs => ?_)
 ·skip
  refine yM rfl rfl ?_
  refine yK rfl ?_
  refine yK rfl ?_
  refine aa rfl (bw rfl rfl (by constructor)) ?_
  refine yN ?_
  dsimp only [St.put]
  refine K4 _ ?_
  refine am rfl (fun _ => ?_) (fun h => by cases h)
  refine yS fun _ K5 => ?_
  refine yR ?_
  refine yM rfl rfl ?_
  refine yA rfl rfl ?_
  refine yN ?_
  dsimp only [St.put]
  refine K5 _ ?_
  refine ar ?_
  refine az rfl (by constructor) zN zS ?_
  rfl
 have hrd : qs p = true := by simpa using hs
 have hC := (readyP_true.1 hrd).2
 obtain ⟨hok, _⟩ := lh hC
 have hn1 := hok.nf
 have hn2 := hok.ns
 have hL0 : fg p (cg p) = bif iz p then 0 else 8 := by rw [hC, re]
 obtain ⟨w1, w2, w3, w4, w5⟩ := ugy hok A
 refine yM rfl rfl ?_
 refine yM rfl rfl ?_
 refine aa rfl (dq rfl rfl) ?_
 refine aa rfl (cp rfl rfl (by constructor)) ?_
 refine yN ?_
 dsimp only [St.put]
 refine K4 _ ?_
 refine am rfl (fun h => by cases h) (fun _ => ?_)
 refine av ?_
 refine K3 _ ?_
 refine yS fun _ K6 => ?_
 by_cases hT : iz p = true
 ·have hL : fg p (cg p) = 0 := by rw [hL0, hT]; rfl
  refine yR ?_
  refine yE rfl rfl rfl ?_
  try dsimp only [St.put]
  refine ae rfl ((dw rfl rfl rfl ((lWhy 0 p hL)) zG (by dsimp only [St.put]; omega) ?_))
  refine yM rfl rfl ?_
  refine yX rfl rfl rfl rfl ?_
  refine yX rfl rfl rfl rfl ?_
  refine yX rfl rfl rfl rfl ?_
  refine yA rfl rfl ?_
  refine yA rfl rfl ?_
  refine yA rfl rfl ?_
  refine yN ?_
  dsimp only [St.put]
  refine K6 _ ?_
  refine yS fun _ K7 => ?_
  refine yR ?_
  refine yE rfl rfl rfl ?_
  try dsimp only [St.put]
  refine ae rfl ((dw rfl rfl rfl ((ulv 0 p hL)) zG (by dsimp only [St.put]; omega) ?_))
  refine yM rfl rfl ?_
  refine yX rfl rfl rfl rfl ?_
  refine yX rfl rfl rfl rfl ?_
  try dsimp only [St.put]
  refine ae rfl (dn rfl ?_)
  try dsimp only [St.put]
  refine ae rfl (c5 rfl rfl rfl zG rfl rfl (by rfl) ?_)
  refine yA rfl rfl ?_
  refine yN ?_
  dsimp only [St.put]
  refine K7 _ ?_
  refine f9 (i := 9) rfl zG zC ?_
  dsimp only
  refine yS fun _ K8 => ?_
  refine yS fun _ K9 => ?_
  refine yR ?_
  refine yM rfl rfl ?_
  refine aa rfl ((ed (c := false) (fe rfl rfl rfl) (th rfl))) ?_
  refine yN ?_
  dsimp only [St.put]
  refine K9 _ ?_
  refine am rfl (fun h => by cases h) (fun _ => ?_)
  refine av ?_
  refine K8 _ ?_
  refine yS fun _ K10 => ?_
  refine yR ?_
  refine yA rfl rfl ?_
  refine yA rfl rfl ?_
  refine yN ?_
  dsimp only [St.put]
  refine K10 _ ?_
  refine ng 11 3 1 rfl (by decide) ?_
  refine ng 12 3 1 rfl (by decide) ?_
  dsimp only [List.set_cons_zero, List.set_cons_succ]
  refine yS fun _ K11 => ?_
  refine yS fun _ K12 => ?_
  refine yR ?_
  refine yF rfl rfl rfl rfl ?_
  refine yL rfl rfl rfl ?_
  refine aa rfl (bh rfl rfl (List.length_map _)) ?_
  refine yM rfl rfl ?_
  refine yN ?_
  dsimp only [St.put]
  refine K12 _ ?_
  refine ba ?_
  refine cd 55 ?_
  refine zQ ?_
  refine cz ((ak (ak G (nx + 1) (.tip (dv 0 A).length 3 1)) (nx + 1 + 1) (.tip (cm 0 fun i => A.testBit (4 + i)).length 3 1))) zX ?_
  dsimp only
  refine cy (X := Nat) (fun k => k ≤ p.firsts.length) (fun k => p.firsts.length - k) (fun k => [(11, .list ((dv k A).map cells) (.tip (nx + 1))), (13, .any), (54, .v (.int .i64 (k : Int)))]) (fun k G' => (ak (ak G (nx + 1) (.tip (dv k A).length 3 1)) (nx + 1 + 1) (.tip (cm 0 fun i => A.testBit (4 + i)).length 3 1))) 0 rfl ?_ ?_ ?_ ?_ ?_ ?_
  ·exact Nat.zero_le _
  ·exact zF
  ·exact zX
  ·rintro k hI
   exact zL
  ·rintro k hI
   exact zH
  rintro k hI
  dsimp only at hI ⊢
  refine yS fun _ K13 => ?_
  refine yR ?_
  refine aa rfl (cc rfl rfl rfl) ?_
  refine yN ?_
  dsimp only [St.put]
  refine K13 _ ?_
  refine yS fun _ K14 => ?_
  refine am rfl (fun hc => ?_) (fun hc => ?_)
  ·replace hc := of_decide_eq_true hc
   have hml := py k A
   refine av ?_
   refine K14 _ ?_
   refine yS fun _ K15 => ?_
   refine ba ?_
   refine yS fun _ K16 => ?_
   refine yR ?_
   refine yM rfl rfl ?_
   refine yA rfl rfl ?_
   refine yN ?_
   dsimp only [St.put]
   refine K16 _ ?_
   refine yS fun _ K17 => ?_
   refine yR ?_
   refine yM rfl rfl ?_
   refine yM rfl rfl ?_
   refine aa rfl (ti (m := A) (n := k) rfl rfl rfl (by show k ≤ 8; omega) (by show (A : Int) ≤ 255; omega) (by decide)) ?_
   refine aa rfl (tn (m := A / 2 ^ k) rfl rfl rfl (Nat.lt_of_le_of_lt (Nat.div_le_self _ _) (by show A < 2 ^ 8; omega)) (by decide)) ?_
   refine aa rfl (ff rfl rfl rfl) ?_
   refine yN ?_
   dsimp only [St.put]
   refine K17 _ ?_
   refine am rfl (fun hc => ?_) (fun hc => ?_)
   ·have hb : A.testBit k = true := bit_eq.1 (of_decide_eq_true hc)
    refine yR ?_
    refine yM rfl rfl ?_
    refine yM rfl rfl ?_
    try dsimp only [St.put]
    refine ae rfl (di rfl rfl rfl (by decide) (by decide) zR (by decide) ?_)
    try dsimp only [St.put]
    refine ae rfl (ja ([(k : Int)]) rfl rfl zG zE rfl rfl zA ?_ zA)
    refine yA rfl rfl ?_
    refine yN ?_
    dsimp only [St.put]
    refine K15 _ ?_
    refine yR ?_
    refine aa rfl (br rfl rfl rfl (by omega)) ?_
    refine yM rfl rfl ?_
    refine yN ?_
    dsimp only [St.put]
    have e := vz k A
    first
    | (have q : A.testBit k = true := hb
       rw [q, cond_true] at e
       rw [← e]
       exact ⟨k + 1, by omega, by omega, ⟨⟨rfl, rfl⟩, zF, zB, zN, zX⟩⟩)
    | (have q : A.testBit k = false := hb
       rw [q, cond_false, List.append_nil] at e
       rw [← e]
       exact ⟨k + 1, by omega, by omega, ⟨⟨rfl, rfl⟩, zF, zB, zN, zX⟩⟩)
   have hb : A.testBit k = false := by
    have := of_decide_eq_false hc
    rw [bit_eq, Bool.not_eq_true] at this
    exact this
   refine av ?_
   refine K15 _ ?_
   refine yR ?_
   refine aa rfl (br rfl rfl rfl (by omega)) ?_
   refine yM rfl rfl ?_
   refine yN ?_
   dsimp only [St.put]
   have e := vz k A
   first
   | (have q : A.testBit k = true := hb
      rw [q, cond_true] at e
      rw [← e]
      exact ⟨k + 1, by omega, by omega, ⟨⟨rfl, rfl⟩, zF, zB, zN, zX⟩⟩)
   | (have q : A.testBit k = false := hb
      rw [q, cond_false, List.append_nil] at e
      rw [← e]
      exact ⟨k + 1, by omega, by omega, ⟨⟨rfl, rfl⟩, zF, zB, zN, zX⟩⟩)
  replace hc := of_decide_eq_false hc
  obtain rfl : k = p.firsts.length := by omega
  refine ct ?_
  refine K11 _ ?_
  refine yS fun _ K18 => ?_
  refine yS fun _ K19 => ?_
  refine yR ?_
  refine yF rfl rfl rfl rfl ?_
  refine yL rfl rfl rfl ?_
  refine aa rfl (bh rfl rfl (List.length_map _)) ?_
  refine yM rfl rfl ?_
  refine yN ?_
  dsimp only [St.put]
  refine K19 _ ?_
  refine ba ?_
  refine cd 71 ?_
  refine zQ ?_
  refine cz ((ak (ak G (nx + 1) (.tip (dv p.firsts.length A).length 3 1)) (nx + 1 + 1) (.tip (cm 0 fun i => A.testBit (4 + i)).length 3 1))) zX ?_
  dsimp only
  refine cy (X := Nat) (fun j => j ≤ p.seconds.length) (fun j => p.seconds.length - j) (fun j => [(12, .list ((cm j fun i => A.testBit (4 + i)).map cells) (.tip (nx + 1 + 1))), (14, .any), (70, .v (.int .i64 (j : Int)))]) (fun j G' => (ak (ak G (nx + 1) (.tip (dv p.firsts.length A).length 3 1)) (nx + 1 + 1) (.tip (cm j fun i => A.testBit (4 + i)).length 3 1))) 0 rfl ?_ ?_ ?_ ?_ ?_ ?_
  ·exact Nat.zero_le _
  ·exact zF
  ·exact zX
  ·rintro j hI
   exact zL
  ·rintro j hI
   exact zH
  rintro j hJ
  dsimp only at hJ ⊢
  refine yS fun _ K20 => ?_
  refine yR ?_
  refine aa rfl (cc rfl rfl rfl) ?_
  refine yN ?_
  dsimp only [St.put]
  refine K20 _ ?_
  refine yS fun _ K21 => ?_
  refine am rfl (fun hc => ?_) (fun hc => ?_)
  ·replace hc := of_decide_eq_true hc
   have hml := udd j fun i => A.testBit (4 + i)
   refine av ?_
   refine K21 _ ?_
   refine yS fun _ K22 => ?_
   refine ba ?_
   refine yS fun _ K23 => ?_
   refine yR ?_
   refine yM rfl rfl ?_
   refine yA rfl rfl ?_
   refine yN ?_
   dsimp only [St.put]
   refine K23 _ ?_
   refine yS fun _ K24 => ?_
   refine yR ?_
   refine yM rfl rfl ?_
   refine yM rfl rfl ?_
   refine aa rfl (br rfl rfl rfl (by omega)) ?_
   refine aa rfl (ti (m := A) (n := 4 + j) rfl rfl rfl (by show 4 + j ≤ 8; omega) (by show (A : Int) ≤ 255; omega) (by decide)) ?_
   refine aa rfl (tn (m := A / 2 ^ (4 + j)) rfl rfl rfl (Nat.lt_of_le_of_lt (Nat.div_le_self _ _) (by show A < 2 ^ 8; omega)) (by decide)) ?_
   refine aa rfl (ff rfl rfl rfl) ?_
   refine yN ?_
   dsimp only [St.put]
   refine K24 _ ?_
   refine am rfl (fun hc => ?_) (fun hc => ?_)
   ·have hb : A.testBit (4 + j) = true := bit_eq.1 (of_decide_eq_true hc)
    refine yR ?_
    refine yM rfl rfl ?_
    refine yM rfl rfl ?_
    try dsimp only [St.put]
    refine ae rfl (di rfl rfl rfl (by decide) (by decide) zR (by decide) ?_)
    try dsimp only [St.put]
    refine ae rfl (ja ([(j : Int)]) rfl rfl zG zE rfl rfl zA ?_ zA)
    refine yA rfl rfl ?_
    refine yN ?_
    dsimp only [St.put]
    refine K22 _ ?_
    refine yR ?_
    refine aa rfl (br rfl rfl rfl (by omega)) ?_
    refine yM rfl rfl ?_
    refine yN ?_
    dsimp only [St.put]
    have e := tq j fun i => A.testBit (4 + i)
    first
    | (have q : A.testBit (4 + j) = true := hb
       rw [q, cond_true] at e
       rw [← e]
       exact ⟨j + 1, by omega, by omega, ⟨⟨rfl, rfl⟩, zF, zB, zN, zX⟩⟩)
    | (have q : A.testBit (4 + j) = false := hb
       rw [q, cond_false, List.append_nil] at e
       rw [← e]
       exact ⟨j + 1, by omega, by omega, ⟨⟨rfl, rfl⟩, zF, zB, zN, zX⟩⟩)
   have hb : A.testBit (4 + j) = false := by
    have := of_decide_eq_false hc
    rw [bit_eq, Bool.not_eq_true] at this
    exact this
   refine av ?_
   refine K22 _ ?_
   refine yR ?_
   refine aa rfl (br rfl rfl rfl (by omega)) ?_
   refine yM rfl rfl ?_
   refine yN ?_
   dsimp only [St.put]
   have e := tq j fun i => A.testBit (4 + i)
   first
   | (have q : A.testBit (4 + j) = true := hb
      rw [q, cond_true] at e
      rw [← e]
      exact ⟨j + 1, by omega, by omega, ⟨⟨rfl, rfl⟩, zF, zB, zN, zX⟩⟩)
   | (have q : A.testBit (4 + j) = false := hb
      rw [q, cond_false, List.append_nil] at e
      rw [← e]
      exact ⟨j + 1, by omega, by omega, ⟨⟨rfl, rfl⟩, zF, zB, zN, zX⟩⟩)
  replace hc := of_decide_eq_false hc
  obtain rfl : j = p.seconds.length := by omega
  refine ru 11 (lst (dv p.firsts.length A)) rfl Wk.tok ?_
  refine ru 12 (lst (cm p.seconds.length fun i => A.testBit (4 + i))) rfl Wk.tok ?_
  have f1 := py p.firsts.length A
  have f2 := udd p.seconds.length fun i => A.testBit (4 + i)
  have f3 := uax p (eg p)
  have f4 := uaw p (eg p)
  have f5 : (eg p).length ≤ bj p := uad (nl p) (bj p)
  have f6 : bj p = p.firsts.length + p.seconds.length := rfl
  have m1 : ∀ z ∈ dv p.firsts.length A, 0 ≤ z ∧ z < (p.firsts.length : Int) := fun z hz => v8 (S := fun i => A.testBit i) z hz
  have m2 : ∀ z ∈ cm p.seconds.length fun i => A.testBit (4 + i), 0 ≤ z ∧ z < (p.seconds.length : Int) := fun z hz => v8 z hz
  refine ct ?_
  refine K18 _ ?_
  refine yS fun _ K25 => ?_
  refine yR ?_
  refine yE rfl rfl rfl ?_
  try dsimp only [St.put]
  refine ae rfl ((dw rfl rfl rfl ((ul2 0 p hC)) zG (by dsimp only [St.put]; omega) ?_))
  refine yM rfl rfl ?_
  refine yX rfl rfl rfl rfl ?_
  refine yX rfl rfl rfl rfl ?_
  try dsimp only [St.put]
  refine ae rfl (dn rfl ?_)
  try dsimp only [St.put]
  refine ae rfl (c5 rfl rfl rfl zG rfl rfl (by rfl) ?_)
  refine yA rfl rfl ?_
  refine yN ?_
  dsimp only [St.put]
  refine K25 _ ?_
  refine f9 (i := 15) rfl zG zC ?_
  dsimp only
  refine yS fun _ K26 => ?_
  refine yS fun _ K27 => ?_
  refine yR ?_
  refine yM rfl rfl ?_
  refine aa rfl (dq rfl rfl) ?_
  refine yN ?_
  dsimp only [St.put]
  refine K27 _ ?_
  refine am rfl (fun h => by cases h) (fun _ => ?_)
  refine av ?_
  refine K26 _ ?_
  refine yS fun _ K28 => ?_
  refine yR ?_
  refine yE rfl rfl rfl ?_
  refine yE rfl rfl rfl ?_
  refine yM rfl rfl ?_
  refine yM rfl rfl ?_
  try dsimp only [St.put]
  refine ae rfl (ax rfl rfl rfl (udw p (dv p.firsts.length A) (cm p.seconds.length fun i => A.testBit (4 + i)) hok m1 m2 (by omega) (by omega)) ?_)
  refine yA rfl rfl ?_
  refine yN ?_
  dsimp only [St.put]
  refine K28 _ ?_
  refine yS fun _ K29 => ?_
  refine yR ?_
  refine yA rfl rfl ?_
  refine yN ?_
  dsimp only [St.put]
  refine K29 _ ?_
  refine yS fun _ K30 => ?_
  refine gw [(0, none), (1, none), (2, none), (3, none), (4, none), (5, none), (6, none), (7, none), (8, none), (9, none), (11, none), (12, none), (10, none), (13, none), (14, none), (15, none), (16, none), (17, none), (18, none), (19, none), (20, none), (21, none), (22, none), (23, none), (24, none), (25, none), (26, none), (27, none), (28, none), (29, none), (31, none), (32, none), (33, none), (30, none), (34, none), (35, none), (36, none), (37, none), (38, none), (39, none)] (fun i => [18, 24, 30, 34, 35].contains i) (fun i => [10, 18, 24, 30, 34, 35].contains i) (fun i => [0, 1, 2, 3, 4, 5, 8, 9, 11, 13, 14, 15, 16, 17, 19, 20, 21, 22, 23, 25, 26, 27, 28, 29, 31, 32, 33, 36, 37, 38, 39].contains i) [] (by kernel_rfl) (by kernel_rfl) ?_
  refine xM rfl rfl rfl rfl rfl ?_
  refine xM rfl rfl rfl rfl rfl ?_
  refine xM rfl rfl rfl rfl rfl ?_
  refine ah rfl rfl rfl rfl ((ed (c := true) (ff rfl rfl rfl) (decide_eq_true rfl))) ?_
  refine ah rfl rfl rfl rfl (bw rfl rfl (by constructor)) ?_
  refine xM rfl rfl rfl rfl rfl ?_
  try dsimp only [St.put]
  refine ay rfl rfl rfl rfl (ep rfl rfl (Enc.len _)) ?_
  try dsimp only [St.put]
  refine ay rfl rfl rfl rfl (ep rfl rfl (Enc.len _)) ?_
  refine xM rfl rfl rfl rfl rfl ?_
  refine xM rfl rfl rfl rfl rfl ?_
  refine ah rfl rfl rfl rfl (cj rfl rfl rfl) ?_
  try dsimp only [St.put]
  refine ay rfl rfl rfl rfl (ca rfl rfl) ?_
  refine jj ?_
  try dsimp only [St.put]
  refine j7 rfl rfl rfl (ax rfl rfl rfl (udw p (je p (eg p)) (i5 p (eg p)) hok w4 w5 (by omega) (by omega)) ⟨zD, ?_⟩)
  refine cv rfl rfl rfl rfl ((ed (c := true) (ff rfl rfl rfl) (decide_eq_true w1))) ?_
  refine cv rfl rfl rfl rfl (bw rfl rfl (by constructor)) ?_
  refine cv rfl rfl rfl rfl (et rfl (by constructor)) ?_
  refine cv rfl rfl rfl rfl (et rfl (by constructor)) ?_
  refine cv rfl rfl rfl rfl (cj rfl rfl rfl) ?_
  try dsimp only [St.put]
  refine gx rfl rfl rfl rfl (SStep.e' (D := fun _ => True) (ca rfl rfl) ?_)
  refine cv rfl rfl rfl rfl ((ed (c := true) (lu rfl rfl rfl) (decide_eq_true w2))) ?_
  refine cv rfl rfl rfl rfl (bw rfl rfl (by constructor)) ?_
  refine cv rfl rfl rfl rfl (et rfl (by constructor)) ?_
  refine cv rfl rfl rfl rfl (et rfl (by constructor)) ?_
  refine cv rfl rfl rfl rfl (cj rfl rfl rfl) ?_
  try dsimp only [St.put]
  refine gx rfl rfl rfl rfl (SStep.e' (D := fun _ => True) (ca rfl rfl) ?_)
  refine cv rfl rfl rfl rfl (g8 rfl rfl rfl) ?_
  refine uow (fun hs => ?_) (fun hs => ?_)
  ·skip
   refine cv rfl rfl rfl rfl (et rfl (by constructor)) ?_
   refine ql rfl rfl rfl ?_
   refine ql rfl rfl rfl ?_
   refine ql rfl rfl rfl ?_
   refine ql rfl rfl rfl ?_
   refine ql rfl rfl rfl ?_
   refine ql rfl rfl rfl ?_
   refine uak rfl rfl rfl ?_
   refine uak rfl rfl rfl ?_
   refine uak rfl rfl rfl ?_
   refine ql rfl rfl rfl ?_
   refine cv rfl rfl rfl rfl (bw rfl rfl (by constructor)) ?_
   refine cv rfl rfl rfl rfl (bw rfl rfl (by constructor)) ?_
   refine cv rfl rfl rfl rfl (fh rfl (by constructor)) ?_
   refine jc ?_
   dsimp only [St.put]
   refine K30 _ ?_
   refine ar ?_
   refine az rfl (by constructor) zN zS ?_
   rfl
  have hle := of_decide_eq_false hs
  have hbf := w3 (by have w2' : l5 p ≤ nz p (dv p.firsts.length A) (cm p.seconds.length fun i => A.testBit (4 + i)) [] := w2; show nz p (dv p.firsts.length A) (cm p.seconds.length fun i => A.testBit (4 + i)) [] = l5 p; omega)
  refine cv rfl rfl rfl rfl (et rfl (by constructor)) ?_
  refine cv rfl rfl rfl rfl (et rfl (by constructor)) ?_
  refine cv rfl rfl rfl rfl (et rfl (by constructor)) ?_
  refine cv rfl rfl rfl rfl (et rfl (by constructor)) ?_
  refine cv rfl rfl rfl rfl (et rfl (by constructor)) ?_
  refine cv rfl rfl rfl rfl (et rfl (by constructor)) ?_
  refine cv rfl rfl rfl rfl (et rfl (by constructor)) ?_
  try dsimp only [St.put]
  refine gx rfl rfl rfl rfl (ax rfl rfl rfl (udx (dv p.firsts.length A) (cm p.seconds.length fun i => A.testBit (4 + i)) (by omega) (by omega) (fun z hz => by have := m2 z hz; omega)) ?_)
  try dsimp only [St.put]
  refine gx rfl rfl rfl rfl (ax rfl rfl rfl (udx (je p (eg p)) (i5 p (eg p)) (by omega) (by omega) (fun z hz => by have := w5 z hz; omega)) ?_)
  try dsimp only [St.put]
  refine gx rfl rfl rfl rfl (ax rfl rfl rfl ((show AB.Pure Tryz.prog 34 _ (.v (.bool false)) from hbf ▸ uji (g6 (dv p.firsts.length A) (cm p.seconds.length fun i => A.testBit (4 + i))) (g6 (je p (eg p)) (i5 p (eg p))) (by rw [z7]; omega) (by rw [z7]; omega))) ?_)
  refine cv rfl rfl rfl rfl (dq rfl rfl) ?_
  refine cv rfl rfl rfl rfl (cp rfl rfl (by constructor)) ?_
  refine cv rfl rfl rfl rfl (bw rfl rfl (by constructor)) ?_
  refine cv rfl rfl rfl rfl (fh rfl (by constructor)) ?_
  refine jc ?_
  dsimp only [St.put]
  refine K30 _ ?_
  refine ar ?_
  refine az rfl (by constructor) zN zS ?_
  rfl
 have hT0 : iz p = false := by simpa using hT
 have hL : fg p (cg p) = 8 := by rw [hL0, hT0]; rfl
 refine yR ?_
 refine yE rfl rfl rfl ?_
 try dsimp only [St.put]
 refine ae rfl ((dw rfl rfl rfl ((yi 0 p)) zG (by dsimp only [St.put]; omega) ?_))
 refine yM rfl rfl ?_
 refine yX rfl rfl rfl rfl ?_
 refine yX rfl rfl rfl rfl ?_
 refine yX rfl rfl rfl rfl ?_
 refine yA rfl rfl ?_
 refine yA rfl rfl ?_
 refine yA rfl rfl ?_
 refine yN ?_
 dsimp only [St.put]
 refine K6 _ ?_
 refine yS fun _ K31 => ?_
 refine yR ?_
 refine yE rfl rfl rfl ?_
 try dsimp only [St.put]
 refine ae rfl ((dw rfl rfl rfl ((yj 0 p)) zG (by dsimp only [St.put]; omega) ?_))
 refine yM rfl rfl ?_
 refine yX rfl rfl rfl rfl ?_
 refine yX rfl rfl rfl rfl ?_
 try dsimp only [St.put]
 refine ae rfl (dn rfl ?_)
 try dsimp only [St.put]
 refine ae rfl (c5 rfl rfl rfl zG rfl rfl (by rfl) ?_)
 refine yA rfl rfl ?_
 refine yN ?_
 dsimp only [St.put]
 refine K31 _ ?_
 refine f9 (i := 9) rfl zG zC ?_
 dsimp only
 refine yS fun _ K32 => ?_
 refine yS fun _ K33 => ?_
 refine yR ?_
 refine yM rfl rfl ?_
 refine aa rfl ((ed (c := true) (fe rfl rfl rfl) (by rw [hL]; rfl))) ?_
 refine yN ?_
 dsimp only [St.put]
 refine K33 _ ?_
 refine am rfl (fun _ => ?_) (fun h => by cases h)
 refine yS fun _ K34 => ?_
 refine yR ?_
 refine yM rfl rfl ?_
 refine yM rfl rfl ?_
 refine yM rfl rfl ?_
 refine aa rfl ((ed (c := true) (ff rfl rfl rfl) (decide_eq_true hL))) ?_
 refine aa rfl (bw rfl rfl (by constructor)) ?_
 refine yM rfl rfl ?_
 refine yM rfl rfl ?_
 refine yM rfl rfl ?_
 refine aa rfl ((ed (c := true) (ff rfl rfl rfl) (decide_eq_true rfl))) ?_
 refine aa rfl (bw rfl rfl (by constructor)) ?_
 refine yA rfl rfl ?_
 refine yN ?_
 dsimp only [St.put]
 refine K34 _ ?_
 refine ar ?_
 refine az rfl (by constructor) zN zS ?_
 rfl
end Go.Proofs.YtbbdginipiljdaaGreatDoor
namespace Go.AB
open Go Go.RowKit Go.ChangeShapes Go.WideShapes
end Go.AB
namespace Go.Proofs.YtbbdginipiljdaaGreatDoor
set_option maxRecDepth 10000
open Go.ChangeShapes Go.WideShapes Go.ChangeAt Go.RowKit Go.AB
open Go.AB.Enc (cells)
open Go.PB (aw ai PlaceD bc bf bd)
instance : OpensE Tryz.prog 3 Int := .int (by kernel_rfl)
instance : OpensE Tryz.prog 9 ByteArray := .str (by kernel_rfl)
instance : OpensE Tryz.prog 130 (List ByteArray) := .slice (e := 9) (by kernel_rfl) (by decide)
instance : OpensE Tryz.prog 127 (List (List ByteArray)) := .slice (e := 130) (by kernel_rfl) (by decide)
instance : OpensE Tryz.prog 129 aw := .chap (tI := 3) (tL := 127) (by kernel_rfl)
instance : OpensE Tryz.prog 22 (List aw) := .slice (e := 129) (by kernel_rfl) (by decide)
theorem uhj : jn Tryz.prog 24 [(0, 22, 1)] 1 = true := by kernel_rfl
instance : OpensE Tryz.prog 24 (List aw) := .one (e := 22) uhj
theorem ujj : jn Tryz.prog 61 [(0, 3, 1), (1, 3, 1), (2, 3, 1)] 3 = true := by kernel_rfl
instance : OpensE Tryz.prog 61 PlaceD := .place (tI := 3) ujj
theorem unu : Tryz.prog.underlying 4 = some .bool := by kernel_rfl
theorem ownZ : ownKnob Tryz.prog.godebug = none := by kernel_rfl
end Go.Proofs.YtbbdginipiljdaaGreatDoor
namespace Go.AB
open Go Go.RowKit Go.ChangeShapes Go.WideShapes
open Go.AB.Enc (cells)
open Go.PB (aw ai PlaceD bc bf bd bp aq af ci bi)
theorem OpensE.reader {P : Program} {t tI : TypeId} [oI : OpensE P tI Int] (h : jn P t [(0, tI, 1), (1, tI, 1)] 2 = true) : OpensE P t bp :=
 .struct (α := bp) h fun w cs hl hp => by
  obtain ⟨a, ha⟩ := hp (0, tI, 1) (by simp) Int inferInstance oI
  obtain ⟨b, hb⟩ := hp (1, tI, 1) (by simp) Int inferInstance oI
  match cs, hl with
  | [u, v], _ => exact ⟨⟨a, b⟩, Rs.cons (Rs.single_inv ha) hb⟩
theorem OpensE.page {P : Program} {t tI tL : TypeId} [oI : OpensE P tI Int] [oL : OpensE P tL (List PlaceD)] (h : jn P t [(0, tI, 1), (1, tI, 1), (2, tI, 1), (3, tI, 1), (4, tL, 1), (5, tL, 1)] 6 = true) : OpensE P t aq :=
 .struct (α := aq) h fun w cs hl hp => by
  obtain ⟨a, ha⟩ := hp (0, tI, 1) (by simp) Int inferInstance oI
  obtain ⟨b, hb⟩ := hp (1, tI, 1) (by simp) Int inferInstance oI
  obtain ⟨c, hc⟩ := hp (2, tI, 1) (by simp) Int inferInstance oI
  obtain ⟨d, hd⟩ := hp (3, tI, 1) (by simp) Int inferInstance oI
  obtain ⟨e, he⟩ := hp (4, tL, 1) (by simp) (List PlaceD) inferInstance oL
  obtain ⟨f, hf⟩ := hp (5, tL, 1) (by simp) (List PlaceD) inferInstance oL
  match cs, hl with
  | [u0, u1, u2, u3, u4, u5], _ => exact ⟨⟨a, b, c, d, e, f⟩, Rs.cons (Rs.single_inv ha) (Rs.cons (Rs.single_inv hb) (Rs.cons (Rs.single_inv hc) (Rs.cons (Rs.single_inv hd) (Rs.cons (Rs.single_inv he) hf))))⟩
theorem OpensE.proofs {P : Program} {t tT tR tP : TypeId} [oT : OpensE P tT (List aw)] [oR : OpensE P tR (List bp)] [oP : OpensE P tP (List aq)] (h : jn P t [(0, tT, 1), (1, tR, 1), (2, tR, 1), (3, tP, 1)] 4 = true) : OpensE P t af :=
 .struct (α := af) h fun w cs hl hp => by
  obtain ⟨a, ha⟩ := hp (0, tT, 1) (by simp) (List aw) inferInstance oT
  obtain ⟨b, hb⟩ := hp (1, tR, 1) (by simp) (List bp) inferInstance oR
  obtain ⟨c, hc⟩ := hp (2, tR, 1) (by simp) (List bp) inferInstance oR
  obtain ⟨d, hd⟩ := hp (3, tP, 1) (by simp) (List aq) inferInstance oP
  match cs, hl with
  | [u0, u1, u2, u3], _ => exact ⟨⟨a, b, c, d⟩, Rs.cons (Rs.single_inv ha) (Rs.cons (Rs.single_inv hb) (Rs.cons (Rs.single_inv hc) hd))⟩
end Go.AB
namespace Go.AB
open Go Go.RowKit Go.ChangeShapes Go.WideShapes
open Go.AB.Enc (cells)
open Go.PB (aw ai PlaceD bp aq af ci bi)
def uee (P : Program) (t : TypeId) : Bool := match P.underlying t with | some (.func _ _ _) => true | _ => false
theorem zm {P : Program} {t : TypeId} (h : uee P t = true) : ∃ ps rs va, P.underlying t = some (.func ps rs va) := by
 unfold uee at h
 split at h
 ·rename_i ps rs va he; exact ⟨ps, rs, va, he⟩
 ·cases h
/-- Functions that lie in a variable's cells. -/
theorem umv {W : World} {b : Nat} {cs : List C} (hne : cs ≠ []) (hone : ∀ c ∈ cs, c.one = true) (us : Nat → Value) (hc : ∀ j, j < cs.length → W.cell? ⟨b, j, none⟩ = some (us j)) (hr : ∀ j c, cs[j]? = some c → R (jt W) W c (us j)) : R (jt W) W (.elem cs) (.pointer (some ⟨b, 0, none⟩)) := by
 have hl : 0 < cs.length := List.length_pos_iff.2 hne
 refine .elem hne hone (.inr ⟨b, 0, rfl, ?_, fun j hj => by rw [Nat.zero_add]; exact hc j hj⟩) hr
 have := ufd (hc (cs.length - 1) (by omega))
 show 0 + cs.length ≤ qe W b
 omega
theorem uls {P : Program} {f : FuncId} {cs : List C} {v gv : Value} {gc : C} (hp : er 0 (.fact gv gc) P f cs (.v v)) {w : World} {args : List Value} (hK : R (jt w) w gc gv) (hr : Rs (jt w) w cs args) :
  Calls P f args.toArray w fun e w' => e = .returned v ∧ Below w.heap.size w w' :=
 ult (fun G nx hG => by
  intro E w' as' hrs hsg
  exact hp G nx hG (by obtain ⟨t, _⟩ := hsg.obj 0 _ hG; have := hsg.lt 0 _ t; rw [hsg.nx] at this; exact this) E w' as' hrs hsg) hK hr
/-- a cell of a function's type, as it reads -/
theorem rk {P : Program} {W : World} {t : TypeId} {ps rs : Array TypeId} {va : Bool} {v : Value} {b : UInt8} {r : List UInt8} {f0 : FuncId} (hu : P.underlying t = some (.func ps rs va)) (hv : IsFunc v) (hd : veil (funcToken P) t v = .held (b :: r))
  (hone : ((List.range P.funcs.size).filter fun f => (P.funcs[f]?).any (·.name.toUTF8.data.toList == b :: r)) = [f0]) : v = .func (.func f0) #[] #[] :=
 Go.func_of_trod (w := W) (base := 0) (sp := fun _ => true) (fuel := 1) (q := []) hu hone (by
  have := trod_func (enc := funcToken P) hu (W := W) (base := 0) (sp := fun _ => true) hv 0
  rw [hd] at this
  exact this)
end Go.AB
namespace Go.Proofs.YtbbdginipiljdaaGreatDoor
set_option maxRecDepth 10000
open Go.ChangeShapes Go.WideShapes Go.ChangeAt Go.RowKit Go.AB
open Go.AB.Enc (cells)
open Go.PB (aw ai PlaceD bp aq af ci bi)
instance : OpensE Tryz.prog 67 bp := .reader (tI := 3) (by kernel_rfl)
instance : OpensE Tryz.prog 25 (List bp) := .slice (e := 67) (by kernel_rfl) (by decide)
instance : OpensE Tryz.prog 56 (List PlaceD) := .slice (e := 61) (by kernel_rfl) (by decide)
instance : OpensE Tryz.prog 58 aq := .page (tI := 3) (tL := 56) (by kernel_rfl)
instance : OpensE Tryz.prog 26 (List aq) := .slice (e := 58) (by kernel_rfl) (by decide)
theorem ub6 : jn Tryz.prog 28 [(0, 24, 1), (1, 25, 1), (2, 25, 1), (3, 26, 1)] 4 = true := by kernel_rfl
instance : OpensE Tryz.prog 28 af := .proofs (tT := 24) (tR := 25) (tP := 26) ub6
theorem u8OkL : ua Tryz.prog 5 .u8 = true := by kernel_rfl
theorem gSides : Tryz.prog.globalNamed "postil/proof.sides" = some 0 := by kernel_rfl
theorem tSides : (Tryz.prog.globals[0]?).map (·.type) = some 141 := by kernel_rfl
theorem uhc : Tryz.prog.underlying 141 = some (.array 2 140) := by kernel_rfl
theorem unp : Tryz.prog.cellsOf 141 = 6 := by kernel_rfl
theorem ufg : Tryz.prog.cellsOf 140 = 3 := by kernel_rfl
theorem ubn : jn Tryz.prog 140 [(0, 136, 1), (1, 137, 1), (2, 138, 1)] 3 = true := by kernel_rfl
theorem ueo : ∃ ps rs va, Tryz.prog.underlying 136 = some (.func ps rs va) := zm (by kernel_rfl)
theorem ueq : ∃ ps rs va, Tryz.prog.underlying 137 = some (.func ps rs va) := zm (by kernel_rfl)
theorem uep : ∃ ps rs va, Tryz.prog.underlying 138 = some (.func ps rs va) := zm (by kernel_rfl)
theorem ubh {W : World} {m : Nat} {cs : List Value} {y : DataW (List UInt8) × List MemPlace} {d0 d1 d2 : DataW (List UInt8)} (hy : y.1 = .agg [d0, d1, d2])
  (h : DataW.trod (funcToken Tryz.prog) Tryz.prog W 0 (fun _ => true) true m 140 cs = some y) : ∃ v0 v1 v2, cs = [v0, v1, v2] ∧ (IsFunc v0 ∧ veil (funcToken Tryz.prog) 136 v0 = d0) ∧ (IsFunc v1 ∧ veil (funcToken Tryz.prog) 137 v1 = d1) ∧ (IsFunc v2 ∧ veil (funcToken Tryz.prog) 138 v2 = d2) := by
 obtain ⟨_, fs, he⟩ := uy ubn
 obtain ⟨xs, m', _, e1, hl, hlen, hf⟩ := DataW.trod_struct he h
 rw [ufg] at hl
 have hfs : fs.toList.map (fun f => (f.offset, f.type, Tryz.prog.cellsOf f.type)) = [(0, 136, 1), (1, 137, 1), (2, 138, 1)] := by
  have := ubn
  unfold jn at this
  rw [he] at this
  simp only [Bool.and_eq_true, beq_iff_eq] at this
  exact this.1
 obtain ⟨l⟩ := fs
 match l, hfs with
 | [f0, f1, f2], hfs =>
  simp only [List.map_cons, List.map_nil, List.cons.injEq, Prod.mk.injEq, and_true] at hfs
  obtain ⟨⟨a1, a2, a3⟩, ⟨b1, b2, b3⟩, ⟨c1, c2, c3⟩⟩ := hfs
  have h0 := hf 0 f0 rfl
  have h1 := hf 1 f1 rfl
  have h2 := hf 2 f2 rfl
  match cs, hl with
  | [u0, u1, u2], _ =>
   match xs, hlen with
   | [x0, x1, x2], _ =>
    subst e1
    simp only [List.map_cons, List.map_nil, DataW.agg.injEq, List.cons.injEq, and_true] at hy
    rw [a3, a1, a2] at h0
    rw [b3, b1, b2] at h1
    rw [c3, c1, c2] at h2
    obtain ⟨ps, rs, va, hu⟩ := ueo
    obtain ⟨ps', rs', va', hu'⟩ := ueq
    obtain ⟨ps2, rs2, va2, hu2⟩ := uep
    obtain ⟨v0, q0, q1, q2⟩ := Go.RowKit.func_of_trod hu h0
    obtain ⟨v1, q3, q4, q5⟩ := Go.RowKit.func_of_trod hu' h1
    obtain ⟨v2, q6, q7, q8⟩ := Go.RowKit.func_of_trod hu2 h2
    have e0 : u0 = v0 := by simpa using q0
    have e1 : u1 = v1 := by simpa using q3
    have e2 : u2 = v2 := by simpa using q6
    subst e0; subst e1; subst e2
    have hx0 : x0 = (veil (funcToken Tryz.prog) 136 u0, []) := by simpa using q2
    have hx1 : x1 = (veil (funcToken Tryz.prog) 137 u1, []) := by simpa using q5
    have hx2 : x2 = (veil (funcToken Tryz.prog) 138 u2, []) := by simpa using q8
    subst hx0; subst hx1; subst hx2
    obtain ⟨k0, k1, k2⟩ := hy
    exact ⟨u0, u1, u2, rfl, ⟨q1, k0⟩, ⟨q4, k1⟩, ⟨q7, k2⟩⟩
 | [], hfs => exact absurd hfs (by simp)
 | [_], hfs => exact absurd hfs (by simp)
 | [_, _], hfs => exact absurd hfs (by simp)
 | _ :: _ :: _ :: _ :: _, hfs => exact absurd hfs (by simp)
theorem uh6 {W : World} (h : funcsAt Tryz.prog W "postil/proof.sides" (.agg [.agg [.iface "func" (.lit (.string [112, 111, 115, 116, 105, 108, 47, 112, 114, 111, 111, 102, 46, 115, 105, 100, 101, 115, 36, 49])), .iface "func" (.lit (.string [112, 111, 115, 116, 105, 108, 47, 112, 114, 111, 111, 102, 46, 115, 105, 100, 101, 115, 36, 50])), .iface "func" (.lit (.string [112, 111, 115, 116, 105, 108, 47, 112, 114, 111, 111, 102, 46, 115, 105, 100, 101, 115, 36, 51]))], .agg [.iface "func" (.lit (.string [112, 111, 115, 116, 105, 108, 47, 112, 114, 111, 111, 102, 46, 115, 105, 100, 101, 115, 36, 52])), .iface "func" (.lit (.string [112, 111, 115, 116, 105, 108, 47, 112, 114, 111, 111, 102, 46, 115, 105, 100, 101, 115, 36, 53])), .iface "func" (.lit (.string [112, 111, 115, 116, 105, 108, 47, 112, 114, 111, 111, 102, 46, 115, 105, 100, 101, 115, 36, 54]))]])) : R (jt W) W (.elem sidL) (.pointer (some ⟨0, 0, none⟩)) := by
 obtain ⟨g, t, cs, fuel, p, hg, ht, hv, hd⟩ := h
 obtain rfl := Option.some.inj (gSides.symm.trans hg)
 obtain rfl := Option.some.inj (tSides.symm.trans ht)
 obtain ⟨xs, m, _, e1, hl, hn, hel⟩ := DataW.trod_array uhc hd
 rw [unp] at hl
 rw [ufg] at hel
 have hcell := fun i => World.var?_cell hg hv i
 obtain ⟨l⟩ := cs
 dsimp only at hl hel hcell
 match l, hl with
 | [u0, u1, u2, u3, u4, u5], _ =>
  match xs, hn with
  | [x0, x1], _ =>
   simp only [Prod.mk.injEq] at e1
   have e2 : (.agg [.agg [.held [112, 111, 115, 116, 105, 108, 47, 112, 114, 111, 111, 102, 46, 115, 105, 100, 101, 115, 36, 49], .held [112, 111, 115, 116, 105, 108, 47, 112, 114, 111, 111, 102, 46, 115, 105, 100, 101, 115, 36, 50], .held [112, 111, 115, 116, 105, 108, 47, 112, 114, 111, 111, 102, 46, 115, 105, 100, 101, 115, 36, 51]], .agg [.held [112, 111, 115, 116, 105, 108, 47, 112, 114, 111, 111, 102, 46, 115, 105, 100, 101, 115, 36, 52], .held [112, 111, 115, 116, 105, 108, 47, 112, 114, 111, 111, 102, 46, 115, 105, 100, 101, 115, 36, 53], .held [112, 111, 115, 116, 105, 108, 47, 112, 114, 111, 111, 102, 46, 115, 105, 100, 101, 115, 36, 54]]] : DataW (List UInt8)) = .agg [x0.1, x1.1] := e1.1
   simp only [DataW.agg.injEq, List.cons.injEq, and_true] at e2
   obtain ⟨a0, a1, a2, q0, ⟨a3, a4⟩, ⟨a5, a6⟩, ⟨a7, a8⟩⟩ := ubh e2.1.symm (hel 0 (by omega))
   obtain ⟨b0, b1, b2, q1, ⟨b3, b4⟩, ⟨b5, b6⟩, ⟨b7, b8⟩⟩ := ubh e2.2.symm (hel 1 (by omega))
   simp only [Nat.zero_mul, Nat.one_mul, List.drop_zero, List.drop_succ_cons, List.take_succ_cons, List.take_zero, List.cons.injEq, and_true] at q0 q1
   obtain ⟨rfl, rfl, rfl⟩ := q0
   obtain ⟨rfl, rfl, rfl⟩ := q1
   obtain ⟨ps, rs, va, hu⟩ := ueo
   obtain ⟨ps', rs', va', hu'⟩ := ueq
   obtain ⟨ps2, rs2, va2, hu2⟩ := uep
   obtain rfl := rk (W := W) (f0 := 157) hu a3 a4 (by kernel_rfl)
   obtain rfl := rk (W := W) (f0 := 158) hu' a5 a6 (by kernel_rfl)
   obtain rfl := rk (W := W) (f0 := 159) hu2 a7 a8 (by kernel_rfl)
   obtain rfl := rk (W := W) (f0 := 160) hu b3 b4 (by kernel_rfl)
   obtain rfl := rk (W := W) (f0 := 161) hu' b5 b6 (by kernel_rfl)
   obtain rfl := rk (W := W) (f0 := 162) hu2 b7 b8 (by kernel_rfl)
   let L : List Value := [.func (.func 157) #[] #[], .func (.func 158) #[] #[], .func (.func 159) #[] #[], .func (.func 160) #[] #[], .func (.func 161) #[] #[], .func (.func 162) #[] #[]]
   refine umv (by simp [sidL, nm]) (by intro c hc; simp only [sidL, nm, List.cons_append, List.nil_append, List.mem_cons, List.not_mem_nil, or_false] at hc; rcases hc with rfl | rfl | rfl | rfl | rfl | rfl <;> rfl) (fun j => L.getD j undef) (fun j hj => ?_) (fun j c hc => ?_)
   ·have := hcell j
    have hj' : j < 6 := hj
    rw [this]
    show (L.toArray)[j]? = _
    rw [List.getElem?_toArray, List.getD_eq_getElem?_getD, List.getElem?_eq_getElem (show j < L.length from hj')]
    rfl
   ·match j, hc with
    | 0, hc => cases hc; exact Rs.fn (vs := []) Rs.nil
    | 1, hc => cases hc; exact Rs.fn (vs := []) Rs.nil
    | 2, hc => cases hc; exact Rs.fn (vs := []) Rs.nil
    | 3, hc => cases hc; exact Rs.fn (vs := []) Rs.nil
    | 4, hc => cases hc; exact Rs.fn (vs := []) Rs.nil
    | 5, hc => cases hc; exact Rs.fn (vs := []) Rs.nil
abbrev t6 : List (String × DataW Unit) := [("postil/proof.sides", Rows.laid_postil_proof_sides)]
set_option maxRecDepth 100000 in
/-- The door's own heap meets the condition. -/
theorem um7 (os : Os) (args : Array Value) : laidMetH Tryz.prog t6 ((World.doorLaid Tryz.prog 600 os).forCall (fun _ _ => 0) ⟨#[], args, []⟩).memory :=
 laidMetH_of_parts3 (fuel := 8) (laidMet_of_run' 8 (by kernel_rfl) (by kernel_rfl)) (by kernel_rfl) (by kernel_rfl)
theorem uh5 {W : World} (h : laidMetH Tryz.prog t6 W) : R (jt W) W (.elem sidL) (.pointer (some ⟨0, 0, none⟩)) := uh6 (h.funcs (List.mem_cons_self ..))
end Go.Proofs.YtbbdginipiljdaaGreatDoor
namespace Go.AB
open Go Go.RowKit Go.ChangeShapes Go.WideShapes
section
variable {H : Type} {enc : TypeId × Value → H} {P : Program} {w : World} {base : Nat} {spare : Nat → Bool} {held : Bool}
end
end Go.AB
