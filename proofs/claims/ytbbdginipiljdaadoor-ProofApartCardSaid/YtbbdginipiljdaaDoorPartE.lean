/-
  What the walks through the program rest on: values, states, steps, calls (RkTotal, RgSets, QpRef, QqRef, RlChief, SaAlive, PkGuess, SbFacts, SdSums, QsTwin, QsRef, PrOnly, PnPages, SoApart, OpenL, OpenW, OpenS, Trod).
-/
import Derived.Test.YtbbdginipiljdaaDoorPartD
import Derived.Test.YtbbdginipiljdaaDoorPartC
import Derived.Test.YtbbdginipiljdaaDoorRows
import Derived.LaidMore
import Derived.RowKitVeiled
import Derived.Carry
namespace Go.AB
open Go Go.RowKit
open Go.AB.Enc (cells)
open Go.PB (av ai PlaceD az bf ba bl am af co bj dc dg)
theorem r8 {p : af} {e : Int} (h : er p e = 0) : e = 0 ∧ ga p = true := by
 by_cases h0 : e = 0
 ·subst h0
  rw [p7] at h
  cases ht : ga p
  ·rw [ht] at h; cases h
  exact ⟨rfl, rfl⟩
 rw [ud6 h0] at h; exact absurd h h0
end Go.AB
namespace Go.Proofs.YtbbdginipiljdaaDoor
set_option maxRecDepth 10000
open Go Go.RowKit Go.AB
open Go.AB.Enc (cells)
open Go.PB (av ai PlaceD az bf ba bl am af co bj dc dg)
theorem ugh {p : af} {n : Int} (h : eh p n = 0) : ez p ∧ pgC p n = .elem (ku p) := ⟨(lg (rf h).1).1, tz h⟩
theorem qf {p : af} (h : cm p = 0) : ez p ∧ jx p = .elem (ku p) := ⟨(lg h).1, wz h⟩
theorem t7 (n : Nat) (p : af) (c : C) (e : Int) (h : e = 0 → ez p ∧ c = .elem (ku p)) (hE : er p e = 0) : fu n fm Tryd.prog 53 [c, .v (.int .i64 e)] (.tup [val (gh p (bv p) (cj p)), .v (.int .i64 0)]) := by
 have := ucw n p c e h
 rwa [hE, decide_eq_true rfl, cond_true] at this
theorem t8 (n : Nat) (p : af) (c : C) (e : Int) (h : e = 0 → ez p ∧ c = .elem (ku p)) (hE : er p e ≠ 0) : fu n fm Tryd.prog 53 [c, .v (.int .i64 e)] (.tup [.agg [.list [] .nil, .list [] .nil, .list [] .nil], .v (.int .i64 (er p e))]) := by
 have := ucw n p c e h
 rwa [decide_eq_false hE, cond_false] at this
theorem ucx (n : Nat) (p : af) (m : Int) : fu n fm Tryd.prog 32 [val p, .v (.int .i64 m)] (.tup [val (ox p m), .v (.int .i64 (er p (eh p m)))]) := fun G nx hF hnx => by
 refine iz (G) (nx) Tryd.func32 rfl (.tup (ci (ei _ _) (ci .v dh))) zN (fun hlt => zH) ?_
 simp only [Tryd.ntmps32, List.length_cons, List.length_nil, Nat.reduceAdd, Nat.reduceSub]
 refine bu fun hlt => ?_
 dsimp only at hlt
 refine yS fun _ K1 => ?_
 refine yR ?_
 try dsimp only [St.put]
 refine yB rfl rfl rfl ?_
 try dsimp only [St.put]
 refine ae rfl (dd rfl ?_)
 refine yA rfl rfl ?_
 refine yN ?_
 dsimp only [St.put]
 refine K1 _ ?_
 refine yS fun _ K2 => ?_
 by_cases hL : er p (eh p m) = 0
 ·refine yR ?_
  refine yE rfl rfl rfl ?_
  refine yM rfl rfl ?_
  try dsimp only [St.put]
  refine ae rfl (ec rfl rfl rfl (rt n p m) zG (by dsimp only [St.put]; omega) ?_)
  refine yX rfl rfl rfl rfl ?_
  refine yX rfl rfl rfl rfl ?_
  try dsimp only [St.put]
  refine ae rfl (ec rfl rfl rfl (t7 n p (pgC p m) (eh p m) ugh hL) zG (by dsimp only [St.put]; omega) ?_)
  refine yM rfl rfl ?_
  refine yX rfl rfl rfl rfl ?_
  refine yX rfl rfl rfl rfl ?_
  try dsimp only [St.put]
  refine ae rfl (dd rfl ?_)
  try dsimp only [St.put]
  refine ae rfl (cw rfl rfl rfl zG rfl rfl (by rfl) ?_)
  refine yA rfl rfl ?_
  refine yN ?_
  dsimp only [St.put]
  refine K2 _ ?_
  refine yS fun _ K3 => ?_
  refine yS fun _ K4 => ?_
  refine yR ?_
  refine yM rfl rfl ?_
  refine aa rfl (ff rfl rfl rfl) ?_
  refine yN ?_
  dsimp only [St.put]
  refine K4 _ ?_
  refine ar rfl (fun hc => ?_) (fun hc => ?_)
  ·exact absurd hc (by decide)
  obtain ⟨h0, hTB⟩ := r8 hL
  obtain ⟨hc0, j, x, rfl, hx, hpo⟩ := rf h0
  obtain ⟨hok, _⟩ := lg hc0
  have hV : ox p (j : Int) = ⟨0, (bi p).alone (bv p) (cj p) j⟩ := by unfold ox; rw [hL, qj, Int.toNat_natCast]
  refine ax ?_
  refine K3 _ ?_
  refine yS fun _ K5 => ?_
  refine yR ?_
  try dsimp only [St.put]
  refine bg rfl (io rfl rfl zG trivial (by rfl)) ?_
  refine yM rfl rfl ?_
  try dsimp only [St.put]
  refine ae rfl (ay rfl rfl rfl (ucz p (bv p) (cj p) j x hok hx) ?_)
  refine aa rfl (ie rfl rfl) ?_
  try dsimp only [St.put]
  refine ae rfl (cw rfl rfl rfl zG rfl rfl (by rfl) ?_)
  refine yA rfl rfl ?_
  refine yN ?_
  dsimp only [St.put]
  refine K5 _ ?_
  refine aq ?_
  refine ij rfl (jv rfl zG (by rfl) zC rfl) (ef (by constructor)) zN zS ?_ ?_
  ·rw [hV]; exact zW
  rw [hL]; exact zW
 refine yR ?_
 refine yE rfl rfl rfl ?_
 refine yM rfl rfl ?_
 try dsimp only [St.put]
 refine ae rfl (ec rfl rfl rfl (rt n p m) zG (by dsimp only [St.put]; omega) ?_)
 refine yX rfl rfl rfl rfl ?_
 refine yX rfl rfl rfl rfl ?_
 try dsimp only [St.put]
 refine ae rfl (ec rfl rfl rfl (t8 n p (pgC p m) (eh p m) ugh hL) zG (by dsimp only [St.put]; omega) ?_)
 refine yM rfl rfl ?_
 refine yX rfl rfl rfl rfl ?_
 refine yX rfl rfl rfl rfl ?_
 try dsimp only [St.put]
 refine ae rfl (dd rfl ?_)
 try dsimp only [St.put]
 refine ae rfl (cw rfl rfl rfl zG rfl rfl (by rfl) ?_)
 refine yA rfl rfl ?_
 refine yN ?_
 dsimp only [St.put]
 refine K2 _ ?_
 refine yS fun _ K6 => ?_
 refine yS fun _ K7 => ?_
 refine yR ?_
 refine yM rfl rfl ?_
 refine aa rfl (ff rfl rfl rfl) ?_
 refine yN ?_
 dsimp only [St.put]
 refine K7 _ ?_
 refine ar rfl (fun hc => ?_) (fun hc => ?_)
 ·have hV : ox p m = ⟨0, 0⟩ := by unfold ox; rw [mb hL]
  refine yS fun _ K8 => ?_
  refine yR ?_
  refine aa rfl (ie rfl rfl) ?_
  refine yM rfl rfl ?_
  try dsimp only [St.put]
  refine ae rfl (cw rfl rfl rfl zG rfl rfl (by rfl) ?_)
  refine yA rfl rfl ?_
  refine yN ?_
  dsimp only [St.put]
  refine K8 _ ?_
  refine aq ?_
  refine ij rfl (jv rfl zG (by rfl) zC rfl) (ef (by constructor)) zN zS ?_ ?_
  ·rw [hV]; exact zW
  exact zW
 exact absurd (ip hc) hL
theorem wu (n : Nat) (p : af) : fu n fm Tryd.prog 31 [val p] (.tup [val (me p), .v (.int .i64 (er p (cm p)))]) := fun G nx hF hnx => by
 refine iz (G) (nx) Tryd.func31 rfl (.tup (ci (ei _ _) (ci .v dh))) zN (fun hlt => zH) ?_
 simp only [Tryd.ntmps31, List.length_cons, List.length_nil, Nat.reduceAdd, Nat.reduceSub]
 refine bu fun hlt => ?_
 dsimp only at hlt
 refine yS fun _ K1 => ?_
 refine yR ?_
 try dsimp only [St.put]
 refine yB rfl rfl rfl ?_
 try dsimp only [St.put]
 refine ae rfl (dd rfl ?_)
 refine yA rfl rfl ?_
 refine yN ?_
 dsimp only [St.put]
 refine K1 _ ?_
 refine yS fun _ K2 => ?_
 by_cases hL : er p (cm p) = 0
 ·refine yR ?_
  refine yE rfl rfl rfl ?_
  try dsimp only [St.put]
  refine ae rfl (ec rfl rfl rfl (oz n p) zG (by dsimp only [St.put]; omega) ?_)
  refine yX rfl rfl rfl rfl ?_
  refine yX rfl rfl rfl rfl ?_
  try dsimp only [St.put]
  refine ae rfl (ec rfl rfl rfl (t7 n p (jx p) (cm p) qf hL) zG (by dsimp only [St.put]; omega) ?_)
  refine yM rfl rfl ?_
  refine yX rfl rfl rfl rfl ?_
  refine yX rfl rfl rfl rfl ?_
  try dsimp only [St.put]
  refine ae rfl (dd rfl ?_)
  try dsimp only [St.put]
  refine ae rfl (cw rfl rfl rfl zG rfl rfl (by rfl) ?_)
  refine yA rfl rfl ?_
  refine yN ?_
  dsimp only [St.put]
  refine K2 _ ?_
  refine yS fun _ K3 => ?_
  refine yS fun _ K4 => ?_
  refine yR ?_
  refine yM rfl rfl ?_
  refine aa rfl (ff rfl rfl rfl) ?_
  refine yN ?_
  dsimp only [St.put]
  refine K4 _ ?_
  refine ar rfl (fun hc => ?_) (fun hc => ?_)
  ·exact absurd hc (by decide)
  obtain ⟨h0, hTB⟩ := r8 hL
  obtain ⟨hok, _⟩ := lg h0
  have hV : me p = ⟨0, (bi p).most (bv p) (cj p)⟩ := by unfold me; rw [hL, qj]; rfl
  refine ax ?_
  refine K3 _ ?_
  refine yS fun _ K5 => ?_
  refine yR ?_
  try dsimp only [St.put]
  refine bg rfl (io rfl rfl zG trivial (by rfl)) ?_
  try dsimp only [St.put]
  refine ae rfl (ay rfl rfl rfl (ua p (bv p) (cj p) hok (ra hok)) ?_)
  refine aa rfl (ie rfl rfl) ?_
  try dsimp only [St.put]
  refine ae rfl (cw rfl rfl rfl zG rfl rfl (by rfl) ?_)
  refine yA rfl rfl ?_
  refine yN ?_
  dsimp only [St.put]
  refine K5 _ ?_
  refine aq ?_
  refine ij rfl (jv rfl zG (by rfl) zC rfl) (ef (by constructor)) zN zS ?_ ?_
  ·rw [hV]; exact zW
  rw [hL]; exact zW
 refine yR ?_
 refine yE rfl rfl rfl ?_
 try dsimp only [St.put]
 refine ae rfl (ec rfl rfl rfl (oz n p) zG (by dsimp only [St.put]; omega) ?_)
 refine yX rfl rfl rfl rfl ?_
 refine yX rfl rfl rfl rfl ?_
 try dsimp only [St.put]
 refine ae rfl (ec rfl rfl rfl (t8 n p (jx p) (cm p) qf hL) zG (by dsimp only [St.put]; omega) ?_)
 refine yM rfl rfl ?_
 refine yX rfl rfl rfl rfl ?_
 refine yX rfl rfl rfl rfl ?_
 try dsimp only [St.put]
 refine ae rfl (dd rfl ?_)
 try dsimp only [St.put]
 refine ae rfl (cw rfl rfl rfl zG rfl rfl (by rfl) ?_)
 refine yA rfl rfl ?_
 refine yN ?_
 dsimp only [St.put]
 refine K2 _ ?_
 refine yS fun _ K6 => ?_
 refine yS fun _ K7 => ?_
 refine yR ?_
 refine yM rfl rfl ?_
 refine aa rfl (ff rfl rfl rfl) ?_
 refine yN ?_
 dsimp only [St.put]
 refine K7 _ ?_
 refine ar rfl (fun hc => ?_) (fun hc => ?_)
 ·have hV : me p = ⟨0, 0⟩ := by unfold me; rw [mb hL]
  refine yS fun _ K8 => ?_
  refine yR ?_
  refine aa rfl (ie rfl rfl) ?_
  refine yM rfl rfl ?_
  try dsimp only [St.put]
  refine ae rfl (cw rfl rfl rfl zG rfl rfl (by rfl) ?_)
  refine yA rfl rfl ?_
  refine yN ?_
  dsimp only [St.put]
  refine K8 _ ?_
  refine aq ?_
  refine ij rfl (jv rfl zG (by rfl) zC rfl) (ef (by constructor)) zN zS ?_ ?_
  ·rw [hV]; exact zW
  exact zW
 exact absurd (ip hc) hL
set_option maxHeartbeats 1000000 in
theorem uj4 (n0 : Nat) (p : af) : fu n0 fm Tryd.prog 37 [val p] (.tup [lst (ql p), .v (.int .i64 (er p (cm p)))]) := fun G nx hF hnx => by
 refine iz (G) (nx) Tryd.func37 rfl (.tup (ci (br _ _) (ci .v dh))) zN (fun hlt => zH) ?_
 simp only [Tryd.ntmps37, List.length_cons, List.length_nil, Nat.reduceAdd, Nat.reduceSub]
 refine bu fun hlt => ?_
 dsimp only at hlt
 refine yS fun _ K1 => ?_
 refine yR ?_
 try dsimp only [St.put]
 refine yB rfl rfl rfl ?_
 refine yA rfl rfl ?_
 refine yA rfl rfl ?_
 refine yN ?_
 dsimp only [St.put]
 refine K1 _ ?_
 refine yS fun _ K2 => ?_
 by_cases hL : er p (cm p) = 0
 ·refine yR ?_
  refine yE rfl rfl rfl ?_
  try dsimp only [St.put]
  refine ae rfl (ec rfl rfl rfl (oz n0 p) zG (by dsimp only [St.put]; omega) ?_)
  refine yX rfl rfl rfl rfl ?_
  refine yX rfl rfl rfl rfl ?_
  try dsimp only [St.put]
  refine ae rfl (ec rfl rfl rfl (t7 n0 p (jx p) (cm p) qf hL) zG (by dsimp only [St.put]; omega) ?_)
  refine yM rfl rfl ?_
  refine yX rfl rfl rfl rfl ?_
  refine yX rfl rfl rfl rfl ?_
  try dsimp only [St.put]
  refine ae rfl (dd rfl ?_)
  try dsimp only [St.put]
  refine ae rfl (cw rfl rfl rfl zG rfl rfl (by rfl) ?_)
  refine yA rfl rfl ?_
  refine yN ?_
  dsimp only [St.put]
  refine K2 _ ?_
  refine yS fun _ K3 => ?_
  refine yS fun _ K4 => ?_
  refine yR ?_
  refine yM rfl rfl ?_
  refine aa rfl (ff rfl rfl rfl) ?_
  refine yN ?_
  dsimp only [St.put]
  refine K4 _ ?_
  refine ar rfl (fun hc => ?_) (fun hc => ?_)
  ·exact absurd hc (by decide)
  obtain ⟨h0, hTB⟩ := r8 hL
  obtain ⟨hok, _⟩ := lg h0
  have hnp := hok.np
  have hV : ql p = cx p.pages.length (jo p) := by unfold ql; rw [hL, qj]
  refine ax ?_
  refine K3 _ ?_
  refine yS fun _ K5 => ?_
  refine yR ?_
  refine yA rfl rfl ?_
  refine yN ?_
  dsimp only [St.put]
  refine K5 _ ?_
  refine re 6 3 1 rfl (by decide) ?_
  dsimp only [List.set_cons_zero, List.set_cons_succ]
  refine yS fun _ K6 => ?_
  refine yS fun _ K7 => ?_
  refine yR ?_
  refine yF rfl rfl rfl rfl ?_
  refine yL rfl rfl rfl ?_
  refine aa rfl (bp rfl rfl (List.length_map _)) ?_
  refine yM rfl rfl ?_
  refine yN ?_
  dsimp only [St.put]
  refine K7 _ ?_
  refine bk ?_
  refine cp 25 ?_
  refine zQ ?_
  refine dq ((ak (ak G nx (.box (0 + 1) (cells (gh p (rmR p 0) (rmC p 0))))) (nx + 1) (.tip (cx 0 (jo p)).length 3 1))) zX ?_
  dsimp only
  refine dp (X := Nat) (fun i => i ≤ p.pages.length) (fun i => p.pages.length - i) (fun i => [(6, .list ((cx i (jo p)).map cells) (.tip (nx + 1))), (7, .any), (8, .any), (9, .any), (24, .v (.int .i64 (i : Int)))]) (fun i G' => (ak (ak G nx (.box (i + 1) (cells (gh p (rmR p i) (rmC p i))))) (nx + 1) (.tip (cx i (jo p)).length 3 1))) 0 rfl ?_ ?_ ?_ ?_ ?_ ?_
  ·exact Nat.zero_le _
  ·exact zF
  ·exact zX
  ·rintro i hI
   exact zL
  ·rintro i hI
   exact zH
  rintro i hI
  dsimp only at hI ⊢
  refine yS fun _ K8 => ?_
  refine yR ?_
  refine aa rfl (cv rfl rfl rfl) ?_
  refine yN ?_
  dsimp only [St.put]
  refine K8 _ ?_
  refine yS fun _ K9 => ?_
  refine ar rfl (fun hc => ?_) (fun hc => ?_)
  ·replace hc := of_decide_eq_true hc
   have hi : i < p.pages.length := by omega
   obtain ⟨x, hx⟩ : ∃ x, p.pages[i]? = some x := dr hi
   have hB := ucb hok hTB (Nat.le_of_lt hi)
   have hP := uba hok hTB hi
   have hab := uog hB i
   have hmb := xa hB
   have hln := jq i (jo p)
   have hPn := hP.nn
   refine ax ?_
   refine K9 _ ?_
   refine yS fun _ K10 => ?_
   refine bk ?_
   refine yS fun _ K11 => ?_
   refine yR ?_
   refine yM rfl rfl ?_
   refine yA rfl rfl ?_
   refine yN ?_
   dsimp only [St.put]
   refine K11 _ ?_
   refine yS fun _ K12 => ?_
   refine g8 [(0, none), (2, none), (3, none), (1, none), (4, none), (5, none), (6, none)] (fun i => [4].contains i) (fun i => [1, 4].contains i) (fun i => [3, 5, 6].contains i) [nx] (by kernel_rfl) (by kernel_rfl) ?_
   try dsimp only [St.put]
   refine aw rfl rfl rfl rfl (io rfl rfl zG (by simp) (by rfl)) ?_
   try dsimp only [St.put]
   refine aw rfl rfl rfl rfl (io rfl rfl zG (by simp) (by rfl)) ?_
   refine xM rfl rfl rfl rfl rfl ?_
   refine jf ?_
   try dsimp only [St.put]
   refine i9 rfl rfl rfl (ay rfl rfl rfl (ua p _ _ hok hB) ⟨zD, ?_⟩)
   try dsimp only [St.put]
   refine g9 rfl rfl rfl rfl (ay rfl rfl rfl (ucz p (rmR p i) (rmC p i) i x hok hx) ?_)
   refine ed rfl rfl rfl rfl (cz rfl (by constructor)) ?_
   refine ed rfl rfl rfl rfl (cz rfl (by constructor)) ?_
   refine je ?_
   dsimp only [St.put]
   refine K12 _ ?_
   refine yS fun _ K13 => ?_
   refine bk ?_
   refine cp 25 ?_
   refine zQ ?_
   refine dp (X := Int) (fun n => FromTop p (rmR p i) (rmC p i) i n) (fun n => n.toNat) (fun n => [(9, .v (.int .i64 n))]) (fun n G' => G') ((bi p).alone (rmR p i) (rmC p i) i) rfl ?_ ?_ (fun _ _ h => h) ?_ ?_ ?_
   ·exact FromTop.start hP
   ·exact zF
   ·rintro n hI
    exact zL
   ·exact fun _ _ _ _ h => .inl h
   rintro n hF2
   dsimp only at hF2 ⊢
   have hF1 := hF2.1
   have hF3 := hF2.2.1
   have hBl := ua0 hB (by omega) hF2.2.1
   have hmb2 := xa hBl
   refine yS fun _ K14 => ?_
   refine yS fun _ K15 => ?_
   refine yR ?_
   refine yM rfl rfl ?_
   try dsimp only [St.put]
   refine bg rfl (io rfl rfl zG trivial (by rfl)) ?_
   refine yM rfl rfl ?_
   refine yM rfl rfl ?_
   try dsimp only [St.put]
   refine ae rfl (ay rfl rfl rfl (ze p (rmR p i) (rmC p i) i x n hok hx (by have := hF2.1; have := hF2.2.1; omega) hB.r) ?_)
   try dsimp only [St.put]
   refine ae rfl (ay rfl rfl rfl (ua p _ _ hok (ua0 hB (by have := hF2.1; omega) hF2.2.1)) ?_)
   refine aa rfl (cg rfl rfl rfl (by omega)) ?_
   refine yM rfl rfl ?_
   refine aa rfl (cv rfl rfl rfl) ?_
   refine yN ?_
   dsimp only [St.put]
   refine K15 _ ?_
   refine ar rfl (fun hc => ?_) (fun hc => ?_)
   ·replace hc := of_decide_eq_true hc
    have hnot : ¬ (bi p).most (rmR p i) (rmC p i) ≤ n + (bi p).most ((bi p).lessR (rmR p i) i n) (eo (rmC p i) i) := by omega
    refine ax ?_
    refine K14 _ ?_
    refine bk ?_
    refine yR ?_
    refine yM rfl rfl ?_
    refine aa rfl (i0 rfl rfl rfl (by omega)) ?_
    refine yA rfl rfl ?_
    refine yN ?_
    dsimp only [St.put]
    have hd := FromTop.down hP hF2 hnot
    have hd1 := hd.1
    exact ⟨n - 1, by omega, hd, ⟨⟨rfl, rfl⟩, zF, zB, zN, zX⟩⟩
   replace hc := of_decide_eq_false hc
   have hnw := FromTop.stop hP hF2 (by omega)
   rw [← ubb] at hnw
   subst hnw
   refine dj ?_
   refine K13 _ ?_
   refine yS fun _ K16 => ?_
   refine yR ?_
   try dsimp only [St.put]
   refine bg rfl (io rfl rfl zG trivial (by rfl)) ?_
   refine yM rfl rfl ?_
   refine yM rfl rfl ?_
   try dsimp only [St.put]
   refine ae rfl (ay rfl rfl rfl (ze p (rmR p i) (rmC p i) i x (jo p i) hok hx (by have := hF2.1; have := hF2.2.1; omega) hB.r) ?_)
   try dsimp only [St.put]
   refine ae rfl (cw rfl rfl rfl zG rfl rfl (by rfl) ?_)
   refine yN ?_
   dsimp only [St.put]
   refine K16 _ ?_
   refine yR ?_
   refine yM rfl rfl ?_
   refine yM rfl rfl ?_
   try dsimp only [St.put]
   refine ae rfl (du rfl rfl rfl (by decide) (by decide) zR (by decide) ?_)
   try dsimp only [St.put]
   refine ae rfl (jz ([jo p i]) rfl rfl zG zE rfl rfl zA ?_ zA)
   refine yA rfl rfl ?_
   refine yN ?_
   dsimp only [St.put]
   refine K10 _ ?_
   refine yR ?_
   refine aa rfl (cg rfl rfl rfl (by omega)) ?_
   refine yM rfl rfl ?_
   refine yN ?_
   dsimp only [St.put]
   have e := yn i (jo p)
   rw [← e]
   exact ⟨i + 1, by omega, by omega, ⟨⟨rfl, rfl⟩, zF, zB, zN, zX⟩⟩
  replace hc := of_decide_eq_false hc
  obtain rfl : i = p.pages.length := by omega
  refine dj ?_
  refine K6 _ ?_
  refine yS fun _ K17 => ?_
  refine yR ?_
  refine yM rfl rfl ?_
  refine yA rfl rfl ?_
  refine yA rfl rfl ?_
  refine yN ?_
  dsimp only [St.put]
  refine K17 _ ?_
  refine aq ?_
  refine ij rfl (ef (by constructor)) (ef (by constructor)) zN zS ?_ ?_
  ·rw [hV]; exact zW
  rw [hL]; exact zW
 refine yR ?_
 refine yE rfl rfl rfl ?_
 try dsimp only [St.put]
 refine ae rfl (ec rfl rfl rfl (oz n0 p) zG (by dsimp only [St.put]; omega) ?_)
 refine yX rfl rfl rfl rfl ?_
 refine yX rfl rfl rfl rfl ?_
 try dsimp only [St.put]
 refine ae rfl (ec rfl rfl rfl (t8 n0 p (jx p) (cm p) qf hL) zG (by dsimp only [St.put]; omega) ?_)
 refine yM rfl rfl ?_
 refine yX rfl rfl rfl rfl ?_
 refine yX rfl rfl rfl rfl ?_
 try dsimp only [St.put]
 refine ae rfl (dd rfl ?_)
 try dsimp only [St.put]
 refine ae rfl (cw rfl rfl rfl zG rfl rfl (by rfl) ?_)
 refine yA rfl rfl ?_
 refine yN ?_
 dsimp only [St.put]
 refine K2 _ ?_
 refine yS fun _ K18 => ?_
 refine yS fun _ K19 => ?_
 refine yR ?_
 refine yM rfl rfl ?_
 refine aa rfl (ff rfl rfl rfl) ?_
 refine yN ?_
 dsimp only [St.put]
 refine K19 _ ?_
 refine ar rfl (fun hc => ?_) (fun hc => ?_)
 ·have hV : ql p = [] := by unfold ql; rw [mb hL]
  refine yS fun _ K20 => ?_
  refine yR ?_
  refine yM rfl rfl ?_
  refine yA rfl rfl ?_
  refine yA rfl rfl ?_
  refine yN ?_
  dsimp only [St.put]
  refine K20 _ ?_
  refine aq ?_
  refine ij rfl (ef (by constructor)) (ef (by constructor)) zN zS ?_ ?_
  ·rw [hV]; exact zW
  exact zW
 exact absurd (ip hc) hL
end Go.Proofs.YtbbdginipiljdaaDoor
namespace Go.Proofs.YtbbdginipiljdaaDoor
set_option maxRecDepth 10000
open Go Go.RowKit Go.AB
open Go.AB.Enc (cells)
open Go.PB (av ai PlaceD az bf ba bl am af co bj dc dg)
set_option maxHeartbeats 1000000 in
theorem uiw (nF : Nat) (n : Nat) (hb : n ≤ 8) : yb nF fm Tryd.prog 85 [.elem [.v (.int .i64 (n : Int))]] (2 ^ n) (fun s => [.v (.int .i64 (s : Int)), lst (fb n s)]) := by
 refine uec Tryd.func85 rfl rfl fun I hN hcl ok hG hn => ?_
 simp only [Tryd.ntmps85, List.length_cons, List.length_nil, Nat.reduceAdd, Nat.reduceSub]
 have h256 : 2 ^ n ≤ 2 ^ 8 := Nat.pow_le_pow_right (by omega) hb
 refine lf 2 ?_
 refine zQ ?_
 refine qa ?_
 dsimp only [FC.st]
 refine bu fun hlt => ?_
 dsimp only at hlt
 refine c4 ?_
 try dsimp only [St.put]
 first | refine bg rfl (bq rfl rfl) ?_ | refine bg rfl (dl rfl rfl (Enc.len _)) ?_ | refine bg rfl (dl rfl rfl rfl) ?_ | refine bg rfl (e8 rfl rfl zG trivial (by first | rfl | assumption)) ?_ | refine bg rfl (io rfl rfl zG trivial (by rfl)) ?_ | refine bg rfl (qo rfl rfl zG trivial (by simp)) ?_ | refine bg rfl (ka rfl rfl zG trivial (o8 (by assumption) rfl)) ?_ | refine bg rfl (ka rfl rfl zG trivial (by assumption)) ?_ | refine bg rfl (rp rfl rfl zG trivial rfl (by assumption) rfl (by decide)) ?_ | refine bg rfl (nm rfl rfl zG (by rfl)) ?_
 refine aa rfl (udi (n := n) rfl rfl rfl (by omega)) ?_
 refine aa rfl (bx rfl (by constructor)) ?_
 refine ct ?_
 dsimp only [St.put]
 show j9 _ _ _ _ _ _ _
 refine qb ok rfl ⟨rfl, rfl, zK, zN, zS, zK⟩ ?_
 refine sf ?_
 refine lf 9 ?_
 refine zQ ?_
 refine uaj (X := Nat) (fun s => s ≤ 2 ^ n) (fun s => 2 ^ n - s) (fun s => [(3, .any), (4, .any), (5, .any), (8, .v (.int .i64 (s : Int)))]) (fun s => s) 0 rfl ?_ ?_ ?_ ?_ ?_
 ·exact Nat.zero_le _
 ·exact zF
 ·rfl
 ·rintro s hI
  exact zL
 ·rintro s hI
  dsimp only at hI ⊢
  refine lf 9 ?_
  refine zQ ?_
  refine qa ?_
  dsimp only [FC.st]
  refine bu fun hlt => ?_
  dsimp only at hlt
  refine c4 ?_
  refine aa rfl (cv rfl rfl rfl) ?_
  refine ct ?_
  dsimp only [St.put]
  show j9 _ _ _ _ _ _ _
  refine qb ok rfl ⟨rfl, rfl, zK, zN, zS, zK⟩ ?_
  refine p9 fun K1 hK1 => ?_
  refine uz rfl (fun hc => ?_) (fun hc => ?_)
  ·replace hc := of_decide_eq_true hc
   have hs : s < 2 ^ n := by omega
   refine uy ?_
   refine hK1 _ _ ?_
   refine p9 fun K2 hK2 => ?_
   refine sf ?_
   refine lf 9 ?_
   refine zQ ?_
   refine qa ?_
   dsimp only [FC.st]
   refine bu fun hlt => ?_
   dsimp only at hlt
   refine c4 ?_
   refine aa rfl (bx rfl (by constructor)) ?_
   refine aa rfl (cz rfl (by constructor)) ?_
   refine ct ?_
   dsimp only [St.put]
   show j9 _ _ _ _ _ _ _
   refine xm ?_
   refine c4 ?_
   refine aa rfl (cz rfl (by constructor)) ?_
   refine ct ?_
   dsimp only [St.put]
   show j9 _ _ _ _ _ _ _
   refine xm ?_
   refine re 4 3 1 rfl (by decide) ?_
   dsimp only [List.set_cons_zero, List.set_cons_succ]
   refine dw fun K3 hK3 => ?_
   refine c4 ?_
   try dsimp only [St.put]
   first | refine bg rfl (bq rfl rfl) ?_ | refine bg rfl (dl rfl rfl (Enc.len _)) ?_ | refine bg rfl (dl rfl rfl rfl) ?_ | refine bg rfl (e8 rfl rfl zG trivial (by first | rfl | assumption)) ?_ | refine bg rfl (io rfl rfl zG trivial (by rfl)) ?_ | refine bg rfl (qo rfl rfl zG trivial (by simp)) ?_ | refine bg rfl (ka rfl rfl zG trivial (o8 (by assumption) rfl)) ?_ | refine bg rfl (ka rfl rfl zG trivial (by assumption)) ?_ | refine bg rfl (rp rfl rfl zG trivial rfl (by assumption) rfl (by decide)) ?_ | refine bg rfl (nm rfl rfl zG (by rfl)) ?_
   refine aa rfl (bx rfl (by constructor)) ?_
   refine ct ?_
   dsimp only [St.put]
   refine hK3 _ ?_
   refine bk ?_
   refine cp 13 ?_
   refine zQ ?_
   refine dq ((ak (I.G s) I.nx (.tip (fb 0 s).length 3 1))) zX ?_
   dsimp only
   refine dp (X := Nat) (fun k => k ≤ n) (fun k => n - k) (fun k => [(4, .list ((fb k s).map cells) (.tip I.nx)), (5, .any), (12, .v (.int .i64 (k : Int)))]) (fun k G' => (ak (I.G s) I.nx (.tip (fb k s).length 3 1))) 0 rfl ?_ ?_ ?_ ?_ ?_ ?_
   ·exact Nat.zero_le _
   ·exact zF
   ·exact zX
   ·rintro k hI
    exact zL
   ·rintro k hI
    exact zH
   ·rintro k hK
    dsimp only at hK ⊢
    refine dw fun K4 hK4 => ?_
    refine c4 ?_
    refine aa rfl (cv rfl rfl rfl) ?_
    refine ct ?_
    dsimp only [St.put]
    refine hK4 _ ?_
    refine dw fun K5 hK5 => ?_
    refine ar rfl (fun hc => ?_) (fun hc => ?_)
    ·replace hc := of_decide_eq_true hc
     have hml := uj k s
     refine ax ?_
     refine hK5 _ ?_
     refine dw fun K6 hK6 => ?_
     refine bk ?_
     refine dw fun K7 hK7 => ?_
     refine c4 ?_
     refine aa rfl (bx rfl (by constructor)) ?_
     refine aa rfl (cz rfl (by constructor)) ?_
     refine ct ?_
     dsimp only [St.put]
     refine hK7 _ ?_
     refine dw fun K8 hK8 => ?_
     refine c4 ?_
     refine aa rfl (bx rfl (by constructor)) ?_
     refine aa rfl (bx rfl (by constructor)) ?_
     refine aa rfl (ue (m := s) (n := k) rfl rfl rfl (by show k ≤ 64; omega) (by show (s : Int) ≤ 9223372036854775807; omega) (by decide)) ?_
     refine aa rfl (uh (m := s / 2 ^ k) rfl rfl rfl (Nat.lt_of_le_of_lt (Nat.div_le_self _ _) (by show s < 2 ^ 64; omega)) (by decide)) ?_
     refine aa rfl (fp rfl rfl rfl) ?_
     refine ct ?_
     dsimp only [St.put]
     refine hK8 _ ?_
     refine ar rfl (fun hc => ?_) (fun hc => ?_)
     ·have hb1 : s.testBit k = true := bit_eq.1 (of_decide_eq_true hc)
      refine c4 ?_
      refine aa rfl (bx rfl (by constructor)) ?_
      refine aa rfl (bx rfl (by constructor)) ?_
      try dsimp only [St.put]
      refine ae rfl (du rfl rfl rfl (by decide) (by decide) zR (by decide) ?_)
      try dsimp only [St.put]
      refine ae rfl (jz ([(k : Int)]) rfl rfl zG zE rfl rfl zA ?_ zA)
      refine aa rfl (cz rfl (by constructor)) ?_
      refine ct ?_
      dsimp only [St.put]
      refine hK6 _ ?_
      refine c4 ?_
      first | refine aa rfl (cg rfl rfl rfl (by omega)) ?_ | refine aa rfl (ui rfl rfl rfl) ?_
      refine aa rfl (bx rfl (by constructor)) ?_
      refine ct ?_
      dsimp only [St.put]
      have e := udu k s
      first
      | (have q : s.testBit k = true := hb1
         rw [q, cond_true] at e
         rw [← e]
         exact ⟨k + 1, by omega, by omega, ⟨⟨rfl, rfl⟩, zF, zB, zN, zX⟩⟩)
      | (have q : s.testBit k = false := hb0
         rw [q, cond_false, List.append_nil] at e
         rw [← e]
         exact ⟨k + 1, by omega, by omega, ⟨⟨rfl, rfl⟩, zF, zB, zN, zX⟩⟩)
     ·have hb0 : s.testBit k = false := by
       have := of_decide_eq_false hc
       rw [bit_eq, Bool.not_eq_true] at this
       exact this
      refine ax ?_
      refine hK6 _ ?_
      refine c4 ?_
      first | refine aa rfl (cg rfl rfl rfl (by omega)) ?_ | refine aa rfl (ui rfl rfl rfl) ?_
      refine aa rfl (bx rfl (by constructor)) ?_
      refine ct ?_
      dsimp only [St.put]
      have e := udu k s
      first
      | (have q : s.testBit k = true := hb1
         rw [q, cond_true] at e
         rw [← e]
         exact ⟨k + 1, by omega, by omega, ⟨⟨rfl, rfl⟩, zF, zB, zN, zX⟩⟩)
      | (have q : s.testBit k = false := hb0
         rw [q, cond_false, List.append_nil] at e
         rw [← e]
         exact ⟨k + 1, by omega, by omega, ⟨⟨rfl, rfl⟩, zF, zB, zN, zX⟩⟩)
    ·replace hc := of_decide_eq_false hc
     obtain rfl : k = n := by omega
     refine x5 4 (lst (fb k s)) rfl Wk.tok ?_
     refine dj ?_
     show j9 _ _ _ _ _ _ _
     refine qb ok rfl ⟨rfl, rfl, zK, zN, zS, zK⟩ ?_
     refine p9 fun K9 hK9 => ?_
     refine uel ?_
     refine qy rfl (bx rfl (by constructor)) ?_
     refine qy rfl (bx rfl (by constructor)) ?_
     refine qy rfl (bx rfl (by constructor)) ?_
     try dsimp only [St.put]
     refine ueo ok (by rw [hN]; exact hs) rfl rfl rfl rfl (by rw [hcl]; rfl) ?_
     refine qy rfl (eb rfl rfl) ?_
     refine uep ?_
     dsimp only [St.put]
     refine hK9 _ _ ?_
     refine uz rfl (fun h => by cases h) (fun _ => ?_)
     refine uy ?_
     refine hK2 _ _ ?_
     refine lf 9 ?_
     refine zQ ?_
     refine uai ok rfl ?_
     dsimp only [FC.st]
     refine bu fun hlt => ?_
     dsimp only at hlt
     refine c4 ?_
     first | refine aa rfl (cg rfl rfl rfl (by omega)) ?_ | refine aa rfl (ui rfl rfl rfl) ?_
     refine aa rfl (bx rfl (by constructor)) ?_
     refine ct ?_
     dsimp only [St.put]
     refine ⟨⟨rfl, rfl, zK, zN, zS, zK⟩, ?_⟩
     exact ⟨s + 1, by omega, by omega, rfl, ⟨⟨rfl, rfl⟩, zF, zB, zN, zX⟩⟩
  ·replace hc := of_decide_eq_false hc
   obtain rfl : s = 2 ^ n := by omega
   refine uak ?_
   exact ⟨.inl rfl, rfl⟩
end Go.Proofs.YtbbdginipiljdaaDoor
namespace Go.AB
open Go Go.RowKit
open Go.AB.Enc (cells)
open Go.PB (av ai PlaceD az bf ba bl am af co bj dc dg)
theorem un4 {so : Nat → Bool} {n k : Nat} : ((fh so n k).getD []).length ≤ n := by
 rcases x4 so n k with ⟨h, _⟩ | ⟨b, h, k⟩
 ·rw [h]; exact Nat.zero_le _
 rw [h]
 obtain ⟨s, _, _, rfl⟩ := k.get
 exact uj n s
theorem un2 {so : Nat → Bool} {n k : Nat} (h : so k = false) : fh so n (k + 1) = fh so n k := by
 cases hb : fh so n k with
 | none => rw [uf3 hb, h]; rfl
 | some b => rw [uay hb, h]; rfl
theorem un5 {so : Nat → Bool} {n k : Nat} (hb : fh so n k = none) (h : so k = true) : fh so n (k + 1) = some (fb n k) := by rw [uf3 hb, h]; rfl
theorem un3 {so : Nat → Bool} {n k : Nat} {b : List Int} (hb : fh so n k = some b) (h : so k = true) : fh so n (k + 1) = bif i5 (fb n k) b then some (fb n k) else some b := by rw [uay hb, h]; rfl
theorem ubh {α : Type} {l : List α} {k : Nat} {x : α} (h : l[k]? = some x) : l.take (k + 1) = l.take k ++ [x] := by rw [List.take_add_one, h]; rfl
theorem uhj (p : af) (l : List Int) (z : Int) : oo p (l ++ [z]) = oo p l ++ bif decide (z < (p.firsts.length : Int)) then [z] else [] := by
 unfold oo
 rw [List.filter_append]
 cases h : decide (z < (p.firsts.length : Int)) <;> simp [h]
theorem uhg (p : af) (l : List Int) (z : Int) : nk p (l ++ [z]) = nk p l ++ bif decide (z < (p.firsts.length : Int)) then [] else [z - (p.firsts.length : Int)] := by
 unfold nk
 rw [List.filter_append, List.map_append]
 cases h : decide (z < (p.firsts.length : Int)) <;> simp [h]
theorem uhk (p : af) (l : List Int) : (oo p l).length ≤ l.length := List.length_filter_le _ _
theorem uhh (p : af) (l : List Int) : (nk p l).length ≤ l.length := by
 unfold nk
 rw [List.length_map]
 exact List.length_filter_le _ _
theorem uhi {p : af} {z : Int} (h : z ∈ ii p) : 0 ≤ z ∧ z < (cc p : Int) := by
 unfold ii og at h
 rcases x4 (rm p) (cc p) (2 ^ cc p) with ⟨q, _⟩ | ⟨b, q, k⟩
 ·rw [q] at h; cases h
 rw [q] at h
 obtain ⟨s, _, _, rfl⟩ := k.get
 obtain ⟨i, rfl, hi, _⟩ := membersL_mem.1 h
 omega
end Go.AB
namespace Go.Proofs.YtbbdginipiljdaaDoor
set_option maxRecDepth 10000
open Go.RowKit Go.AB
open Go.AB.Enc (cells)
open Go.PB (av ai PlaceD az bf ba bl am af co bj dc dg)
end Go.Proofs.YtbbdginipiljdaaDoor
namespace Go.AB
open Go Go.RowKit
open Go.AB.Enc (cells)
open Go.PB (av ai PlaceD az bf ba bl am af co bj dc dg)
theorem un1 {so : Nat → Bool} {n k : Nat} {b : List Int} (hb : fh so n k = some b) (h : i5 (fb n k) b = false) : fh so n (k + 1) = some b := by rw [uay hb, h, Bool.and_false]; rfl
theorem uf8 {p : af} {R C : Nat → Int} (h : Bd p R C) (l : List Int) : Bd p R (lk C l) := ⟨h.r, fun j => by
 have := h.c j
 unfold lk
 cases decide ((j : Int) ∈ l)
 ·exact this
 exact ⟨Int.le_refl _, by show (0 : Int) ≤ 1000000; omega⟩, h.nr, h.np⟩
theorem unn {p : af} {m : Int} (h : cm p ≠ 0) : jd p m = cm p := by unfold jd; rw [decide_eq_false h]; rfl
theorem unm {p : af} {m : Int} (h : cm p = 0) (hm : m < 0) : jd p m = 2 := by unfold jd; rw [decide_eq_true h, decide_eq_true hm]; rfl
theorem uno {p : af} {m : Int} (h : cm p = 0) (hm : ¬ m < 0) (ht : ga p = false) : jd p m = 8 := by unfold jd; rw [decide_eq_true h, decide_eq_false hm, ht]; rfl
theorem unl {p : af} {m : Int} (h : cm p = 0) (hm : ¬ m < 0) (ht : ga p = true) : jd p m = 0 := by unfold jd; rw [decide_eq_true h, decide_eq_false hm, ht]; rfl
end Go.AB
namespace Go.Proofs.YtbbdginipiljdaaDoor
set_option maxRecDepth 10000
open Go.RowKit Go.AB
open Go.AB.Enc (cells)
open Go.PB (av ai PlaceD az bf ba bl am af co bj dc dg)
end Go.Proofs.YtbbdginipiljdaaDoor
namespace Go.AB
open Go Go.RowKit
open Go.AB.Enc (cells)
open Go.PB (av ai PlaceD az bf ba bl am af co bj dc dg)
/-- whether a set is taken, and how often one was -/
def lp (so : Nat → Bool) (n k : Nat) : Bool := so k && match fh so n k with
 | none => true
 | some b => i5 (fb n k) b
def ms (so : Nat → Bool) (n : Nat) : Nat → Nat
 | 0 => 0
 | k + 1 => ms so n k + (lp so n k).toNat
theorem yk {so : Nat → Bool} {n k : Nat} (h : lp so n k = true) : fh so n (k + 1) = some (fb n k) ∧ ms so n (k + 1) = ms so n k + 1 := by
 refine ⟨?_, by show ms so n k + (lp so n k).toNat = _; rw [h]; rfl⟩
 unfold lp at h
 rw [Bool.and_eq_true] at h
 cases hb : fh so n k with
 | none => exact un5 hb h.1
 | some b =>
  have h2 := h.2
  rw [hb] at h2
  have h3 : i5 (fb n k) b = true := h2
  rw [un3 hb h.1, h3]; rfl
theorem yl {so : Nat → Bool} {n k : Nat} (h : lp so n k = false) : fh so n (k + 1) = fh so n k ∧ ms so n (k + 1) = ms so n k := by
 refine ⟨?_, by show ms so n k + (lp so n k).toNat = _; rw [h]; rfl⟩
 unfold lp at h
 cases hs : so k
 ·exact un2 hs
 rw [hs, Bool.true_and] at h
 cases hb : fh so n k with
 | none => rw [hb] at h; cases h
 | some b =>
  rw [hb] at h
  have h3 : i5 (fb n k) b = false := h
  rw [un1 hb h3]
theorem uh2 {so : Nat → Bool} {n k : Nat} (h : so k = false) : lp so n k = false := by unfold lp; rw [h]; rfl
theorem uh3 {so : Nat → Bool} {n k : Nat} (h : so k = true) (hb : fh so n k = none) : lp so n k = true := by unfold lp; rw [h, hb]; rfl
theorem vv {so : Nat → Bool} {n k : Nat} {b : List Int} (h : so k = true) (hb : fh so n k = some b) : lp so n k = i5 (fb n k) b := by unfold lp; rw [h, hb]; rfl
end Go.AB
namespace Go.Proofs.YtbbdginipiljdaaDoor
set_option maxRecDepth 10000
open Go Go.RowKit Go.AB
open Go.AB.Enc (cells)
open Go.PB (av ai PlaceD az bf ba bl am af co bj dc dg)
theorem uby (m : Nat) : Pure Tryd.prog 55 [.v (.int .i64 (m : Int))] (.fn (.func 85) [.elem [.v (.int .i64 (m : Int))]]) := by
 refine c5 Tryd.func55 rfl (fun m => (.fn (ci (.elem (ci .v dh)) dh))) fun G nx => ?_
 simp only [Tryd.ntmps55, List.length_cons, List.length_nil, Nat.reduceAdd, Nat.reduceSub]
 refine bu fun hlt => ?_
 dsimp only at hlt
 refine yS fun _ K1 => ?_
 refine yR ?_
 try dsimp only [St.put]
 refine yB rfl rfl rfl ?_
 refine yA rfl rfl ?_
 refine yN ?_
 dsimp only [St.put]
 refine K1 _ ?_
 refine yS fun _ K2 => ?_
 refine yR ?_
 refine aa rfl (pu rfl rfl) ?_
 refine yA rfl rfl ?_
 refine yN ?_
 dsimp only [St.put]
 refine K2 _ ?_
 refine aq ?_
 refine bh rfl (by constructor) zN zS ?_
 rfl
set_option maxHeartbeats 1000000 in
theorem uew (n : Nat) (m : Nat) (so : Nat → Bool) (k0 : FuncId) (caps : List C) [Fun Tryd.prog k0] (hm : m ≤ 8) (hcl : ∀ N, ∀ c ∈ caps, C.low N c) (hso : ∀ s : Nat, s < 2 ^ m → AB.Pure Tryd.prog k0 (.v (.int .i64 (s : Int)) :: lst (fb m s) :: caps) (.v (.bool (so s)))) : fu n fm Tryd.prog 54 [.fn (.func 85) [.elem [.v (.int .i64 (m : Int))]], .fn (.func k0) caps, .fn (.func 59) []] (lst (og so m)) := fun G nx hF hnx => by
 refine iz (G) (nx) Tryd.func54 rfl ((br _ _)) zN (fun hlt => zH) ?_
 simp only [Tryd.ntmps54, List.length_cons, List.length_nil, Nat.reduceAdd, Nat.reduceSub]
 refine bu fun hlt => ?_
 dsimp only at hlt
 refine yS fun _ K1 => ?_
 refine yR ?_
 try dsimp only [St.put]
 refine yB rfl rfl rfl ?_
 try dsimp only [St.put]
 refine yB rfl rfl rfl ?_
 refine yA rfl rfl ?_
 refine yN ?_
 dsimp only [St.put]
 refine K1 _ ?_
 refine yS fun _ K2 => ?_
 refine yR ?_
 try dsimp only [St.put]
 refine ae rfl (dd rfl ?_)
 refine yN ?_
 dsimp only [St.put]
 refine K2 _ ?_
 refine yS fun _ K3 => ?_
 refine yR ?_
 try dsimp only [St.put]
 refine ae rfl (dd rfl ?_)
 try dsimp only [St.put]
 refine ae rfl (cw rfl rfl rfl zG rfl rfl (by rfl) ?_)
 refine yN ?_
 dsimp only [St.put]
 refine K3 _ ?_
 refine yS fun _ K4 => ?_
 refine yS fun _ K5 => ?_
 refine sn nx 0 [lst ([] : List Int)] zG zW ?_
 refine yR ?_
 refine yM rfl rfl ?_
 refine yN ?_
 dsimp only [St.put]
 refine K5 _ ?_
 refine bk ?_
 refine cp 12 ?_
 refine zQ ?_
 refine dq ((ak (ak G nx (.box (ms so m 0) [lst ((fh so m 0).getD [])])) (nx + 1) (.box (1 + ms so m 0) [.v (.bool (fh so m 0).isSome)]))) zX ?_
 dsimp only
 refine uga [12, 13] (fun k => (ak (ak G nx (.box (ms so m k) [lst ((fh so m k).getD [])])) (nx + 1) (.box (1 + ms so m k) [.v (.bool (fh so m k).isSome)]))) (fun k => [(13, lst (fb m k)), (12, .v (.int .i64 (k : Int)))]) (uiw n m hm) (fun k => zG) (by (try dsimp only); omega) rfl rfl (fun _ => rfl) ?_ ?_ ?_ (fun lr k hrk => ?_) ?_
 ·intro k
  rfl
 ·exact zX
 ·intro k
  exact zH
 ·have hbl := un4 (so := so) (n := m) (k := k)
  have hml := uj m k
  refine yS fun _ K6 => ?_
  refine yR ?_
  refine yA rfl rfl ?_
  refine yN ?_
  dsimp only [St.put]
  refine K6 _ ?_
  refine yR ?_
  refine yA rfl rfl ?_
  refine yN ?_
  dsimp only [St.put]
  show AW _ _ _ _ _
  refine bk ?_
  refine yS fun _ K7 => ?_
  refine yR ?_
  refine yL rfl rfl rfl ?_
  refine yM rfl rfl ?_
  refine yM rfl rfl ?_
  try dsimp only [St.put]
  refine ae rfl (ay rfl rfl rfl (hso k hrk) ?_)
  refine yM rfl rfl ?_
  refine eg (fun hs => ?_) (fun hs => ?_)
  ·have hw : so k = true := hs
   try dsimp only [St.put]
   refine bg rfl (e8 rfl rfl zG trivial (by first | rfl | assumption)) ?_
   refine aa rfl (eb rfl rfl) ?_
   refine yM rfl rfl ?_
   refine eg (fun hs => ?_) (fun hs => ?_)
   ·have hb0 : fh so m k = none := by simpa using hs
    have htk := yk (uh3 hw hb0)
    refine yK rfl ?_
    refine yK rfl ?_
    refine yK rfl ?_
    refine yK rfl ?_
    refine yK rfl ?_
    refine aa rfl (bz rfl rfl (by constructor)) ?_
    refine aa rfl (bz rfl rfl (by constructor)) ?_
    refine yN ?_
    dsimp only [St.put]
    refine K7 _ ?_
    refine ar rfl (fun _ => ?_) (fun h => by cases h)
    first
    | (have hbf : i5 (fb m k) b = true := (wa _ _).symm.trans hc
       have htk := yk ((vv hw hb0).trans hbf))
    | skip
    refine yR ?_
    refine yM rfl rfl ?_
    try dsimp only [St.put]
    refine ae rfl (cw rfl rfl rfl zG rfl rfl (by rfl) ?_)
    try dsimp only [St.put]
    refine ae rfl (cw rfl rfl rfl zG rfl rfl (by rfl) ?_)
    refine yN ?_
    dsimp only [St.put]
    dsimp only [ta, vm]
    first
    | (rw [htk.1, htk.2]
       exact zX)
    | (rw [hke.1, hke.2]
       try rw [hb0]
       exact zX)
   obtain ⟨b, hb0⟩ : ∃ b, fh so m k = some b := by
     cases hb : fh so m k with
     | none => rw [hb] at hs; cases hs
     | some b => exact ⟨b, rfl⟩
   rw [hb0] at hbl
   rw [hb0]
   have hbl2 : b.length ≤ m := hbl
   refine yL rfl rfl rfl ?_
   refine yM rfl rfl ?_
   try dsimp only [St.put]
   refine bg rfl (e8 rfl rfl zG trivial (by first | rfl | assumption)) ?_
   try dsimp only [St.put]
   refine ae rfl (ay rfl rfl rfl (ukb (fb m k) b (by omega) (by omega)) ?_)
   refine aa rfl (cv rfl rfl rfl) ?_
   refine aa rfl (ck rfl rfl (by constructor)) ?_
   refine aa rfl (bz rfl rfl (by constructor)) ?_
   refine yN ?_
   dsimp only [St.put]
   refine K7 _ ?_
   refine ar rfl (fun hc => ?_) (fun hc => ?_)
   ·first
    | (have hbf : i5 (fb m k) b = true := (wa _ _).symm.trans hc
       have htk := yk ((vv hw hb0).trans hbf))
    | skip
    refine yR ?_
    refine yM rfl rfl ?_
    try dsimp only [St.put]
    refine ae rfl (cw rfl rfl rfl zG rfl rfl (by rfl) ?_)
    try dsimp only [St.put]
    refine ae rfl (cw rfl rfl rfl zG rfl rfl (by rfl) ?_)
    refine yN ?_
    dsimp only [St.put]
    dsimp only [ta, vm]
    first
    | (rw [htk.1, htk.2]
       exact zX)
    | (rw [hke.1, hke.2]
       try rw [hb0]
       exact zX)
   first
   | (have hbf : i5 (fb m k) b = false := (wa _ _).symm.trans hc
      have hke := yl ((vv hw hb0).trans hbf))
   | skip
   refine ax ?_
   dsimp only [ta, vm]
   first
   | (rw [htk.1, htk.2]
      exact zX)
   | (rw [hke.1, hke.2]
      try rw [hb0]
      exact zX)
  have hw : so k = false := hs
  have hke := yl (uh2 (n := m) hw)
  refine yK rfl ?_
  refine yK rfl ?_
  refine yK rfl ?_
  refine yK rfl ?_
  refine yK rfl ?_
  refine yK rfl ?_
  refine yK rfl ?_
  refine yK rfl ?_
  refine yK rfl ?_
  refine aa rfl (ck rfl rfl (by constructor)) ?_
  refine yN ?_
  dsimp only [St.put]
  refine K7 _ ?_
  refine ar rfl (fun h => by cases h) (fun _ => ?_)
  first
  | (have hbf : i5 (fb m k) b = false := (wa _ _).symm.trans hc
     have hke := yl ((vv hw hb0).trans hbf))
  | skip
  refine ax ?_
  dsimp only [ta, vm]
  first
  | (rw [htk.1, htk.2]
     exact zX)
  | (rw [hke.1, hke.2]
     try rw [hb0]
     exact zX)
 dsimp only
 refine K4 _ ?_
 refine yS fun _ K8 => ?_
 refine yR ?_
 try dsimp only [St.put]
 refine bg rfl (e8 rfl rfl zG trivial (by first | rfl | assumption)) ?_
 refine yA rfl rfl ?_
 refine yN ?_
 dsimp only [St.put]
 refine K8 _ ?_
 refine aq ?_
 refine bh rfl (by constructor) zN zS ?_
 rfl
theorem uj9 (p : af) (R C : Nat → Int) (a : Int) (s : Nat) (l : List Int) (h : ez p) (hB : Bd p R C) (hs : s ≤ 1000) : Pure Tryd.prog 67 [.v (.int .i64 (s : Int)), lst l, .elem (cells (gh p R C)), .elem [.v (.int .i64 a)]] (.v (.bool (decide ((bi p).f R C (fun i => s.testBit i) = a)))) := by
 refine c5 Tryd.func67 rfl (fun m => .v) fun G nx => ?_
 simp only [Tryd.ntmps67, List.length_cons, List.length_nil, Nat.reduceAdd, Nat.reduceSub]
 refine bu fun hlt => ?_
 dsimp only at hlt
 refine yS fun _ K1 => ?_
 refine yR ?_
 refine yA rfl rfl ?_
 refine yN ?_
 dsimp only [St.put]
 refine K1 _ ?_
 refine yS fun _ K2 => ?_
 refine g8 [(0, none), (1, none), (3, none), (2, none), (4, none), (5, none)] (fun i => [].contains i) (fun i => [2].contains i) (fun i => [1, 4, 5].contains i) [] (by kernel_rfl) (by kernel_rfl) ?_
 try dsimp only [St.put]
 refine aw rfl rfl rfl rfl (dl rfl rfl (Enc.len _)) ?_
 refine xM rfl rfl rfl rfl rfl ?_
 try dsimp only [St.put]
 refine aw rfl rfl rfl rfl (bq rfl rfl) ?_
 refine jf ?_
 try dsimp only [St.put]
 refine i9 rfl rfl rfl (ay rfl rfl rfl (ucy p R C s h hB hs) ⟨zD, ?_⟩)
 refine ed rfl rfl rfl rfl (fp rfl rfl rfl) ?_
 refine ed rfl rfl rfl rfl (cz rfl (by constructor)) ?_
 refine je ?_
 dsimp only [St.put]
 refine K2 _ ?_
 refine aq ?_
 refine bh rfl (by constructor) zN zS ?_
 rfl
theorem ukj (p : af) (m : Int) (s : Int) (l : List Int) (h : ez p) (hl : l.length ≤ 1000) (hm : ∀ z ∈ l, 0 ≤ z ∧ z < (p.pages.length : Int)) : Pure Tryd.prog 56 [.v (.int .i64 s), lst l, .elem (cells (gh p (bv p) (cj p))), .elem [.v (.int .i64 m)]] (.v (.bool (decide (ugq p l ≤ m)))) := by
 refine c5 Tryd.func56 rfl (fun m => .v) fun G nx => ?_
 simp only [Tryd.ntmps56, List.length_cons, List.length_nil, Nat.reduceAdd, Nat.reduceSub]
 refine bu fun hlt => ?_
 dsimp only at hlt
 refine yS fun _ K1 => ?_
 refine yR ?_
 refine yA rfl rfl ?_
 refine yN ?_
 dsimp only [St.put]
 refine K1 _ ?_
 refine yS fun _ K2 => ?_
 refine yR ?_
 refine yE rfl rfl rfl ?_
 try dsimp only [St.put]
 refine ae rfl (dd rfl ?_)
 try dsimp only [St.put]
 refine ae rfl (cw rfl rfl rfl zG rfl rfl (by rfl) ?_)
 refine yN ?_
 dsimp only [St.put]
 rw [show cells (gh p (bv p) (cj p)) = cells (gh p (bv p) (lk (cj p) (l.take 0))) by rw [List.take_zero, ug0]]
 refine K2 _ ?_
 refine yS fun _ K3 => ?_
 refine yS fun _ K4 => ?_
 refine yR ?_
 refine yM rfl rfl ?_
 refine aa rfl (bp rfl rfl (List.length_map _)) ?_
 refine yM rfl rfl ?_
 refine yN ?_
 dsimp only [St.put]
 refine K4 _ ?_
 refine bk ?_
 refine cp 14 ?_
 refine zQ ?_
 refine dq ((ak G nx (.box (0 + 1) (cells (gh p (bv p) (lk (cj p) (l.take 0))))))) zX ?_
 dsimp only
 refine dp (X := Nat) (fun k => k ≤ l.length) (fun k => l.length - k) (fun k => [(8, .any), (9, .any), (13, .v (.int .i64 (k : Int)))]) (fun k G' => (ak G nx (.box (k + 1) (cells (gh p (bv p) (lk (cj p) (l.take k))))))) 0 rfl ?_ ?_ ?_ ?_ ?_ ?_
 ·exact Nat.zero_le _
 ·exact zF
 ·exact zX
 ·rintro k hI
  exact zL
 ·rintro k hI
  exact zH
 rintro k hI
 dsimp only at hI ⊢
 refine yS fun _ K5 => ?_
 refine yR ?_
 refine aa rfl (cv rfl rfl rfl) ?_
 refine yN ?_
 dsimp only [St.put]
 refine K5 _ ?_
 refine yS fun _ K6 => ?_
 refine ar rfl (fun hc => ?_) (fun hc => ?_)
 ·replace hc := of_decide_eq_true hc
  obtain ⟨z0, hz0⟩ : ∃ z, l[k]? = some z := dr (by omega)
  have hzb := hm z0 (gd hz0)
  obtain ⟨j, rfl⟩ : ∃ j : Nat, z0 = (j : Int) := ⟨z0.toNat, by omega⟩
  have hz := hz0
  obtain ⟨x, hx⟩ : ∃ x, p.pages[j]? = some x := dr (by omega)
  have hB := uf8 (ra h) (l.take k)
  refine ax ?_
  refine K6 _ ?_
  refine yS fun _ K7 => ?_
  refine bk ?_
  refine yS fun _ K8 => ?_
  refine yR ?_
  refine aa rfl (cb rfl rfl rfl rfl (ca (by assumption)) (Enc.len _)) ?_
  refine yL rfl rfl rfl ?_
  refine yA rfl rfl ?_
  refine yN ?_
  dsimp only [St.put]
  refine K8 _ ?_
  refine yR ?_
  try dsimp only [St.put]
  refine bg rfl (io rfl rfl zG trivial (by rfl)) ?_
  refine yM rfl rfl ?_
  try dsimp only [St.put]
  refine ae rfl (ay rfl rfl rfl (ze p (bv p) (lk (cj p) (l.take k)) j x 0 h hx (by omega) hB.r) ?_)
  try dsimp only [St.put]
  refine ae rfl (cw rfl rfl rfl zG rfl rfl (by rfl) ?_)
  refine yN ?_
  dsimp only [St.put]
  refine K7 _ ?_
  refine yR ?_
  refine aa rfl (cg rfl rfl rfl (by omega)) ?_
  refine yM rfl rfl ?_
  refine yN ?_
  dsimp only [St.put]
  rw [uly, ← ugz, ← ubh hz]
  exact ⟨k + 1, by omega, by omega, ⟨⟨rfl, rfl⟩, zF, zB, zN, zX⟩⟩
 replace hc := of_decide_eq_false hc
 rw [gw (show l.length ≤ k by omega)]
 refine dj ?_
 refine K3 _ ?_
 refine yS fun _ K9 => ?_
 refine g8 [(0, none), (2, none), (1, none), (3, none), (4, none)] (fun i => [].contains i) (fun i => [1].contains i) (fun i => [3, 4].contains i) [nx] (by kernel_rfl) (by kernel_rfl) ?_
 try dsimp only [St.put]
 refine aw rfl rfl rfl rfl (io rfl rfl zG (by simp) (by rfl)) ?_
 try dsimp only [St.put]
 refine aw rfl rfl rfl rfl (bq rfl rfl) ?_
 refine jf ?_
 try dsimp only [St.put]
 refine i9 rfl rfl rfl (ay rfl rfl rfl (ua p (bv p) (lk (cj p) l) h (uf8 (ra h) l)) ⟨zD, ?_⟩)
 refine ed rfl rfl rfl rfl (uf rfl rfl rfl) ?_
 refine ed rfl rfl rfl rfl (cz rfl (by constructor)) ?_
 refine je ?_
 dsimp only [St.put]
 refine K9 _ ?_
 refine aq ?_
 refine bh rfl (by constructor) zN zS ?_
 rfl
theorem ucd (p : af) (R Q : Nat → Int) (a : Int) (N : Nat) : ∀ c ∈ [C.elem (cells (gh p R Q)), C.elem [C.v (.int .i64 a)]], C.low N c := ci (fq _ _) (ci (.elem (ci .v dh)) dh)
set_option maxHeartbeats 1000000 in
theorem uj8 (n : Nat) (p : af) : fu n fm Tryd.prog 38 [val p] (.tup [lst (atE (er p (cm p)) [] (oo p (ii p))), lst (atE (er p (cm p)) [] (nk p (ii p))), .v (.int .i64 (er p (cm p)))]) := fun G nx hF hnx => by
 refine iz (G) (nx) Tryd.func38 rfl (.tup (ci (br _ _) (ci (br _ _) (ci .v dh)))) zN (fun hlt => zH) ?_
 simp only [Tryd.ntmps38, List.length_cons, List.length_nil, Nat.reduceAdd, Nat.reduceSub]
 refine bu fun hlt => ?_
 dsimp only at hlt
 refine yS fun _ K1 => ?_
 refine yR ?_
 try dsimp only [St.put]
 refine yB rfl rfl rfl ?_
 refine yA rfl rfl ?_
 refine yA rfl rfl ?_
 refine yA rfl rfl ?_
 refine yN ?_
 dsimp only [St.put]
 refine K1 _ ?_
 refine yS fun _ K2 => ?_
 by_cases hL : er p (cm p) = 0
 ·refine yR ?_
  refine yE rfl rfl rfl ?_
  try dsimp only [St.put]
  refine ae rfl (ec rfl rfl rfl (oz n p) zG (by dsimp only [St.put]; omega) ?_)
  refine yX rfl rfl rfl rfl ?_
  refine yX rfl rfl rfl rfl ?_
  try dsimp only [St.put]
  refine ae rfl (ec rfl rfl rfl (t7 n p (jx p) (cm p) qf hL) zG (by dsimp only [St.put]; omega) ?_)
  refine yM rfl rfl ?_
  refine yX rfl rfl rfl rfl ?_
  refine yX rfl rfl rfl rfl ?_
  try dsimp only [St.put]
  refine ae rfl (dd rfl ?_)
  try dsimp only [St.put]
  refine ae rfl (cw rfl rfl rfl zG rfl rfl (by rfl) ?_)
  refine yA rfl rfl ?_
  refine yN ?_
  dsimp only [St.put]
  refine K2 _ ?_
  refine yS fun _ K3 => ?_
  refine yS fun _ K4 => ?_
  refine yR ?_
  refine yM rfl rfl ?_
  refine aa rfl (ff rfl rfl rfl) ?_
  refine yN ?_
  dsimp only [St.put]
  refine K4 _ ?_
  refine ar rfl (fun hc => ?_) (fun hc => ?_)
  ·exact absurd hc (by decide)
  obtain ⟨h0, hTB⟩ := r8 hL
  obtain ⟨hok, _⟩ := lg h0
  have hn1 := hok.nf
  have hn2 := hok.ns
  have hnr : cc p = p.firsts.length + p.seconds.length := rfl
  have hl1 := jq (cc p) (bv p)
  have hB := ra hok
  have h64 : 2 ^ cc p ≤ 2 ^ 6 := Nat.pow_le_pow_right (by omega) (by omega)
  have hwl : (ii p).length ≤ 6 := by
   have := uf4 (rm p) (cc p)
   show (og (rm p) (cc p)).length ≤ 6
   omega
  refine ax ?_
  refine K3 _ ?_
  refine yS fun _ K5 => ?_
  refine yR ?_
  try dsimp only [St.put]
  refine bg rfl (io rfl rfl zG trivial (by rfl)) ?_
  try dsimp only [St.put]
  refine ae rfl (ay rfl rfl rfl (ua p (bv p) (cj p) hok hB) ?_)
  try dsimp only [St.put]
  refine ae rfl (dd rfl ?_)
  try dsimp only [St.put]
  refine ae rfl (cw rfl rfl rfl zG rfl rfl (by rfl) ?_)
  refine yN ?_
  dsimp only [St.put]
  refine K5 _ ?_
  refine fj (i := 5) rfl zG zC ?_
  refine fj (i := 6) rfl zG zC ?_
  dsimp only
  refine yS fun _ K6 => ?_
  refine yS fun _ K7 => ?_
  refine yR ?_
  refine yF rfl rfl rfl rfl ?_
  refine yL rfl rfl rfl ?_
  refine aa rfl (bp rfl rfl (List.length_map _)) ?_
  try dsimp only [St.put]
  refine ae rfl (ay rfl rfl rfl (uby (cx (cc p) (bv p)).length) ?_)
  refine aa rfl (pu rfl rfl) ?_
  try dsimp only [St.put]
  refine ae rfl (ec rfl rfl rfl (uew n (cx (cc p) (bv p)).length (rm p) 67 [.elem (cells (gh p (bv p) (cj p))), .elem [.v (.int .i64 ((bi p).most (bv p) (cj p)))]] (by rw [hl1]; omega) (ucd p _ _ _) (fun s hs => uj9 p (bv p) (cj p) _ s _ hok hB (by rw [hl1] at hs; omega))) zG (by dsimp only [St.put]; omega) ?_)
  refine aa rfl (bp rfl rfl (List.length_map _)) ?_
  refine yM rfl rfl ?_
  refine yN ?_
  dsimp only [St.put]
  rw [hl1, show og (rm p) (cc p) = ii p from rfl]
  refine K7 _ ?_
  refine re 2 3 1 rfl (by decide) ?_
  refine re 3 3 1 rfl (by decide) ?_
  dsimp only [List.set_cons_zero, List.set_cons_succ]
  refine bk ?_
  refine cp 30 ?_
  refine zQ ?_
  refine dq ((ak (ak G (nx + 1 + 1) (.tip (oo p ((ii p).take 0)).length 3 1)) (nx + 1 + 1 + 1) (.tip (nk p ((ii p).take 0)).length 3 1))) zX ?_
  dsimp only
  refine dp (X := Nat) (fun k => k ≤ (ii p).length) (fun k => (ii p).length - k) (fun k => [(2, .list ((oo p ((ii p).take k)).map cells) (.tip (nx + 1 + 1))), (3, .list ((nk p ((ii p).take k)).map cells) (.tip (nx + 1 + 1 + 1))), (8, .any), (29, .v (.int .i64 (k : Int)))]) (fun k G' => (ak (ak G (nx + 1 + 1) (.tip (oo p ((ii p).take k)).length 3 1)) (nx + 1 + 1 + 1) (.tip (nk p ((ii p).take k)).length 3 1))) 0 rfl ?_ ?_ ?_ ?_ ?_ ?_
  ·exact Nat.zero_le _
  ·exact zF
  ·exact zX
  ·rintro k hI
   exact zL
  ·rintro k hI
   exact zH
  rintro k hK
  dsimp only at hK ⊢
  refine yS fun _ K8 => ?_
  refine yR ?_
  refine aa rfl (cv rfl rfl rfl) ?_
  refine yN ?_
  dsimp only [St.put]
  refine K8 _ ?_
  refine yS fun _ K9 => ?_
  refine ar rfl (fun hc => ?_) (fun hc => ?_)
  ·replace hc := of_decide_eq_true hc
   obtain ⟨z, hz⟩ : ∃ z, (ii p)[k]? = some z := dr (by omega)
   have hzb := uhi (gd hz)
   have hF3 := uhj p ((ii p).take k) z
   have hS3 := uhg p ((ii p).take k) z
   rw [← ubh hz] at hF3 hS3
   have hlF := uhk p ((ii p).take k)
   have hlS := uhh p ((ii p).take k)
   have hlt2 : ((ii p).take k).length ≤ 6 := by rw [List.length_take]; omega
   refine ax ?_
   refine K9 _ ?_
   refine yS fun _ K10 => ?_
   refine bk ?_
   refine yS fun _ K11 => ?_
   refine yR ?_
   refine aa rfl (cb rfl rfl rfl rfl (ca (by assumption)) (Enc.len _)) ?_
   refine yL rfl rfl rfl ?_
   refine yA rfl rfl ?_
   refine yN ?_
   dsimp only [St.put]
   refine K11 _ ?_
   refine yS fun _ K12 => ?_
   refine yR ?_
   refine yM rfl rfl ?_
   refine yF rfl rfl rfl rfl ?_
   refine yL rfl rfl rfl ?_
   refine aa rfl (bp rfl rfl (List.length_map _)) ?_
   refine aa rfl (cv rfl rfl rfl) ?_
   refine yN ?_
   dsimp only [St.put]
   refine K12 _ ?_
   refine ar rfl (fun hc => ?_) (fun hc => ?_)
   ·have hyes := of_decide_eq_true hc
    refine yR ?_
    refine yM rfl rfl ?_
    refine yM rfl rfl ?_
    try dsimp only [St.put]
    refine ae rfl (du rfl rfl rfl (by decide) (by decide) zR (by decide) ?_)
    try dsimp only [St.put]
    refine ae rfl (jz ([z]) rfl rfl zG zE rfl rfl zA ?_ zA)
    refine yA rfl rfl ?_
    refine yN ?_
    dsimp only [St.put]
    refine K10 _ ?_
    refine yR ?_
    refine aa rfl (cg rfl rfl rfl (by omega)) ?_
    refine yM rfl rfl ?_
    refine yN ?_
    dsimp only [St.put]
    first
    | (have hy2 : z < (p.firsts.length : Int) := hyes
       rw [decide_eq_true hy2, cond_true] at hF3 hS3
       rw [List.append_nil] at hS3
       simp only [← hF3]
       rw [← hS3]
       exact ⟨k + 1, by omega, by omega, ⟨⟨rfl, rfl⟩, zF, zB, zN, zX⟩⟩)
    | (have hy2 : ¬ z < (p.firsts.length : Int) := hno
       rw [decide_eq_false hy2, cond_false] at hF3 hS3
       rw [List.append_nil] at hF3
       simp only [← hS3]
       rw [← hF3]
       exact ⟨k + 1, by omega, by omega, ⟨⟨rfl, rfl⟩, zF, zB, zN, zX⟩⟩)
   have hno := of_decide_eq_false hc
   refine yR ?_
   refine yM rfl rfl ?_
   refine yM rfl rfl ?_
   refine yF rfl rfl rfl rfl ?_
   refine yL rfl rfl rfl ?_
   refine aa rfl (bp rfl rfl (List.length_map _)) ?_
   refine aa rfl (i0 rfl rfl rfl (by omega)) ?_
   try dsimp only [St.put]
   refine ae rfl (du rfl rfl rfl (by decide) (by decide) zR (by decide) ?_)
   try dsimp only [St.put]
   refine ae rfl (jz ([z - (p.firsts.length : Int)]) rfl rfl zG zE rfl rfl zA ?_ zA)
   refine yA rfl rfl ?_
   refine yN ?_
   dsimp only [St.put]
   refine K10 _ ?_
   refine yR ?_
   refine aa rfl (cg rfl rfl rfl (by omega)) ?_
   refine yM rfl rfl ?_
   refine yN ?_
   dsimp only [St.put]
   first
   | (have hy2 : z < (p.firsts.length : Int) := hyes
      rw [decide_eq_true hy2, cond_true] at hF3 hS3
      rw [List.append_nil] at hS3
      simp only [← hF3]
      rw [← hS3]
      exact ⟨k + 1, by omega, by omega, ⟨⟨rfl, rfl⟩, zF, zB, zN, zX⟩⟩)
   | (have hy2 : ¬ z < (p.firsts.length : Int) := hno
      rw [decide_eq_false hy2, cond_false] at hF3 hS3
      rw [List.append_nil] at hF3
      simp only [← hS3]
      rw [← hF3]
      exact ⟨k + 1, by omega, by omega, ⟨⟨rfl, rfl⟩, zF, zB, zN, zX⟩⟩)
  replace hc := of_decide_eq_false hc
  refine dj ?_
  refine K6 _ ?_
  refine yS fun _ K13 => ?_
  refine yR ?_
  refine yM rfl rfl ?_
  refine yM rfl rfl ?_
  refine yA rfl rfl ?_
  refine yA rfl rfl ?_
  refine yA rfl rfl ?_
  refine yN ?_
  dsimp only [St.put]
  refine K13 _ ?_
  refine aq ?_
  refine ue8 rfl (ef (by constructor)) (ef (by constructor)) (ef (by constructor)) zN zS ?_ ?_ ?_
  ·rw [hL, qj, gw (show (ii p).length ≤ k by omega)]; exact zW
  ·rw [hL, qj, gw (show (ii p).length ≤ k by omega)]; exact zW
  rw [hL]; exact zW
 refine yR ?_
 refine yE rfl rfl rfl ?_
 try dsimp only [St.put]
 refine ae rfl (ec rfl rfl rfl (oz n p) zG (by dsimp only [St.put]; omega) ?_)
 refine yX rfl rfl rfl rfl ?_
 refine yX rfl rfl rfl rfl ?_
 try dsimp only [St.put]
 refine ae rfl (ec rfl rfl rfl (t8 n p (jx p) (cm p) qf hL) zG (by dsimp only [St.put]; omega) ?_)
 refine yM rfl rfl ?_
 refine yX rfl rfl rfl rfl ?_
 refine yX rfl rfl rfl rfl ?_
 try dsimp only [St.put]
 refine ae rfl (dd rfl ?_)
 try dsimp only [St.put]
 refine ae rfl (cw rfl rfl rfl zG rfl rfl (by rfl) ?_)
 refine yA rfl rfl ?_
 refine yN ?_
 dsimp only [St.put]
 refine K2 _ ?_
 refine yS fun _ K14 => ?_
 refine yS fun _ K15 => ?_
 refine yR ?_
 refine yM rfl rfl ?_
 refine aa rfl (ff rfl rfl rfl) ?_
 refine yN ?_
 dsimp only [St.put]
 refine K15 _ ?_
 refine ar rfl (fun hc => ?_) (fun hc => ?_)
 ·try replace hc := of_decide_eq_true hc
  refine yS fun _ K16 => ?_
  refine yR ?_
  refine yM rfl rfl ?_
  refine yA rfl rfl ?_
  refine yA rfl rfl ?_
  refine yA rfl rfl ?_
  refine yN ?_
  dsimp only [St.put]
  refine K16 _ ?_
  refine aq ?_
  refine ue8 rfl (ef (by constructor)) (ef (by constructor)) (ef (by constructor)) zN zS ?_ ?_ ?_
  ·rw [mb hL]; exact zW
  ·rw [mb hL]; exact zW
  exact zW
 exact absurd (ip hc) hL
set_option maxHeartbeats 1000000 in
theorem uki (n : Nat) (p : af) (m : Int) : fu n fm Tryd.prog 26 [val p, .v (.int .i64 m)] (.tup [lst (kh p m), .v (.int .i64 (jd p m))]) := fun G nx hF hnx => by
 refine iz (G) (nx) Tryd.func26 rfl (.tup (ci (br _ _) (ci .v dh))) zN (fun hlt => zH) ?_
 simp only [Tryd.ntmps26, List.length_cons, List.length_nil, Nat.reduceAdd, Nat.reduceSub]
 refine bu fun hlt => ?_
 dsimp only at hlt
 refine yS fun _ K1 => ?_
 refine yR ?_
 try dsimp only [St.put]
 refine yB rfl rfl rfl ?_
 try dsimp only [St.put]
 refine yB rfl rfl rfl ?_
 refine yA rfl rfl ?_
 refine yA rfl rfl ?_
 refine yN ?_
 dsimp only [St.put]
 refine K1 _ ?_
 refine yS fun _ K2 => ?_
 refine yR ?_
 refine yE rfl rfl rfl ?_
 try dsimp only [St.put]
 refine ae rfl (ec rfl rfl rfl (oz n p) zG (by dsimp only [St.put]; omega) ?_)
 refine yM rfl rfl ?_
 refine yX rfl rfl rfl rfl ?_
 refine yX rfl rfl rfl rfl ?_
 refine yA rfl rfl ?_
 refine yA rfl rfl ?_
 refine yN ?_
 dsimp only [St.put]
 refine K2 _ ?_
 refine yS fun _ K3 => ?_
 refine yS fun _ K4 => ?_
 refine yR ?_
 refine yM rfl rfl ?_
 refine aa rfl (ff rfl rfl rfl) ?_
 refine yN ?_
 dsimp only [St.put]
 refine K4 _ ?_
 refine ar rfl (fun hc => ?_) (fun hc => ?_)
 ·have h0 : cm p ≠ 0 := j8 hc
  have hE : jd p m = cm p := unn h0
  have hV : kh p m = [] := by unfold kh; rw [hE, mb h0]
  refine yS fun _ K5 => ?_
  refine yR ?_
  refine yM rfl rfl ?_
  refine yA rfl rfl ?_
  refine yA rfl rfl ?_
  refine yN ?_
  dsimp only [St.put]
  refine K5 _ ?_
  refine aq ?_
  refine ij rfl (ef (by constructor)) (ef (by constructor)) zN zS ?_ ?_
  ·rw [hV]; exact zW
  rw [hE]; exact zW
 have h0 : cm p = 0 := ip hc
 obtain ⟨hok, _⟩ := lg h0
 have hnp := hok.np
 refine ax ?_
 refine K3 _ ?_
 refine yS fun _ K6 => ?_
 refine yS fun _ K7 => ?_
 refine yR ?_
 refine yL rfl rfl rfl ?_
 refine aa rfl (cv rfl rfl rfl) ?_
 refine yN ?_
 dsimp only [St.put]
 refine K7 _ ?_
 refine ar rfl (fun hc => ?_) (fun hc => ?_)
 ·have hm : m < 0 := of_decide_eq_true hc
  have hE : jd p m = 2 := unm h0 hm
  have hV : kh p m = [] := by unfold kh; rw [hE, mb (by decide)]
  refine yS fun _ K8 => ?_
  refine yR ?_
  refine yA rfl rfl ?_
  refine yA rfl rfl ?_
  refine yN ?_
  dsimp only [St.put]
  refine K8 _ ?_
  refine aq ?_
  refine ij rfl (ef (by constructor)) (ef (by constructor)) zN zS ?_ ?_
  ·rw [hV]; exact zW
  rw [hE]; exact zW
 have hm : ¬ m < 0 := of_decide_eq_false hc
 refine ax ?_
 refine K6 _ ?_
 refine yS fun _ K9 => ?_
 by_cases hL : er p (cm p) = 0
 ·refine yR ?_
  refine yM rfl rfl ?_
  refine yM rfl rfl ?_
  try dsimp only [St.put]
  refine ae rfl (ec rfl rfl rfl (t7 n p (jx p) (cm p) qf hL) zG (by dsimp only [St.put]; omega) ?_)
  refine yM rfl rfl ?_
  refine yX rfl rfl rfl rfl ?_
  refine yX rfl rfl rfl rfl ?_
  try dsimp only [St.put]
  refine ae rfl (dd rfl ?_)
  try dsimp only [St.put]
  refine ae rfl (cw rfl rfl rfl zG rfl rfl (by rfl) ?_)
  refine yA rfl rfl ?_
  refine yN ?_
  dsimp only [St.put]
  refine K9 _ ?_
  refine fj (i := 8) rfl zG zC ?_
  dsimp only
  refine yS fun _ K10 => ?_
  refine yS fun _ K11 => ?_
  refine yR ?_
  refine yM rfl rfl ?_
  refine aa rfl (ff rfl rfl rfl) ?_
  refine yN ?_
  dsimp only [St.put]
  refine K11 _ ?_
  refine ar rfl (fun hc => ?_) (fun hc => ?_)
  ·exact absurd hc (by decide)
  have hTB := (r8 hL).2
  have hE : jd p m = 0 := unl h0 hm hTB
  have hV : kh p m = og (vg p m) p.pages.length := by unfold kh; rw [hE, qj]
  refine ax ?_
  refine K10 _ ?_
  refine yS fun _ K12 => ?_
  refine yR ?_
  refine yF rfl rfl rfl rfl ?_
  refine yL rfl rfl rfl ?_
  refine aa rfl (bp rfl rfl (List.length_map _)) ?_
  try dsimp only [St.put]
  refine ae rfl (ay rfl rfl rfl (uby p.pages.length) ?_)
  refine aa rfl (pu rfl rfl) ?_
  try dsimp only [St.put]
  refine ae rfl (ec rfl rfl rfl (uew n p.pages.length (vg p m) 56 [.elem (cells (gh p (bv p) (cj p))), .elem [.v (.int .i64 m)]] hnp (ucd p _ _ _) (fun s _ => ukj p m s _ hok (by have := uj p.pages.length s; omega) (fun z hz => by obtain ⟨i, rfl, hi, _⟩ := membersL_mem.1 hz; omega))) zG (by dsimp only [St.put]; omega) ?_)
  refine yA rfl rfl ?_
  refine yA rfl rfl ?_
  refine yN ?_
  dsimp only [St.put]
  refine K12 _ ?_
  refine aq ?_
  refine ij rfl (ef (by constructor)) (ef (by constructor)) zN zS ?_ ?_
  ·rw [hV]; exact zW
  rw [hE]; exact zW
 refine yR ?_
 refine yM rfl rfl ?_
 refine yM rfl rfl ?_
 try dsimp only [St.put]
 refine ae rfl (ec rfl rfl rfl (t8 n p (jx p) (cm p) qf hL) zG (by dsimp only [St.put]; omega) ?_)
 refine yM rfl rfl ?_
 refine yX rfl rfl rfl rfl ?_
 refine yX rfl rfl rfl rfl ?_
 try dsimp only [St.put]
 refine ae rfl (dd rfl ?_)
 try dsimp only [St.put]
 refine ae rfl (cw rfl rfl rfl zG rfl rfl (by rfl) ?_)
 refine yA rfl rfl ?_
 refine yN ?_
 dsimp only [St.put]
 refine K9 _ ?_
 refine fj (i := 8) rfl zG zC ?_
 dsimp only
 refine yS fun _ K13 => ?_
 refine yS fun _ K14 => ?_
 refine yR ?_
 refine yM rfl rfl ?_
 refine aa rfl (ff rfl rfl rfl) ?_
 refine yN ?_
 dsimp only [St.put]
 refine K14 _ ?_
 refine ar rfl (fun hc => ?_) (fun hc => ?_)
 ·have hTB : ga p = false := by
   cases h : ga p
   ·rfl
   exact absurd (by rw [h0, p7, h]; rfl) hL
  have hE : jd p m = 8 := uno h0 hm hTB
  have hV : kh p m = [] := by unfold kh; rw [hE, mb (by decide)]
  have hL8 : er p (cm p) = 8 := by rw [h0, p7, hTB]; rfl
  refine yS fun _ K15 => ?_
  refine yR ?_
  refine yM rfl rfl ?_
  refine yA rfl rfl ?_
  refine yA rfl rfl ?_
  refine yN ?_
  dsimp only [St.put]
  refine K15 _ ?_
  refine aq ?_
  refine ij rfl (ef (by constructor)) (ef (by constructor)) zN zS ?_ ?_
  ·rw [hV]; exact zW
  rw [hE, hL8]; exact zW
 exact absurd (ip hc) hL
end Go.Proofs.YtbbdginipiljdaaDoor
namespace Go.AB
open Go Go.RowKit
open Go.AB.Enc (cells)
open Go.PB (av ai PlaceD az bf ba bl am af co bj dc dg)
def rq (p : af) : Bool := !l7 p && decide (cm p = 0)
section
variable {P : Program} {o : Oper} {st : St} {K : St → Prop}
/-- What stands in a slot is known less well, ahead of an operation. -/
theorem e_wk (i : Nat) {c : C} (c' : C) (h0 : st.at i = c) (hw : Wk c c') (h : EStep P o { st with r := (i, c') :: st.r } K) : EStep P o st K := by
 intro E w a hs
 have hp := hs.at i
 rw [h0] at hp
 refine h E w a ⟨hs.d, hs.sz, fun j v hj => ?_, hs.g⟩
 simp only [bn]
 cases hb : Nat.beq i j
 ·exact hs.t j v hj
 have hij := Nat.eq_of_beq_eq_true hb
 subst hij
 have hv : a.tmps.getD i undef = v := by rw [Array.getD_eq_getD_getElem?, hj]; rfl
 rw [hv] at hp
 exact hw.2 _ _ _ hp
end
theorem mh {α : Type} [Enc α] (l : List α) : ∀ r ∈ l.map cells, r.length = Enc.n α := fun r hr => by
 obtain ⟨y, _, rfl⟩ := List.mem_map.1 hr
 exact Enc.len y
theorem readyP_true {p : af} : rq p = true ↔ l7 p = false ∧ cm p = 0 := by simp [rq]
end Go.AB
namespace Go.Proofs.YtbbdginipiljdaaDoor
set_option maxRecDepth 10000
open Go Go.RowKit Go.AB
open Go.AB.Enc (cells)
open Go.PB (av ai PlaceD az bf ba bl am af co bj dc dg)
theorem ud9 (a : List PlaceD) : Pure Tryd.prog 18 [lst a, lst a] (.v (.bool true)) := by
 have := uo6 a a
 rwa [decide_eq_true rfl] at this
theorem uea (a : List Int) (ha : a.length ≤ 1000) : Pure Tryd.prog 28 [lst a, lst a] (.v (.bool true)) := by
 have := uch a a ha
 rwa [decide_eq_true rfl] at this
theorem qx (a b c : Int) : Pure Tryd.prog 65 [.v (.int .i64 a), .v (.int .i64 b), .v (.int .i64 c)] (val (⟨a, b, c⟩ : PlaceD)) := by
 refine c5 Tryd.func65 rfl (fun m => (ei _ _)) fun G nx => ?_
 simp only [Tryd.ntmps65, List.length_cons, List.length_nil, Nat.reduceAdd, Nat.reduceSub]
 refine bu fun hlt => ?_
 dsimp only at hlt
 refine yS fun _ K1 => ?_
 refine yR ?_
 try dsimp only [St.put]
 refine ae rfl (dd rfl ?_)
 refine yN ?_
 dsimp only [St.put]
 refine K1 _ ?_
 refine yS fun _ K2 => ?_
 refine yR ?_
 refine yM rfl rfl ?_
 refine yM rfl rfl ?_
 refine yM rfl rfl ?_
 refine aa rfl (ie rfl rfl) ?_
 try dsimp only [St.put]
 refine ae rfl (cw rfl rfl rfl zG rfl rfl (by rfl) ?_)
 refine yN ?_
 dsimp only [St.put]
 refine K2 _ ?_
 refine aq ?_
 refine qd rfl (jv rfl zG (by rfl) zC rfl) zN zS ?_
 exact zW
theorem ut (l : List PlaceD) : Pure Tryd.prog 64 [lst l] (lst l) := by
 refine c5 Tryd.func64 rfl (fun m => (br _ _)) fun G nx => ?_
 simp only [Tryd.ntmps64, List.length_cons, List.length_nil, Nat.reduceAdd, Nat.reduceSub]
 refine bu fun hlt => ?_
 dsimp only at hlt
 refine yS fun _ K1 => ?_
 refine yR ?_
 refine yA rfl rfl ?_
 refine yN ?_
 dsimp only [St.put]
 refine K1 _ ?_
 refine yS fun _ K2 => ?_
 refine yR ?_
 refine yM rfl rfl ?_
 refine yA rfl rfl ?_
 refine yN ?_
 dsimp only [St.put]
 refine K2 _ ?_
 refine aq ?_
 refine bh rfl (by constructor) zN zS ?_
 rfl
theorem n4 : Pure Tryd.prog 36 [] (val exPr) := by
 refine c5 Tryd.func36 rfl (fun m => (ei _ _)) fun G nx => ?_
 simp only [Tryd.ntmps36, List.length_cons, List.length_nil, Nat.reduceAdd, Nat.reduceSub]
 refine bu fun hlt => ?_
 dsimp only at hlt
 refine yS fun _ K1 => ?_
 refine yR ?_
 try dsimp only [St.put]
 refine ae rfl (dd rfl ?_)
 refine yN ?_
 dsimp only [St.put]
 refine K1 _ ?_
 refine yS fun _ K2 => ?_
 refine yR ?_
 try dsimp only [St.put]
 refine ae rfl (du (rows := ([nh, ja, xIs, ni] : List ByteArray).map cells) rfl rfl rfl (by decide) (by decide) (mh _) (by decide) ?_)
 try dsimp only [St.put]
 refine ae rfl (du (rows := ([ni, nh, ja] : List ByteArray).map cells) rfl rfl rfl (by decide) (by decide) (mh _) (by decide) ?_)
 try dsimp only [St.put]
 refine ae rfl (du (rows := ([[nh, ja, xIs, ni], [ni, nh, ja]] : List (List ByteArray)).map cells) rfl rfl rfl (by decide) (by decide) (mh _) (by decide) ?_)
 refine aa rfl (ie (cs := cells (⟨7, [[nh, ja, xIs, ni], [ni, nh, ja]]⟩ : av)) rfl rfl) ?_
 try dsimp only [St.put]
 refine ae rfl (du (rows := ([ja, td, ja] : List ByteArray).map cells) rfl rfl rfl (by decide) (by decide) (mh _) (by decide) ?_)
 try dsimp only [St.put]
 refine ae rfl (du (rows := ([[ja, td, ja]] : List (List ByteArray)).map cells) rfl rfl rfl (by decide) (by decide) (mh _) (by decide) ?_)
 refine aa rfl (ie (cs := cells (⟨3, [[ja, td, ja]]⟩ : av)) rfl rfl) ?_
 try dsimp only [St.put]
 refine ae rfl (du (rows := ([⟨7, [[nh, ja, xIs, ni], [ni, nh, ja]]⟩, ⟨3, [[ja, td, ja]]⟩] : List av).map cells) rfl rfl rfl (by decide) (by decide) (mh _) (by decide) ?_)
 refine aa rfl (ie (cs := [lst exTx]) rfl rfl) ?_
 refine aa rfl (ie (cs := cells (⟨1, 50⟩ : bl)) rfl rfl) ?_
 refine aa rfl (ie (cs := cells (⟨2, 0⟩ : bl)) rfl rfl) ?_
 try dsimp only [St.put]
 refine ae rfl (du (rows := ([⟨1, 50⟩, ⟨2, 0⟩] : List bl).map cells) rfl rfl rfl (by decide) (by decide) (mh _) (by decide) ?_)
 refine aa rfl (ie (cs := cells (⟨3, 60⟩ : bl)) rfl rfl) ?_
 try dsimp only [St.put]
 refine ae rfl (du (rows := ([⟨3, 60⟩] : List bl).map cells) rfl rfl rfl (by decide) (by decide) (mh _) (by decide) ?_)
 try dsimp only [St.put]
 refine ae rfl (ay rfl rfl rfl (qx _ _ _) ?_)
 try dsimp only [St.put]
 refine ae rfl (du (rows := ([⟨0, 0, 0⟩] : List PlaceD).map cells) rfl rfl rfl (by decide) (by decide) (mh _) (by decide) ?_)
 try dsimp only [St.put]
 refine ae rfl (ay rfl rfl rfl (ut [⟨0, 0, 0⟩]) ?_)
 try dsimp only [St.put]
 refine ae rfl (ay rfl rfl rfl (qx _ _ _) ?_)
 try dsimp only [St.put]
 refine ae rfl (ay rfl rfl rfl (qx _ _ _) ?_)
 try dsimp only [St.put]
 refine ae rfl (du (rows := ([⟨0, 0, 0⟩, ⟨0, 0, 3⟩] : List PlaceD).map cells) rfl rfl rfl (by decide) (by decide) (mh _) (by decide) ?_)
 try dsimp only [St.put]
 refine ae rfl (ay rfl rfl rfl (ut [⟨0, 0, 0⟩, ⟨0, 0, 3⟩]) ?_)
 refine aa rfl (ie (cs := cells (⟨0, 0, 0, 0, [⟨0, 0, 0⟩], [⟨0, 0, 0⟩, ⟨0, 0, 3⟩]⟩ : am)) rfl rfl) ?_
 try dsimp only [St.put]
 refine ae rfl (ay rfl rfl rfl (qx _ _ _) ?_)
 try dsimp only [St.put]
 refine ae rfl (du (rows := ([⟨0, 1, 1⟩] : List PlaceD).map cells) rfl rfl rfl (by decide) (by decide) (mh _) (by decide) ?_)
 try dsimp only [St.put]
 refine ae rfl (ay rfl rfl rfl (ut [⟨0, 1, 1⟩]) ?_)
 refine aa rfl (ie (cs := [.v (.int .i64 1), .v (.int .i64 2), .v (.int .i64 0), .v (.int .i64 (-1)), lst ([⟨0, 1, 1⟩] : List PlaceD), .list [] .nil]) rfl rfl) ?_
 try dsimp only [St.put]
 refine ae rfl (e_wk 26 (val (⟨1, 2, 0, -1, [⟨0, 1, 1⟩], []⟩ : am)) rfl (by show Wk _ (.agg _); exact zW) ?_)
 dsimp only
 refine du (rows := ([⟨0, 0, 0, 0, [⟨0, 0, 0⟩], [⟨0, 0, 0⟩, ⟨0, 0, 3⟩]⟩, ⟨1, 2, 0, -1, [⟨0, 1, 1⟩], []⟩] : List am).map cells) rfl rfl rfl (by decide) (by decide) (mh _) (by decide) ?_
 refine aa rfl (ie (cs := [lst exTx, lst exPr.firsts, lst exPr.seconds, lst exPr.pages]) rfl rfl) ?_
 try dsimp only [St.put]
 refine ae rfl (cw rfl rfl rfl zG rfl rfl (by rfl) ?_)
 refine yN ?_
 dsimp only [St.put]
 refine K2 _ ?_
 refine aq ?_
 refine qd rfl (jv rfl zG (by rfl) zC rfl) zN zS ?_
 exact zW
theorem umc (n : Nat) (b : Bool) (r want : Int) : fu n fm Tryd.prog 34 [.v (.bool b), .v (.int .i64 r), .v (.int .i64 want)] (.v (.bool (decide (kp exPr b r = 0) && decide (pc exPr b r = want)))) := fun G nx hF hnx => by
 refine iz (G) (nx) Tryd.func34 rfl (.v) zN (fun hlt => zH) ?_
 simp only [Tryd.ntmps34, List.length_cons, List.length_nil, Nat.reduceAdd, Nat.reduceSub]
 refine bu fun hlt => ?_
 dsimp only at hlt
 refine yS fun _ K1 => ?_
 refine yR ?_
 refine yA rfl rfl ?_
 refine yN ?_
 dsimp only [St.put]
 refine K1 _ ?_
 refine yS fun _ K2 => ?_
 refine yR ?_
 try dsimp only [St.put]
 refine ae rfl (ay rfl rfl rfl (n4) ?_)
 refine yM rfl rfl ?_
 refine yM rfl rfl ?_
 try dsimp only [St.put]
 refine ae rfl (ec rfl rfl rfl (ukk n exPr b r) zG (by dsimp only [St.put]; omega) ?_)
 refine yM rfl rfl ?_
 refine yX rfl rfl rfl rfl ?_
 refine yX rfl rfl rfl rfl ?_
 refine yA rfl rfl ?_
 refine yA rfl rfl ?_
 refine yN ?_
 dsimp only [St.put]
 refine K2 _ ?_
 refine yS fun _ K3 => ?_
 refine yR ?_
 refine yM rfl rfl ?_
 refine aa rfl (fp rfl rfl rfl) ?_
 refine eg (fun hs => ?_) (fun hs => ?_)
 ·have h1 : decide (kp exPr b r = 0) = true := hs
  refine yM rfl rfl ?_
  refine yM rfl rfl ?_
  refine yM rfl rfl ?_
  refine aa rfl (fp rfl rfl rfl) ?_
  refine aa rfl (bz rfl rfl (by constructor)) ?_
  refine yA rfl rfl ?_
  refine yN ?_
  dsimp only [St.put]
  refine K3 _ ?_
  refine aq ?_
  refine bh rfl (by constructor) zN zS ?_
  exact vb (by rw [h1]; rfl)
 have h1 : decide (kp exPr b r = 0) = false := hs
 refine yM rfl rfl ?_
 refine yK rfl ?_
 refine yK rfl ?_
 refine yK rfl ?_
 refine aa rfl (ck rfl rfl (by constructor)) ?_
 refine yA rfl rfl ?_
 refine yN ?_
 dsimp only [St.put]
 refine K3 _ ?_
 refine aq ?_
 refine bh rfl (by constructor) zN zS ?_
 exact vb (by rw [h1]; rfl)
theorem umb (n : Nat) (m : Int) (want : List Int) : fu n fm Tryd.prog 35 [.v (.int .i64 m), lst want] (.v (.bool (decide (jd exPr m = 0) && decide (kh exPr m = want)))) := fun G nx hF hnx => by
 refine iz (G) (nx) Tryd.func35 rfl (.v) zN (fun hlt => zH) ?_
 simp only [Tryd.ntmps35, List.length_cons, List.length_nil, Nat.reduceAdd, Nat.reduceSub]
 refine bu fun hlt => ?_
 dsimp only at hlt
 have hcl : (kh exPr m).length ≤ 1000 := by
  unfold kh atE
  cases decide (jd exPr m = 0)
  ·exact Nat.zero_le _
  have := uf4 (vg exPr m) exPr.pages.length
  have e : exPr.pages.length = 2 := rfl
  show (og (vg exPr m) exPr.pages.length).length ≤ 1000
  omega
 refine yS fun _ K1 => ?_
 refine yR ?_
 refine yA rfl rfl ?_
 refine yN ?_
 dsimp only [St.put]
 refine K1 _ ?_
 refine yS fun _ K2 => ?_
 refine yR ?_
 try dsimp only [St.put]
 refine ae rfl (ay rfl rfl rfl (n4) ?_)
 refine yM rfl rfl ?_
 try dsimp only [St.put]
 refine ae rfl (ec rfl rfl rfl (uki n exPr m) zG (by dsimp only [St.put]; omega) ?_)
 refine yM rfl rfl ?_
 refine yX rfl rfl rfl rfl ?_
 refine yX rfl rfl rfl rfl ?_
 refine yA rfl rfl ?_
 refine yA rfl rfl ?_
 refine yN ?_
 dsimp only [St.put]
 refine K2 _ ?_
 refine yS fun _ K3 => ?_
 refine yR ?_
 refine yM rfl rfl ?_
 refine aa rfl (fp rfl rfl rfl) ?_
 refine eg (fun hs => ?_) (fun hs => ?_)
 ·have h1 : decide (jd exPr m = 0) = true := hs
  refine yM rfl rfl ?_
  refine yM rfl rfl ?_
  refine yM rfl rfl ?_
  try dsimp only [St.put]
  refine ae rfl (ay rfl rfl rfl (uch (kh exPr m) want hcl) ?_)
  refine aa rfl (bz rfl rfl (by constructor)) ?_
  refine yA rfl rfl ?_
  refine yN ?_
  dsimp only [St.put]
  refine K3 _ ?_
  refine aq ?_
  refine bh rfl (by constructor) zN zS ?_
  exact vb (by rw [h1]; rfl)
 have h1 : decide (jd exPr m = 0) = false := hs
 refine yM rfl rfl ?_
 refine yK rfl ?_
 refine yK rfl ?_
 refine yK rfl ?_
 refine aa rfl (ck rfl rfl (by constructor)) ?_
 refine yA rfl rfl ?_
 refine yN ?_
 dsimp only [St.put]
 refine K3 _ ?_
 refine aq ?_
 refine bh rfl (by constructor) zN zS ?_
 exact vb (by rw [h1]; rfl)
theorem uos (n : Nat) : fu n fm Tryd.prog 12 [val exPr, .v (.int .i64 1)] (.tup [.v (.int .i64 6), .v (.int .i64 0)]) := by
 have := uj5 n exPr 1
 rwa [xp_words.1, xp_words.2.1] at this
theorem uow (n : Nat) : fu n fm Tryd.prog 14 [val exPr, .v (.int .i64 0)] (.tup [lst ([⟨0, 0, 0⟩, ⟨0, 0, 3⟩] : List PlaceD), .v (.int .i64 0)]) := by
 have := ukh n exPr 0
 rwa [xp_found.1, xp_words.2.2.2] at this
theorem uoz (n : Nat) : fu n fm Tryd.prog 19 [val exPr, .v (.int .i64 0)] (.tup [lst ([⟨0, 0, 0⟩] : List PlaceD), .v (.int .i64 0)]) := by
 have := ukl n exPr 0
 rwa [xp_found.2, xp_words.2.2.2] at this
theorem uov (n : Nat) : fu n fm Tryd.prog 23 [val exPr, .v (.int .i64 0)] (.tup [val (⟨2, 2⟩ : bj), .v (.int .i64 0)]) := by
 have := ukg n exPr 0
 rwa [xp_guess.1, xp_guess.2] at this
theorem uou (n : Nat) : fu n fm Tryd.prog 32 [val exPr, .v (.int .i64 1)] (.tup [val (⟨0, 1⟩ : bj), .v (.int .i64 0)]) := by
 have := ucx n exPr 1
 rwa [xp_remain.1, xp_remain.2.1] at this
theorem uot (n : Nat) : fu n fm Tryd.prog 31 [val exPr] (.tup [val (⟨0, 1⟩ : bj), .v (.int .i64 0)]) := by
 have := wu n exPr
 rwa [ug2, vn] at this
theorem uor (n : Nat) : fu n fm Tryd.prog 37 [val exPr] (.tup [lst ([1, 0] : List Int), .v (.int .i64 0)]) := by
 have := uj4 n exPr
 rwa [ug1, vn] at this
theorem alWhy (n : Nat) : fu n fm Tryd.prog 38 [val exPr] (.tup [lst ([0] : List Int), lst ([] : List Int), .v (.int .i64 0)]) := by
 have := uj8 n exPr
 rwa [vn, qj, qj, xp_why.1, xp_why.2] at this
theorem uoy (n : Nat) : fu n fm Tryd.prog 34 [.v (.bool false), .v (.int .i64 0), .v (.int .i64 4)] (.v (.bool true)) := by
 have := umc n false 0 4
 rwa [xp_bound.1, xp_bound.2.1] at this
theorem uox (n : Nat) : fu n fm Tryd.prog 35 [.v (.int .i64 0), lst ([0, 1] : List Int)] (.v (.bool true)) := by
 have := umb n 0 [0, 1]
 rwa [xp_chief.1, xp_chief.2.1] at this
set_option maxHeartbeats 4000000 in
theorem uoq (n : Nat) : fu n fm Tryd.prog 29 [] (.v (.bool true)) := fun G nx hF hnx => by
 refine iz (G) (nx) Tryd.func29 rfl (.v) zN (fun hlt => zH) ?_
 simp only [Tryd.ntmps29, List.length_cons, List.length_nil, Nat.reduceAdd, Nat.reduceSub]
 refine bu fun hlt => ?_
 dsimp only at hlt
 refine yS fun _ K1 => ?_
 refine yR ?_
 refine yA rfl rfl ?_
 refine yN ?_
 dsimp only [St.put]
 refine K1 _ ?_
 refine yS fun _ K2 => ?_
 refine yR ?_
 try dsimp only [St.put]
 refine ae rfl (ay rfl rfl rfl (n4) ?_)
 try dsimp only [St.put]
 refine ae rfl ((ec rfl rfl rfl ((uos n)) zG (by dsimp only [St.put]; omega) ?_))
 refine yM rfl rfl ?_
 refine yX rfl rfl rfl rfl ?_
 refine yX rfl rfl rfl rfl ?_
 refine yA rfl rfl ?_
 refine yA rfl rfl ?_
 refine yN ?_
 dsimp only [St.put]
 refine K2 _ ?_
 refine yS fun _ K3 => ?_
 refine yR ?_
 try dsimp only [St.put]
 refine ae rfl (ay rfl rfl rfl (n4) ?_)
 try dsimp only [St.put]
 refine ae rfl ((ec rfl rfl rfl ((uow n)) zG (by dsimp only [St.put]; omega) ?_))
 refine yM rfl rfl ?_
 refine yX rfl rfl rfl rfl ?_
 refine yX rfl rfl rfl rfl ?_
 refine yA rfl rfl ?_
 refine yA rfl rfl ?_
 refine yN ?_
 dsimp only [St.put]
 refine K3 _ ?_
 refine yS fun _ K4 => ?_
 refine yR ?_
 try dsimp only [St.put]
 refine ae rfl (ay rfl rfl rfl (n4) ?_)
 try dsimp only [St.put]
 refine ae rfl ((ec rfl rfl rfl ((uoz n)) zG (by dsimp only [St.put]; omega) ?_))
 refine yM rfl rfl ?_
 refine yX rfl rfl rfl rfl ?_
 refine yX rfl rfl rfl rfl ?_
 refine yA rfl rfl ?_
 refine yA rfl rfl ?_
 refine yN ?_
 dsimp only [St.put]
 refine K4 _ ?_
 refine yS fun _ K5 => ?_
 refine yR ?_
 try dsimp only [St.put]
 refine ae rfl (ay rfl rfl rfl (n4) ?_)
 try dsimp only [St.put]
 refine ae rfl ((ec rfl rfl rfl ((uov n)) zG (by dsimp only [St.put]; omega) ?_))
 refine yM rfl rfl ?_
 refine yX rfl rfl rfl rfl ?_
 refine yX rfl rfl rfl rfl ?_
 try dsimp only [St.put]
 refine ae rfl (dd rfl ?_)
 try dsimp only [St.put]
 refine ae rfl (cw rfl rfl rfl zG rfl rfl (by rfl) ?_)
 refine yA rfl rfl ?_
 refine yN ?_
 dsimp only [St.put]
 refine K5 _ ?_
 refine fj (i := 7) rfl zG zC ?_
 dsimp only
 refine yS fun _ K6 => ?_
 refine yR ?_
 try dsimp only [St.put]
 refine ae rfl (ay rfl rfl rfl (n4) ?_)
 try dsimp only [St.put]
 refine ae rfl ((ec rfl rfl rfl ((uou n)) zG (by dsimp only [St.put]; omega) ?_))
 refine yM rfl rfl ?_
 refine yX rfl rfl rfl rfl ?_
 refine yX rfl rfl rfl rfl ?_
 try dsimp only [St.put]
 refine ae rfl (dd rfl ?_)
 try dsimp only [St.put]
 refine ae rfl (cw rfl rfl rfl zG rfl rfl (by rfl) ?_)
 refine yA rfl rfl ?_
 refine yN ?_
 dsimp only [St.put]
 refine K6 _ ?_
 refine fj (i := 9) rfl zG zC ?_
 dsimp only
 refine yS fun _ K7 => ?_
 refine yR ?_
 try dsimp only [St.put]
 refine ae rfl (ay rfl rfl rfl (n4) ?_)
 try dsimp only [St.put]
 refine ae rfl ((ec rfl rfl rfl ((uot n)) zG (by dsimp only [St.put]; omega) ?_))
 refine yM rfl rfl ?_
 refine yX rfl rfl rfl rfl ?_
 refine yX rfl rfl rfl rfl ?_
 try dsimp only [St.put]
 refine ae rfl (dd rfl ?_)
 try dsimp only [St.put]
 refine ae rfl (cw rfl rfl rfl zG rfl rfl (by rfl) ?_)
 refine yA rfl rfl ?_
 refine yN ?_
 dsimp only [St.put]
 refine K7 _ ?_
 refine fj (i := 11) rfl zG zC ?_
 dsimp only
 refine yS fun _ K8 => ?_
 refine yR ?_
 try dsimp only [St.put]
 refine ae rfl (ay rfl rfl rfl (n4) ?_)
 try dsimp only [St.put]
 refine ae rfl ((ec rfl rfl rfl ((uor n)) zG (by dsimp only [St.put]; omega) ?_))
 refine yM rfl rfl ?_
 refine yX rfl rfl rfl rfl ?_
 refine yX rfl rfl rfl rfl ?_
 refine yA rfl rfl ?_
 refine yA rfl rfl ?_
 refine yN ?_
 dsimp only [St.put]
 refine K8 _ ?_
 refine yS fun _ K9 => ?_
 refine yR ?_
 try dsimp only [St.put]
 refine ae rfl (ay rfl rfl rfl (n4) ?_)
 try dsimp only [St.put]
 refine ae rfl ((ec rfl rfl rfl ((alWhy n)) zG (by dsimp only [St.put]; omega) ?_))
 refine yM rfl rfl ?_
 refine yX rfl rfl rfl rfl ?_
 refine yX rfl rfl rfl rfl ?_
 refine yX rfl rfl rfl rfl ?_
 refine yA rfl rfl ?_
 refine yA rfl rfl ?_
 refine yA rfl rfl ?_
 refine yN ?_
 dsimp only [St.put]
 refine K9 _ ?_
 refine yS fun _ K10 => ?_
 refine cp 18 ?_
 refine zQ ?_
 refine dq G zX ?_
 dsimp only
 refine yR ?_
 refine yM rfl rfl ?_
 refine aa rfl (em (fp rfl rfl rfl) (decide_eq_true (by omega))) ?_
 refine yM rfl rfl ?_
 refine yM rfl rfl ?_
 ((first | refine aa rfl ((em (c := true) (fp rfl rfl rfl) (decide_eq_true rfl))) ?_ | refine ah rfl rfl rfl rfl ((em (c := true) (fp rfl rfl rfl) (decide_eq_true rfl))) ?_ | refine ed rfl rfl rfl rfl ((em (c := true) (fp rfl rfl rfl) (decide_eq_true rfl))) ?_ | refine vj rfl rfl rfl ((em (c := true) (fp rfl rfl rfl) (decide_eq_true rfl))) ?_))
 refine aa rfl (bz rfl rfl (by constructor)) ?_
 refine yM rfl rfl ?_
 refine yM rfl rfl ?_
 refine aa rfl (em (fp rfl rfl rfl) (decide_eq_true (by omega))) ?_
 refine aa rfl (bz rfl rfl (by constructor)) ?_
 refine yM rfl rfl ?_
 refine yM rfl rfl ?_
 try dsimp only [St.put]
 refine ae rfl (ay rfl rfl rfl (qx _ _ _) ?_)
 try dsimp only [St.put]
 refine ae rfl (ay rfl rfl rfl (qx _ _ _) ?_)
 try dsimp only [St.put]
 refine ae rfl (du rfl rfl rfl (by decide) (by decide) zR (by decide) ?_)
 try dsimp only [St.put]
 refine ae rfl (ay rfl rfl rfl (ut [⟨0, 0, 0⟩, ⟨0, 0, 3⟩]) ?_)
 try dsimp only [St.put]
 refine ae rfl (ay rfl rfl rfl (ud9 [⟨0, 0, 0⟩, ⟨0, 0, 3⟩]) ?_)
 refine aa rfl (bz rfl rfl (by constructor)) ?_
 refine yM rfl rfl ?_
 refine yM rfl rfl ?_
 refine aa rfl (em (fp rfl rfl rfl) (decide_eq_true (by omega))) ?_
 refine aa rfl (bz rfl rfl (by constructor)) ?_
 refine yM rfl rfl ?_
 refine yM rfl rfl ?_
 try dsimp only [St.put]
 refine ae rfl (ay rfl rfl rfl (qx _ _ _) ?_)
 try dsimp only [St.put]
 refine ae rfl (du rfl rfl rfl (by decide) (by decide) zR (by decide) ?_)
 try dsimp only [St.put]
 refine ae rfl (ay rfl rfl rfl (ut [⟨0, 0, 0⟩]) ?_)
 try dsimp only [St.put]
 refine ae rfl (ay rfl rfl rfl (ud9 [⟨0, 0, 0⟩]) ?_)
 refine aa rfl (bz rfl rfl (by constructor)) ?_
 refine yM rfl rfl ?_
 try dsimp only [St.put]
 refine ae rfl ((ec rfl rfl rfl ((uoy n)) zG (by dsimp only [St.put]; omega) ?_))
 refine aa rfl (bz rfl rfl (by constructor)) ?_
 refine yM rfl rfl ?_
 refine yM rfl rfl ?_
 refine aa rfl (em (fp rfl rfl rfl) (decide_eq_true (by omega))) ?_
 refine aa rfl (bz rfl rfl (by constructor)) ?_
 refine yM rfl rfl ?_
 refine yE rfl rfl rfl ?_
 refine aa rfl (ie rfl rfl) ?_
 ((first | refine aa rfl ((em (c := true) (mj (x := (⟨2, 2⟩ : bj)) (y := (⟨2, 2⟩ : bj)) rfl rfl rfl) (decide_eq_true rfl))) ?_ | refine ah rfl rfl rfl rfl ((em (c := true) (mj (x := (⟨2, 2⟩ : bj)) (y := (⟨2, 2⟩ : bj)) rfl rfl rfl) (decide_eq_true rfl))) ?_ | refine ed rfl rfl rfl rfl ((em (c := true) (mj (x := (⟨2, 2⟩ : bj)) (y := (⟨2, 2⟩ : bj)) rfl rfl rfl) (decide_eq_true rfl))) ?_ | refine vj rfl rfl rfl ((em (c := true) (mj (x := (⟨2, 2⟩ : bj)) (y := (⟨2, 2⟩ : bj)) rfl rfl rfl) (decide_eq_true rfl))) ?_))
 refine aa rfl (bz rfl rfl (by constructor)) ?_
 refine yM rfl rfl ?_
 refine yM rfl rfl ?_
 refine aa rfl (em (fp rfl rfl rfl) (decide_eq_true (by omega))) ?_
 refine aa rfl (bz rfl rfl (by constructor)) ?_
 refine yM rfl rfl ?_
 refine yE rfl rfl rfl ?_
 refine aa rfl (ie rfl rfl) ?_
 ((first | refine aa rfl ((em (c := true) (mj (x := (⟨0, 1⟩ : bj)) (y := (⟨0, 1⟩ : bj)) rfl rfl rfl) (decide_eq_true rfl))) ?_ | refine ah rfl rfl rfl rfl ((em (c := true) (mj (x := (⟨0, 1⟩ : bj)) (y := (⟨0, 1⟩ : bj)) rfl rfl rfl) (decide_eq_true rfl))) ?_ | refine ed rfl rfl rfl rfl ((em (c := true) (mj (x := (⟨0, 1⟩ : bj)) (y := (⟨0, 1⟩ : bj)) rfl rfl rfl) (decide_eq_true rfl))) ?_ | refine vj rfl rfl rfl ((em (c := true) (mj (x := (⟨0, 1⟩ : bj)) (y := (⟨0, 1⟩ : bj)) rfl rfl rfl) (decide_eq_true rfl))) ?_))
 refine aa rfl (bz rfl rfl (by constructor)) ?_
 refine yM rfl rfl ?_
 refine yM rfl rfl ?_
 refine aa rfl (em (fp rfl rfl rfl) (decide_eq_true (by omega))) ?_
 refine aa rfl (bz rfl rfl (by constructor)) ?_
 refine yM rfl rfl ?_
 refine yE rfl rfl rfl ?_
 refine aa rfl (ie rfl rfl) ?_
 ((first | refine aa rfl ((em (c := true) (mj (x := (⟨0, 1⟩ : bj)) (y := (⟨0, 1⟩ : bj)) rfl rfl rfl) (decide_eq_true rfl))) ?_ | refine ah rfl rfl rfl rfl ((em (c := true) (mj (x := (⟨0, 1⟩ : bj)) (y := (⟨0, 1⟩ : bj)) rfl rfl rfl) (decide_eq_true rfl))) ?_ | refine ed rfl rfl rfl rfl ((em (c := true) (mj (x := (⟨0, 1⟩ : bj)) (y := (⟨0, 1⟩ : bj)) rfl rfl rfl) (decide_eq_true rfl))) ?_ | refine vj rfl rfl rfl ((em (c := true) (mj (x := (⟨0, 1⟩ : bj)) (y := (⟨0, 1⟩ : bj)) rfl rfl rfl) (decide_eq_true rfl))) ?_))
 refine aa rfl (bz rfl rfl (by constructor)) ?_
 refine yM rfl rfl ?_
 refine yM rfl rfl ?_
 refine aa rfl (em (fp rfl rfl rfl) (decide_eq_true (by omega))) ?_
 refine aa rfl (bz rfl rfl (by constructor)) ?_
 refine yM rfl rfl ?_
 refine yM rfl rfl ?_
 try dsimp only [St.put]
 refine ae rfl (du rfl rfl rfl (by decide) (by decide) zR (by decide) ?_)
 try dsimp only [St.put]
 refine ae rfl (ay rfl rfl rfl (uea [1, 0] (by decide)) ?_)
 refine aa rfl (bz rfl rfl (by constructor)) ?_
 refine yM rfl rfl ?_
 refine yM rfl rfl ?_
 refine aa rfl (em (fp rfl rfl rfl) (decide_eq_true (by omega))) ?_
 refine aa rfl (bz rfl rfl (by constructor)) ?_
 refine yM rfl rfl ?_
 refine yM rfl rfl ?_
 try dsimp only [St.put]
 refine ae rfl (du rfl rfl rfl (by decide) (by decide) zR (by decide) ?_)
 try dsimp only [St.put]
 refine ae rfl (ay rfl rfl rfl (uea [0] (by decide)) ?_)
 refine aa rfl (bz rfl rfl (by constructor)) ?_
 refine yM rfl rfl ?_
 refine yM rfl rfl ?_
 refine aa rfl (bp rfl rfl (List.length_map _)) ?_
 ((first | refine aa rfl ((em (c := true) (fp rfl rfl rfl) (decide_eq_true rfl))) ?_ | refine ah rfl rfl rfl rfl ((em (c := true) (fp rfl rfl rfl) (decide_eq_true rfl))) ?_ | refine ed rfl rfl rfl rfl ((em (c := true) (fp rfl rfl rfl) (decide_eq_true rfl))) ?_ | refine vj rfl rfl rfl ((em (c := true) (fp rfl rfl rfl) (decide_eq_true rfl))) ?_))
 refine aa rfl (bz rfl rfl (by constructor)) ?_
 refine yM rfl rfl ?_
 try dsimp only [St.put]
 refine ae rfl (du rfl rfl rfl (by decide) (by decide) zR (by decide) ?_)
 try dsimp only [St.put]
 refine ae rfl ((ec rfl rfl rfl ((uox n)) zG (by dsimp only [St.put]; omega) ?_))
 refine aa rfl (bz rfl rfl (by constructor)) ?_
 refine yA rfl rfl ?_
 refine yN ?_
 dsimp only [St.put]
 refine K10 _ ?_
 refine aq ?_
 refine bh rfl (by constructor) zN zS ?_
 rfl
theorem uma (p : af) : Pure Tryd.prog 30 [val p] (.v (.bool (rq p))) := by
 refine c5 Tryd.func30 rfl (fun m => .v) fun G nx => ?_
 simp only [Tryd.ntmps30, List.length_cons, List.length_nil, Nat.reduceAdd, Nat.reduceSub]
 refine bu fun hlt => ?_
 dsimp only at hlt
 refine yS fun _ K1 => ?_
 refine yR ?_
 try dsimp only [St.put]
 refine yB rfl rfl rfl ?_
 refine yA rfl rfl ?_
 refine yN ?_
 dsimp only [St.put]
 refine K1 _ ?_
 refine yS fun _ K2 => ?_
 refine yR ?_
 refine yE rfl rfl rfl ?_
 try dsimp only [St.put]
 refine ae rfl (ay rfl rfl rfl (ujt p) ?_)
 refine aa rfl (eb rfl rfl) ?_
 refine yM rfl rfl ?_
 refine eg (fun hs => ?_) (fun hs => ?_)
 ·have h1 : l7 p = false := by simpa using hs
  refine yE rfl rfl rfl ?_
  try dsimp only [St.put]
  refine ae rfl (ay rfl rfl rfl (uju p) ?_)
  refine aa rfl (fp rfl rfl rfl) ?_
  refine aa rfl (bz rfl rfl (by constructor)) ?_
  refine yA rfl rfl ?_
  refine yN ?_
  dsimp only [St.put]
  refine K2 _ ?_
  refine aq ?_
  refine bh rfl (by constructor) zN zS ?_
  exact vb (by simp [rq, h1])
 have h1 : l7 p = true := by simpa using hs
 refine yK rfl ?_
 refine yK rfl ?_
 refine yK rfl ?_
 refine aa rfl (ck rfl rfl (by constructor)) ?_
 refine yA rfl rfl ?_
 refine yN ?_
 dsimp only [St.put]
 refine K2 _ ?_
 refine aq ?_
 refine bh rfl (by constructor) zN zS ?_
 exact vb (by simp [rq, h1])
end Go.Proofs.YtbbdginipiljdaaDoor
namespace Go.AB
open Go Go.RowKit
open Go.AB.Enc (cells)
open Go.PB (av ai PlaceD az bf ba bl am af co bj)
end Go.AB
namespace Go.AB
open Go Go.RowKit
open Go.AB.Enc (cells)
open Go.PB (av ai PlaceD az bf ba bl am af co bj dc dg)
section
variable {p : af} {i : Nat} {x : am}
theorem un9 (h : cm p = 0) (hx : p.pages[i]? = some x) : eh p (i : Int) = 0 := by
 have := (List.getElem?_eq_some_iff.1 hx).1
 unfold eh
 rw [decide_eq_true h, cond_true, inB_true.2 (by omega)]
 rfl
end
end Go.AB
namespace Go.Proofs.YtbbdginipiljdaaDoor
set_option maxRecDepth 10000
open Go Go.RowKit Go.AB
open Go.AB.Enc (cells)
open Go.PB (av ai PlaceD az bf ba bl am af co bj dc dg)
section
variable {p : af} {i : Nat} {x : am}
end
end Go.Proofs.YtbbdginipiljdaaDoor
namespace Go.AB
open Go Go.RowKit
open Go.AB.Enc (cells)
open Go.PB (av ai PlaceD az bf ba bl am af co bj dc dg)
end Go.AB
namespace Go.Proofs.YtbbdginipiljdaaDoor
set_option maxRecDepth 10000
open Go Go.RowKit Go.AB
open Go.AB.Enc (cells)
open Go.PB (av ai PlaceD az bf ba bl am af co bj dc dg)
theorem uaa (n : Nat) (p : af) (h : er p (cm p) = 0) {i : Nat} {x : am} (hx : p.pages[i]? = some x) : fu n fm Tryd.prog 32 [val p, .v (.int .i64 (i : Int))] (.tup [val (⟨0, (bi p).alone (bv p) (cj p) i⟩ : bj), .v (.int .i64 0)]) := by
 have hC := (r8 h).1
 have hA : er p (eh p (i : Int)) = 0 := by
  rw [hC] at h
  rw [un9 hC hx]
  exact h
 have := ucx n p (i : Int)
 rwa [hA, show ox p (i : Int) = ⟨0, (bi p).alone (bv p) (cj p) i⟩ by unfold ox; rw [hA, Int.toNat_natCast]; rfl] at this
end Go.Proofs.YtbbdginipiljdaaDoor
namespace Go.AB
open Go Go.RowKit
open Go.AB.Enc (cells)
open Go.PB (av ai PlaceD az bf ba bl am af co bj)
def twD (i : Nat) : Bool := [3, 5, 6, 7, 8, 9, 10, 11, 12, 13, 14, 15, 16, 17, 18, 19, 20].contains i
structure TwS (p : af) (eR eP : TypeId) (G0 : Nat → Option GObj) (n0 nn df : Nat) (l0 : List C) (A0 : Nat → C) (b2 b3 b6 b7 b10 b11 b14 b15 b16 b17 : Bool) (st : St) (a b c d va vb vc : Nat) : Prop where
 n : st.n = nn
 df : st.df = df
 l : st.l = l0
 nx : st.nx = n0 + b3.toNat + b7.toNat + b11.toNat + b16.toNat
 s : ∀ i, twD i = false → bn st.l st.r i = A0 i
 x10 : bn st.l st.r 10 = lst p.firsts
 x14 : bn st.l st.r 14 = lst p.seconds
 x18 : bn st.l st.r 18 = lst p.pages
 x6 : bn st.l st.r 6 = gu p.text
 f2 : b2 = true → bn st.l st.r 7 = gu p.text
 f3 : b3 = true → bn st.l st.r 8 = .own a 0 0
 r3 : b3 = true → n0 ≤ a ∧ a < st.nx
 g3 : b3 = true → b6 = false → st.G a = some (.arr 0 0 eR 2 0 [])
 f6 : b6 = true → bn st.l st.r 11 = .own a va p.firsts.length
 g6 : b6 = true → st.G a = some (.arr va 0 eR 2 p.firsts.length (cr p.firsts))
 f7 : b7 = true → bn st.l st.r 12 = .own b 0 0
 r7 : b7 = true → n0 ≤ b ∧ b < st.nx
 g7 : b7 = true → b10 = false → st.G b = some (.arr 0 0 eR 2 0 [])
 f10 : b10 = true → bn st.l st.r 15 = .own b vb p.seconds.length
 g10 : b10 = true → st.G b = some (.arr vb 0 eR 2 p.seconds.length (cr p.seconds))
 f11 : b11 = true → bn st.l st.r 16 = .own c 0 0
 r11 : b11 = true → n0 ≤ c ∧ c < st.nx
 g11 : b11 = true → b14 = false → st.G c = some (.arr 0 0 eP 6 0 [])
 f14 : b14 = true → bn st.l st.r 19 = .own c vc p.pages.length
 g14 : b14 = true → st.G c = some (.arr vc 0 eP 6 p.pages.length (cr p.pages))
 f15 : b15 = true → bn st.l st.r 20 = .agg [lst p.text, .own a va p.firsts.length, .own b vb p.seconds.length, .own c vc p.pages.length]
 f16 : b16 = true → bn st.l st.r 3 = .box d 0 0
 r16 : b16 = true → n0 ≤ d ∧ d < st.nx
 g16 : b16 = true → b17 = false → st.G d = some (.box 0 [.list [] .nil, .list [] .nil, .list [] .nil, .list [] .nil])
 f17 : b17 = true → st.G d = some (.box 1 [lst p.text, .own a va p.firsts.length, .own b vb p.seconds.length, .own c vc p.pages.length])
 ab : b3 = true → b7 = true → a ≠ b
 ac : b3 = true → b11 = true → a ≠ c
 ad : b3 = true → b16 = true → a ≠ d
 bc : b7 = true → b11 = true → b ≠ c
 bd : b7 = true → b16 = true → b ≠ d
 cd : b11 = true → b16 = true → c ≠ d
 G : ∀ m, (b3 = true → m ≠ a) → (b7 = true → m ≠ b) → (b11 = true → m ≠ c) → (b16 = true → m ≠ d) → st.G m = G0 m
 e6 : b6 = true → b3 = true
 e10 : b10 = true → b7 = true
 e14 : b14 = true → b11 = true
 e17 : b17 = true → b16 = true
 e18 : b17 = true → b15 = true
 q2 : b15 = true → b2 = true
 q6 : b15 = true → b6 = true
 q10 : b15 = true → b10 = true
 q14 : b15 = true → b14 = true
section
variable {p : af} {eR eP : TypeId} {G0 : Nat → Option GObj} {n0 nn df : Nat} {l0 : List C} {A0 : Nat → C} {b2 b3 b6 b7 b10 b11 b14 b15 b16 b17 : Bool} {st : St} {a b c d va vb vc : Nat}
theorem oq {i j : Nat} (h : twD i = false) (k : twD j = true) : Nat.beq j i = false := by
 cases e : Nat.beq j i
 ·rfl
 ·rw [Nat.eq_of_beq_eq_true e, h] at k; cases k
theorem TwS.step2 (h : TwS p eR eP G0 n0 nn df l0 A0 false b3 b6 b7 b10 b11 b14 b15 b16 b17 st a b c d va vb vc) : TwS p eR eP G0 n0 nn df l0 A0 true b3 b6 b7 b10 b11 b14 b15 b16 b17 (st.put (some 7) (gu p.text)) a b c d va vb vc := by
 exact {
  n := h.n
  df := h.df
  l := h.l
  nx := h.nx
  s := fun i hi => by show (bif Nat.beq 7 i then _ else bn st.l st.r i) = _; rw [oq hi rfl]; exact h.s i hi
  x10 := h.x10
  x14 := h.x14
  x18 := h.x18
  x6 := h.x6
  f2 := fun _ => rfl
  f3 := h.f3
  r3 := h.r3
  g3 := h.g3
  f6 := h.f6
  g6 := h.g6
  f7 := h.f7
  r7 := h.r7
  g7 := h.g7
  f10 := h.f10
  g10 := h.g10
  f11 := h.f11
  r11 := h.r11
  g11 := h.g11
  f14 := h.f14
  g14 := h.g14
  f15 := h.f15
  f16 := h.f16
  r16 := h.r16
  g16 := h.g16
  f17 := h.f17
  ab := h.ab
  ac := h.ac
  ad := h.ad
  bc := h.bc
  bd := h.bd
  cd := h.cd
  G := h.G
  e6 := h.e6
  e10 := h.e10
  e14 := h.e14
  e17 := h.e17
  e18 := h.e18
  q2 := fun _ => rfl
  q6 := h.q6
  q10 := h.q10
  q14 := h.q14 }
theorem TwS.step3 (h : TwS p eR eP G0 n0 nn df l0 A0 b2 false b6 b7 b10 b11 b14 b15 b16 b17 st a b c d va vb vc) (k : b6 = false) (k15 : b15 = false) : TwS p eR eP G0 n0 nn df l0 A0 b2 true b6 b7 b10 b11 b14 b15 b16 b17 (St.put { st with G := ak st.G st.nx (.arr 0 0 eR 2 0 []), nx := st.nx + 1 } (some 8) (.own st.nx 0 0)) st.nx b c d va vb vc := by
 have hnx := h.nx
 subst k
 subst k15
 exact {
  n := h.n
  df := h.df
  l := h.l
  nx := by show st.nx + 1 = _; rw [hnx]; simp only [Bool.toNat_true, Bool.toNat_false] <;> omega
  s := fun i hi => by show (bif Nat.beq 8 i then _ else bn st.l st.r i) = _; rw [oq hi rfl]; exact h.s i hi
  x10 := h.x10
  x14 := h.x14
  x18 := h.x18
  x6 := h.x6
  f2 := h.f2
  f3 := fun _ => rfl
  r3 := fun _ => ⟨by omega, Nat.lt_succ_self _⟩
  g3 := fun _ _ => jt _ _ _
  f6 := fun e => nomatch e
  g6 := fun e => nomatch e
  f7 := h.f7
  r7 := fun e => ⟨(h.r7 e).1, Nat.lt_succ_of_lt (h.r7 e).2⟩
  g7 := fun e f => (cy (Nat.ne_of_lt (h.r7 e).2)).trans (h.g7 e f)
  f10 := h.f10
  g10 := fun f => have e := h.e10 f; (cy (Nat.ne_of_lt (h.r7 e).2)).trans (h.g10 f)
  f11 := h.f11
  r11 := fun e => ⟨(h.r11 e).1, Nat.lt_succ_of_lt (h.r11 e).2⟩
  g11 := fun e f => (cy (Nat.ne_of_lt (h.r11 e).2)).trans (h.g11 e f)
  f14 := h.f14
  g14 := fun f => have e := h.e14 f; (cy (Nat.ne_of_lt (h.r11 e).2)).trans (h.g14 f)
  f15 := fun e => nomatch e
  f16 := h.f16
  r16 := fun e => ⟨(h.r16 e).1, Nat.lt_succ_of_lt (h.r16 e).2⟩
  g16 := fun e f => (cy (Nat.ne_of_lt (h.r16 e).2)).trans (h.g16 e f)
  f17 := fun f => nomatch h.e18 f
  ab := fun _ e => (Nat.ne_of_lt (h.r7 e).2).symm
  ac := fun _ e => (Nat.ne_of_lt (h.r11 e).2).symm
  ad := fun _ e => (Nat.ne_of_lt (h.r16 e).2).symm
  bc := h.bc
  bd := h.bd
  cd := h.cd
  G := fun m h1 h2 h3 h4 => (cy (h1 rfl)).trans (h.G m (fun e => nomatch e) h2 h3 h4)
  e6 := fun e => nomatch e
  e10 := h.e10
  e14 := h.e14
  e17 := h.e17
  e18 := h.e18
  q2 := h.q2
  q6 := h.q6
  q10 := h.q10
  q14 := h.q14 }
theorem TwS.step6 (h : TwS p eR eP G0 n0 nn df l0 A0 b2 true false b7 b10 b11 b14 b15 b16 b17 st a b c d va vb vc) (k15 : b15 = false) (w : Nat) : TwS p eR eP G0 n0 nn df l0 A0 b2 true true b7 b10 b11 b14 b15 b16 b17 (St.put { st with G := ak st.G a (.arr w 0 eR 2 p.firsts.length (cr p.firsts)) } (some 11) (.own a w p.firsts.length)) a b c d w vb vc := by
 subst k15
 exact {
  n := h.n
  df := h.df
  l := h.l
  nx := h.nx
  s := fun i hi => by show (bif Nat.beq 11 i then _ else bn st.l st.r i) = _; rw [oq hi rfl]; exact h.s i hi
  x10 := h.x10
  x14 := h.x14
  x18 := h.x18
  x6 := h.x6
  f2 := h.f2
  f3 := h.f3
  r3 := h.r3
  g3 := fun _ e => nomatch e
  f6 := fun _ => rfl
  g6 := fun _ => jt _ _ _
  f7 := h.f7
  r7 := h.r7
  g7 := fun e f => (cy (h.ab rfl e).symm).trans (h.g7 e f)
  f10 := h.f10
  g10 := fun f => have e := h.e10 f; (cy (h.ab rfl e).symm).trans (h.g10 f)
  f11 := h.f11
  r11 := h.r11
  g11 := fun e f => (cy (h.ac rfl e).symm).trans (h.g11 e f)
  f14 := h.f14
  g14 := fun f => have e := h.e14 f; (cy (h.ac rfl e).symm).trans (h.g14 f)
  f15 := fun e => nomatch e
  f16 := h.f16
  r16 := h.r16
  g16 := fun e f => (cy (h.ad rfl e).symm).trans (h.g16 e f)
  f17 := fun f => nomatch h.e18 f
  ab := h.ab
  ac := h.ac
  ad := h.ad
  bc := h.bc
  bd := h.bd
  cd := h.cd
  G := fun m h1 h2 h3 h4 => (cy (h1 rfl)).trans (h.G m h1 h2 h3 h4)
  e6 := fun _ => rfl
  e10 := h.e10
  e14 := h.e14
  e17 := h.e17
  e18 := h.e18
  q2 := h.q2
  q6 := fun _ => rfl
  q10 := h.q10
  q14 := h.q14 }
theorem TwS.step7 (h : TwS p eR eP G0 n0 nn df l0 A0 b2 b3 b6 false b10 b11 b14 b15 b16 b17 st a b c d va vb vc) (k : b10 = false) (k15 : b15 = false) : TwS p eR eP G0 n0 nn df l0 A0 b2 b3 b6 true b10 b11 b14 b15 b16 b17 (St.put { st with G := ak st.G st.nx (.arr 0 0 eR 2 0 []), nx := st.nx + 1 } (some 12) (.own st.nx 0 0)) a st.nx c d va vb vc := by
 have hnx := h.nx
 subst k
 subst k15
 exact {
  n := h.n
  df := h.df
  l := h.l
  nx := by show st.nx + 1 = _; rw [hnx]; simp only [Bool.toNat_true, Bool.toNat_false] <;> omega
  s := fun i hi => by show (bif Nat.beq 12 i then _ else bn st.l st.r i) = _; rw [oq hi rfl]; exact h.s i hi
  x10 := h.x10
  x14 := h.x14
  x18 := h.x18
  x6 := h.x6
  f2 := h.f2
  f3 := h.f3
  r3 := fun e => ⟨(h.r3 e).1, Nat.lt_succ_of_lt (h.r3 e).2⟩
  g3 := fun e f => (cy (Nat.ne_of_lt (h.r3 e).2)).trans (h.g3 e f)
  f6 := h.f6
  g6 := fun f => have e := h.e6 f; (cy (Nat.ne_of_lt (h.r3 e).2)).trans (h.g6 f)
  f7 := fun _ => rfl
  r7 := fun _ => ⟨by omega, Nat.lt_succ_self _⟩
  g7 := fun _ _ => jt _ _ _
  f10 := fun e => nomatch e
  g10 := fun e => nomatch e
  f11 := h.f11
  r11 := fun e => ⟨(h.r11 e).1, Nat.lt_succ_of_lt (h.r11 e).2⟩
  g11 := fun e f => (cy (Nat.ne_of_lt (h.r11 e).2)).trans (h.g11 e f)
  f14 := h.f14
  g14 := fun f => have e := h.e14 f; (cy (Nat.ne_of_lt (h.r11 e).2)).trans (h.g14 f)
  f15 := fun e => nomatch e
  f16 := h.f16
  r16 := fun e => ⟨(h.r16 e).1, Nat.lt_succ_of_lt (h.r16 e).2⟩
  g16 := fun e f => (cy (Nat.ne_of_lt (h.r16 e).2)).trans (h.g16 e f)
  f17 := fun f => nomatch h.e18 f
  ab := fun e _ => Nat.ne_of_lt (h.r3 e).2
  ac := h.ac
  ad := h.ad
  bc := fun _ e => (Nat.ne_of_lt (h.r11 e).2).symm
  bd := fun _ e => (Nat.ne_of_lt (h.r16 e).2).symm
  cd := h.cd
  G := fun m h1 h2 h3 h4 => (cy (h2 rfl)).trans (h.G m h1 (fun e => nomatch e) h3 h4)
  e6 := h.e6
  e10 := fun e => nomatch e
  e14 := h.e14
  e17 := h.e17
  e18 := h.e18
  q2 := h.q2
  q6 := h.q6
  q10 := h.q10
  q14 := h.q14 }
theorem TwS.step10 (h : TwS p eR eP G0 n0 nn df l0 A0 b2 b3 b6 true false b11 b14 b15 b16 b17 st a b c d va vb vc) (k15 : b15 = false) (w : Nat) : TwS p eR eP G0 n0 nn df l0 A0 b2 b3 b6 true true b11 b14 b15 b16 b17 (St.put { st with G := ak st.G b (.arr w 0 eR 2 p.seconds.length (cr p.seconds)) } (some 15) (.own b w p.seconds.length)) a b c d va w vc := by
 subst k15
 exact {
  n := h.n
  df := h.df
  l := h.l
  nx := h.nx
  s := fun i hi => by show (bif Nat.beq 15 i then _ else bn st.l st.r i) = _; rw [oq hi rfl]; exact h.s i hi
  x10 := h.x10
  x14 := h.x14
  x18 := h.x18
  x6 := h.x6
  f2 := h.f2
  f3 := h.f3
  r3 := h.r3
  g3 := fun e f => (cy (h.ab e rfl)).trans (h.g3 e f)
  f6 := h.f6
  g6 := fun f => have e := h.e6 f; (cy (h.ab e rfl)).trans (h.g6 f)
  f7 := h.f7
  r7 := h.r7
  g7 := fun _ e => nomatch e
  f10 := fun _ => rfl
  g10 := fun _ => jt _ _ _
  f11 := h.f11
  r11 := h.r11
  g11 := fun e f => (cy (h.bc rfl e).symm).trans (h.g11 e f)
  f14 := h.f14
  g14 := fun f => have e := h.e14 f; (cy (h.bc rfl e).symm).trans (h.g14 f)
  f15 := fun e => nomatch e
  f16 := h.f16
  r16 := h.r16
  g16 := fun e f => (cy (h.bd rfl e).symm).trans (h.g16 e f)
  f17 := fun f => nomatch h.e18 f
  ab := h.ab
  ac := h.ac
  ad := h.ad
  bc := h.bc
  bd := h.bd
  cd := h.cd
  G := fun m h1 h2 h3 h4 => (cy (h2 rfl)).trans (h.G m h1 h2 h3 h4)
  e6 := h.e6
  e10 := fun _ => rfl
  e14 := h.e14
  e17 := h.e17
  e18 := h.e18
  q2 := h.q2
  q6 := h.q6
  q10 := fun _ => rfl
  q14 := h.q14 }
theorem TwS.step11 (h : TwS p eR eP G0 n0 nn df l0 A0 b2 b3 b6 b7 b10 false b14 b15 b16 b17 st a b c d va vb vc) (k : b14 = false) (k15 : b15 = false) : TwS p eR eP G0 n0 nn df l0 A0 b2 b3 b6 b7 b10 true b14 b15 b16 b17 (St.put { st with G := ak st.G st.nx (.arr 0 0 eP 6 0 []), nx := st.nx + 1 } (some 16) (.own st.nx 0 0)) a b st.nx d va vb vc := by
 have hnx := h.nx
 subst k
 subst k15
 exact {
  n := h.n
  df := h.df
  l := h.l
  nx := by show st.nx + 1 = _; rw [hnx]; simp only [Bool.toNat_true, Bool.toNat_false] <;> omega
  s := fun i hi => by show (bif Nat.beq 16 i then _ else bn st.l st.r i) = _; rw [oq hi rfl]; exact h.s i hi
  x10 := h.x10
  x14 := h.x14
  x18 := h.x18
  x6 := h.x6
  f2 := h.f2
  f3 := h.f3
  r3 := fun e => ⟨(h.r3 e).1, Nat.lt_succ_of_lt (h.r3 e).2⟩
  g3 := fun e f => (cy (Nat.ne_of_lt (h.r3 e).2)).trans (h.g3 e f)
  f6 := h.f6
  g6 := fun f => have e := h.e6 f; (cy (Nat.ne_of_lt (h.r3 e).2)).trans (h.g6 f)
  f7 := h.f7
  r7 := fun e => ⟨(h.r7 e).1, Nat.lt_succ_of_lt (h.r7 e).2⟩
  g7 := fun e f => (cy (Nat.ne_of_lt (h.r7 e).2)).trans (h.g7 e f)
  f10 := h.f10
  g10 := fun f => have e := h.e10 f; (cy (Nat.ne_of_lt (h.r7 e).2)).trans (h.g10 f)
  f11 := fun _ => rfl
  r11 := fun _ => ⟨by omega, Nat.lt_succ_self _⟩
  g11 := fun _ _ => jt _ _ _
  f14 := fun e => nomatch e
  g14 := fun e => nomatch e
  f15 := fun e => nomatch e
  f16 := h.f16
  r16 := fun e => ⟨(h.r16 e).1, Nat.lt_succ_of_lt (h.r16 e).2⟩
  g16 := fun e f => (cy (Nat.ne_of_lt (h.r16 e).2)).trans (h.g16 e f)
  f17 := fun f => nomatch h.e18 f
  ab := h.ab
  ac := fun e _ => Nat.ne_of_lt (h.r3 e).2
  ad := h.ad
  bc := fun e _ => Nat.ne_of_lt (h.r7 e).2
  bd := h.bd
  cd := fun _ e => (Nat.ne_of_lt (h.r16 e).2).symm
  G := fun m h1 h2 h3 h4 => (cy (h3 rfl)).trans (h.G m h1 h2 (fun e => nomatch e) h4)
  e6 := h.e6
  e10 := h.e10
  e14 := fun e => nomatch e
  e17 := h.e17
  e18 := h.e18
  q2 := h.q2
  q6 := h.q6
  q10 := h.q10
  q14 := h.q14 }
theorem TwS.step14 (h : TwS p eR eP G0 n0 nn df l0 A0 b2 b3 b6 b7 b10 true false b15 b16 b17 st a b c d va vb vc) (k15 : b15 = false) (w : Nat) : TwS p eR eP G0 n0 nn df l0 A0 b2 b3 b6 b7 b10 true true b15 b16 b17 (St.put { st with G := ak st.G c (.arr w 0 eP 6 p.pages.length (cr p.pages)) } (some 19) (.own c w p.pages.length)) a b c d va vb w := by
 subst k15
 exact {
  n := h.n
  df := h.df
  l := h.l
  nx := h.nx
  s := fun i hi => by show (bif Nat.beq 19 i then _ else bn st.l st.r i) = _; rw [oq hi rfl]; exact h.s i hi
  x10 := h.x10
  x14 := h.x14
  x18 := h.x18
  x6 := h.x6
  f2 := h.f2
  f3 := h.f3
  r3 := h.r3
  g3 := fun e f => (cy (h.ac e rfl)).trans (h.g3 e f)
  f6 := h.f6
  g6 := fun f => have e := h.e6 f; (cy (h.ac e rfl)).trans (h.g6 f)
  f7 := h.f7
  r7 := h.r7
  g7 := fun e f => (cy (h.bc e rfl)).trans (h.g7 e f)
  f10 := h.f10
  g10 := fun f => have e := h.e10 f; (cy (h.bc e rfl)).trans (h.g10 f)
  f11 := h.f11
  r11 := h.r11
  g11 := fun _ e => nomatch e
  f14 := fun _ => rfl
  g14 := fun _ => jt _ _ _
  f15 := fun e => nomatch e
  f16 := h.f16
  r16 := h.r16
  g16 := fun e f => (cy (h.cd rfl e).symm).trans (h.g16 e f)
  f17 := fun f => nomatch h.e18 f
  ab := h.ab
  ac := h.ac
  ad := h.ad
  bc := h.bc
  bd := h.bd
  cd := h.cd
  G := fun m h1 h2 h3 h4 => (cy (h3 rfl)).trans (h.G m h1 h2 h3 h4)
  e6 := h.e6
  e10 := h.e10
  e14 := fun _ => rfl
  e17 := h.e17
  e18 := h.e18
  q2 := h.q2
  q6 := h.q6
  q10 := h.q10
  q14 := fun _ => rfl }
theorem TwS.step15 (h : TwS p eR eP G0 n0 nn df l0 A0 true b3 true b7 true b11 true false b16 b17 st a b c d va vb vc) : TwS p eR eP G0 n0 nn df l0 A0 true b3 true b7 true b11 true true b16 b17 (st.put (some 20) (.agg [lst p.text, .own a va p.firsts.length, .own b vb p.seconds.length, .own c vc p.pages.length])) a b c d va vb vc := by
 exact {
  n := h.n
  df := h.df
  l := h.l
  nx := h.nx
  s := fun i hi => by show (bif Nat.beq 20 i then _ else bn st.l st.r i) = _; rw [oq hi rfl]; exact h.s i hi
  x10 := h.x10
  x14 := h.x14
  x18 := h.x18
  x6 := h.x6
  f2 := h.f2
  f3 := h.f3
  r3 := h.r3
  g3 := h.g3
  f6 := h.f6
  g6 := h.g6
  f7 := h.f7
  r7 := h.r7
  g7 := h.g7
  f10 := h.f10
  g10 := h.g10
  f11 := h.f11
  r11 := h.r11
  g11 := h.g11
  f14 := h.f14
  g14 := h.g14
  f15 := fun _ => rfl
  f16 := h.f16
  r16 := h.r16
  g16 := h.g16
  f17 := h.f17
  ab := h.ab
  ac := h.ac
  ad := h.ad
  bc := h.bc
  bd := h.bd
  cd := h.cd
  G := h.G
  e6 := h.e6
  e10 := h.e10
  e14 := h.e14
  e17 := h.e17
  e18 := fun _ => rfl
  q2 := fun _ => rfl
  q6 := fun _ => rfl
  q10 := fun _ => rfl
  q14 := fun _ => rfl }
theorem TwS.step16 (h : TwS p eR eP G0 n0 nn df l0 A0 b2 b3 b6 b7 b10 b11 b14 b15 false b17 st a b c d va vb vc) (k : b17 = false) : TwS p eR eP G0 n0 nn df l0 A0 b2 b3 b6 b7 b10 b11 b14 b15 true b17 (St.put { st with G := ak st.G st.nx (.box 0 [.list [] .nil, .list [] .nil, .list [] .nil, .list [] .nil]), nx := st.nx + 1 } (some 3) (.box st.nx 0 0)) a b c st.nx va vb vc := by
 have hnx := h.nx
 subst k
 exact {
  n := h.n
  df := h.df
  l := h.l
  nx := by show st.nx + 1 = _; rw [hnx]; simp only [Bool.toNat_true, Bool.toNat_false] <;> omega
  s := fun i hi => by show (bif Nat.beq 3 i then _ else bn st.l st.r i) = _; rw [oq hi rfl]; exact h.s i hi
  x10 := h.x10
  x14 := h.x14
  x18 := h.x18
  x6 := h.x6
  f2 := h.f2
  f3 := h.f3
  r3 := fun e => ⟨(h.r3 e).1, Nat.lt_succ_of_lt (h.r3 e).2⟩
  g3 := fun e f => (cy (Nat.ne_of_lt (h.r3 e).2)).trans (h.g3 e f)
  f6 := h.f6
  g6 := fun f => have e := h.e6 f; (cy (Nat.ne_of_lt (h.r3 e).2)).trans (h.g6 f)
  f7 := h.f7
  r7 := fun e => ⟨(h.r7 e).1, Nat.lt_succ_of_lt (h.r7 e).2⟩
  g7 := fun e f => (cy (Nat.ne_of_lt (h.r7 e).2)).trans (h.g7 e f)
  f10 := h.f10
  g10 := fun f => have e := h.e10 f; (cy (Nat.ne_of_lt (h.r7 e).2)).trans (h.g10 f)
  f11 := h.f11
  r11 := fun e => ⟨(h.r11 e).1, Nat.lt_succ_of_lt (h.r11 e).2⟩
  g11 := fun e f => (cy (Nat.ne_of_lt (h.r11 e).2)).trans (h.g11 e f)
  f14 := h.f14
  g14 := fun f => have e := h.e14 f; (cy (Nat.ne_of_lt (h.r11 e).2)).trans (h.g14 f)
  f15 := h.f15
  f16 := fun _ => rfl
  r16 := fun _ => ⟨by omega, Nat.lt_succ_self _⟩
  g16 := fun _ _ => jt _ _ _
  f17 := fun e => nomatch e
  ab := h.ab
  ac := h.ac
  ad := fun e _ => Nat.ne_of_lt (h.r3 e).2
  bc := h.bc
  bd := fun e _ => Nat.ne_of_lt (h.r7 e).2
  cd := fun e _ => Nat.ne_of_lt (h.r11 e).2
  G := fun m h1 h2 h3 h4 => (cy (h4 rfl)).trans (h.G m h1 h2 h3 (fun e => nomatch e))
  e6 := h.e6
  e10 := h.e10
  e14 := h.e14
  e17 := fun e => nomatch e
  e18 := fun e => nomatch e
  q2 := h.q2
  q6 := h.q6
  q10 := h.q10
  q14 := h.q14 }
theorem TwS.step17 (h : TwS p eR eP G0 n0 nn df l0 A0 b2 b3 b6 b7 b10 b11 b14 true true false st a b c d va vb vc) : TwS p eR eP G0 n0 nn df l0 A0 b2 b3 b6 b7 b10 b11 b14 true true true { st with G := ak st.G d (.box 1 [lst p.text, .own a va p.firsts.length, .own b vb p.seconds.length, .own c vc p.pages.length]) } a b c d va vb vc := by
 exact {
  n := h.n
  df := h.df
  l := h.l
  nx := h.nx
  s := h.s
  x10 := h.x10
  x14 := h.x14
  x18 := h.x18
  x6 := h.x6
  f2 := h.f2
  f3 := h.f3
  r3 := h.r3
  g3 := fun e f => (cy (h.ad e rfl)).trans (h.g3 e f)
  f6 := h.f6
  g6 := fun f => have e := h.e6 f; (cy (h.ad e rfl)).trans (h.g6 f)
  f7 := h.f7
  r7 := h.r7
  g7 := fun e f => (cy (h.bd e rfl)).trans (h.g7 e f)
  f10 := h.f10
  g10 := fun f => have e := h.e10 f; (cy (h.bd e rfl)).trans (h.g10 f)
  f11 := h.f11
  r11 := h.r11
  g11 := fun e f => (cy (h.cd e rfl)).trans (h.g11 e f)
  f14 := h.f14
  g14 := fun f => have e := h.e14 f; (cy (h.cd e rfl)).trans (h.g14 f)
  f15 := h.f15
  f16 := h.f16
  r16 := h.r16
  g16 := fun _ e => nomatch e
  f17 := fun _ => jt _ _ _
  ab := h.ab
  ac := h.ac
  ad := h.ad
  bc := h.bc
  bd := h.bd
  cd := h.cd
  G := fun m h1 h2 h3 h4 => (cy (h4 rfl)).trans (h.G m h1 h2 h3 h4)
  e6 := h.e6
  e10 := h.e10
  e14 := h.e14
  e17 := fun _ => rfl
  e18 := fun _ => rfl
  q2 := h.q2
  q6 := h.q6
  q10 := h.q10
  q14 := h.q14 }
end
end Go.AB
namespace Go.AB
open Go Go.RowKit
theorem n7 {ops : Array Oper} {st : St} {o : Oper} (h1 : sb o.op = false) (h2 : o.guard = none) : et ops st o = some true := by
 unfold et uv
 rw [h1, h2]; rfl
theorem ma {st : St} {i n : Nat} {c : C} (hn : st.n = n) (hi : Nat.blt i n = true) (h : bn st.l st.r i = c) : st.at i = c := by
 unfold St.at
 rw [hn, hi]; exact h
theorem nz {a b : Bool} (h : a = true → b = true) (hb : b = false) : a = false := by
 cases a
 ·rfl
 rw [h rfl] at hb; cases hb
end Go.AB
namespace Go.Proofs.YtbbdginipiljdaaDoor
set_option maxRecDepth 10000
open Go Go.RowKit Go.AB
open Go.AB.Enc (cells)
open Go.PB (av ai PlaceD az bf ba bl am af co bj dc dg)
theorem uej {p : af} (h : l7 p = false) : ld p.text = false ∧ p.firsts.length ≤ 6 ∧ p.seconds.length ≤ 6 ∧ p.pages.length ≤ 12 ∧ ∀ x ∈ p.pages, x.found.length ≤ 200 ∧ x.well.length ≤ 200 := by
 unfold l7 at h
 simp only [Bool.or_eq_false_iff, decide_eq_false_iff_not, List.any_eq_false] at h
 obtain ⟨⟨⟨⟨h1, h2⟩, h3⟩, h4⟩, h5⟩ := h
 refine ⟨h1, by omega, by omega, by omega, fun x hx => ?_⟩
 have := h5 x hx
 simp only [kf, Bool.or_eq_true, decide_eq_true_eq, not_or] at this
 omega
abbrev TwI (p : af) (G0 : Nat → Option GObj) (n0 df : Nat) (l0 : List C) (A0 : Nat → C) (l : List Bool) (st : St) : Prop :=
 ∃ b2 b3 b6 b7 b10 b11 b14 b15 b16 b17 a b c d va vb vc, l = [true, true, b2, b3, true, true, b6, b7, true, true, b10, b11, true, true, b14, b15, b16, b17] ∧ TwS p 66 70 G0 n0 55 df l0 A0 b2 b3 b6 b7 b10 b11 b14 b15 b16 b17 st a b c d va vb vc
set_option maxHeartbeats 1000000 in
theorem uhu (p : af) (hg : l7 p = false) {ol : List Oper} {K : St → Prop} {late : Nat → Bool} (st0 : St) (hlen : ol.length = 18) (hf : ux ol = true) (hgd : ∀ o ∈ ol, o.guard = none)
  (hd : ol.map m5 = [[], [0], [1], [], [], [4], [3, 5, 2], [], [], [8], [7, 9, 6], [], [], [12], [11, 13, 10], [2, 6, 10, 14], [], [16, 15, 14, 0, 1, 2, 3, 4, 5, 6, 7, 8, 9, 10, 11, 12, 13, 14, 15, 16]])
  (hq : ol.map (·.dst) = [some 5, some 6, some 7, some 8, some 9, some 10, some 11, some 12, some 13, some 14, some 15, some 16, some 17, some 18, some 19, some 20, some 3, none])
  (ho : (ol.map (·.op)).drop 2 = [.call { callee := .value (.func 40), args := #[.tmp 6], argTypes := #[24] }, .buildSlice 25 0 #[], .fieldAddr 28 (.tmp 1) 1, .load 25 (.tmp 9),
   .call { callee := .builtin .append, args := #[.tmp 8, .tmp 10], argTypes := #[25, 25] }, .buildSlice 25 0 #[], .fieldAddr 28 (.tmp 1) 2, .load 25 (.tmp 13),
   .call { callee := .builtin .append, args := #[.tmp 12, .tmp 14], argTypes := #[25, 25] }, .buildSlice 26 0 #[], .fieldAddr 28 (.tmp 1) 3, .load 26 (.tmp 17),
   .call { callee := .builtin .append, args := #[.tmp 16, .tmp 18], argTypes := #[26, 26] }, .build 28 #[(0, .tmp 7), (1, .tmp 11), (2, .tmp 15), (3, .tmp 19)], .alloc 28, .store 28 (.tmp 3) (.tmp 20)])
  (hn : st0.n = 55) (h6 : bn st0.l st0.r 6 = gu p.text) (h10 : bn st0.l st0.r 10 = lst p.firsts) (h14 : bn st0.l st0.r 14 = lst p.seconds) (h18 : bn st0.l st0.r 18 = lst p.pages)
  (hK : ∀ st a b c d va vb vc, TwS p 66 70 st0.G st0.nx 55 st0.df st0.l (bn st0.l st0.r) true true true true true true true true true true st a b c d va vb vc → K st) :
  lj Tryd.prog ol K late 10 (rl [2, 2, 2, 2, 2, 2, 2, 4]) st0 := by
 obtain ⟨g1, g2, g3, g4, g5⟩ := uej hg
 have hop : ∀ {i : Nat} {o : Oper}, ol[i]? = some o → ∀ {q : Op}, (ol.map (·.op))[i]? = some q → o.op = q := fun {i o} h {q} k => by
  rw [List.getElem?_map, h] at k; exact Option.some.inj k
 have hdst : ∀ {i : Nat} {o : Oper}, ol[i]? = some o → ∀ {q : Option Tmp}, (ol.map (·.dst))[i]? = some q → o.dst = q := fun {i o} h {q} k => by
  rw [List.getElem?_map, h] at k; exact Option.some.inj k
 have hdep : ∀ {i : Nat} {o : Oper}, ol[i]? = some o → ∀ {q : List Nat}, (ol.map m5)[i]? = some q → m5 o = q := fun {i o} h {q} k => by
  rw [List.getElem?_map, h] at k; exact Option.some.inj k
 have hop2 : ∀ {i : Nat} {o : Oper}, ol[i + 2]? = some o → ∀ {q : Op}, ((ol.map (·.op)).drop 2)[i]? = some q → o.op = q := fun {i o} h {q} k => by
  rw [List.getElem?_drop, Nat.add_comm] at k
  exact hop h k
 refine ua4 (TwI p st0.G st0.nx st0.df st0.l (bn st0.l st0.r)) hf ?_ ?_ ?_ 10 _ st0 ?_ rfl
 ·rintro l st ⟨b2, b3, b6, b7, b10, b11, b14, b15, b16, b17, a, b, c, d, va, vb, vc, rfl, h⟩
  rw [hlen]; rfl
 ·rintro l st i o ⟨b2, b3, b6, b7, b10, b11, b14, b15, b16, b17, a, b, c, d, va, vb, vc, rfl, h⟩ hi hoff hdeps
  have hlt := (List.getElem?_eq_some_iff.1 hi).1
  have hgo := hgd o (List.mem_of_getElem? hi)
  rw [hlen] at hlt
  refine ⟨o, hi, .inl ?_⟩
  have hcase : i = 0 ∨ i = 1 ∨ i = 2 ∨ i = 3 ∨ i = 4 ∨ i = 5 ∨ i = 6 ∨ i = 7 ∨ i = 8 ∨ i = 9 ∨ i = 10 ∨ i = 11 ∨ i = 12 ∨ i = 13 ∨ i = 14 ∨ i = 15 ∨ i = 16 ∨ i = 17 := by omega
  rcases hcase with rfl | rfl | rfl | rfl | rfl | rfl | rfl | rfl | rfl | rfl | rfl | rfl | rfl | rfl | rfl | rfl | rfl | rfl
  ·cases hoff
  ·cases hoff
  ·-- the text
   have e1 := hop2 (i := 0) hi (by rw [ho]; rfl)
   have e2 := hdst hi (by rw [hq]; rfl)
   obtain rfl : b2 = false := Option.some.inj hoff
   refine ⟨n7 (by rw [e1]; rfl) hgo, ay (caps := []) (args := [.tmp 6]) e1 rfl (congrArg (fun c => [c]) (ma h.n rfl h.x6)) (uo4 p.text g1) ?_⟩
   rw [e2]
   exact ⟨true, b3, b6, b7, b10, b11, b14, b15, b16, b17, a, b, c, d, va, vb, vc, rfl, h.step2⟩
  ·have e1 := hop2 (i := 1) hi (by rw [ho]; rfl)
   have e2 := hdst hi (by rw [hq]; rfl)
   obtain rfl : b3 = false := Option.some.inj hoff
   refine ⟨n7 (by rw [e1]; rfl) hgo, vf e1 (by decide) ?_⟩
   rw [e2]
   exact ⟨b2, true, b6, b7, b10, b11, b14, b15, b16, b17, st.nx, b, c, d, va, vb, vc, rfl, h.step3 (nz h.e6 rfl) (nz (fun e => h.e6 (h.q6 e)) rfl)⟩
  ·cases hoff
  ·cases hoff
  ·have e1 := hop2 (i := 4) hi (by rw [ho]; rfl)
   have e2 := hdst hi (by rw [hq]; rfl)
   have e3 := hdep hi (by rw [hd]; rfl)
   obtain rfl : b6 = false := Option.some.inj hoff
   obtain rfl : b3 = true := Option.some.inj (hdeps 3 (by rw [e3]; simp))
   refine ⟨n7 (by rw [e1]; rfl) hgo, o9 (xs := ([] : List bl)) p.firsts e1 (ma h.n rfl (h.f3 rfl)) (h.g3 rfl rfl) rfl rfl (ma h.n rfl h.x10) rfl (by simp only [List.length_nil]; omega) (by simp only [List.length_nil]; omega) (fun v => ?_)⟩
   rw [e2]
   exact ⟨b2, true, true, b7, b10, b11, b14, b15, b16, b17, a, b, c, d, v, vb, vc, rfl, h.step6 (nz h.q6 rfl) v⟩
  ·have e1 := hop2 (i := 5) hi (by rw [ho]; rfl)
   have e2 := hdst hi (by rw [hq]; rfl)
   obtain rfl : b7 = false := Option.some.inj hoff
   refine ⟨n7 (by rw [e1]; rfl) hgo, vf e1 (by decide) ?_⟩
   rw [e2]
   exact ⟨b2, b3, b6, true, b10, b11, b14, b15, b16, b17, a, st.nx, c, d, va, vb, vc, rfl, h.step7 (nz h.e10 rfl) (nz (fun e => h.e10 (h.q10 e)) rfl)⟩
  ·cases hoff
  ·cases hoff
  ·have e1 := hop2 (i := 8) hi (by rw [ho]; rfl)
   have e2 := hdst hi (by rw [hq]; rfl)
   have e3 := hdep hi (by rw [hd]; rfl)
   obtain rfl : b10 = false := Option.some.inj hoff
   obtain rfl : b7 = true := Option.some.inj (hdeps 7 (by rw [e3]; simp))
   refine ⟨n7 (by rw [e1]; rfl) hgo, o9 (xs := ([] : List bl)) p.seconds e1 (ma h.n rfl (h.f7 rfl)) (h.g7 rfl rfl) rfl rfl (ma h.n rfl h.x14) rfl (by simp only [List.length_nil]; omega) (by simp only [List.length_nil]; omega) (fun v => ?_)⟩
   rw [e2]
   exact ⟨b2, b3, b6, true, true, b11, b14, b15, b16, b17, a, b, c, d, va, v, vc, rfl, h.step10 (nz h.q10 rfl) v⟩
  ·have e1 := hop2 (i := 9) hi (by rw [ho]; rfl)
   have e2 := hdst hi (by rw [hq]; rfl)
   obtain rfl : b11 = false := Option.some.inj hoff
   refine ⟨n7 (by rw [e1]; rfl) hgo, vf e1 (by decide) ?_⟩
   rw [e2]
   exact ⟨b2, b3, b6, b7, b10, true, b14, b15, b16, b17, a, b, st.nx, d, va, vb, vc, rfl, h.step11 (nz h.e14 rfl) (nz (fun e => h.e14 (h.q14 e)) rfl)⟩
  ·cases hoff
  ·cases hoff
  ·have e1 := hop2 (i := 12) hi (by rw [ho]; rfl)
   have e2 := hdst hi (by rw [hq]; rfl)
   have e3 := hdep hi (by rw [hd]; rfl)
   obtain rfl : b14 = false := Option.some.inj hoff
   obtain rfl : b11 = true := Option.some.inj (hdeps 11 (by rw [e3]; simp))
   refine ⟨n7 (by rw [e1]; rfl) hgo, o9 (xs := ([] : List am)) p.pages e1 (ma h.n rfl (h.f11 rfl)) (h.g11 rfl rfl) rfl rfl (ma h.n rfl h.x18) rfl (by simp only [List.length_nil]; omega) (by simp only [List.length_nil]; omega) (fun v => ?_)⟩
   rw [e2]
   exact ⟨b2, b3, b6, b7, b10, true, true, b15, b16, b17, a, b, c, d, va, vb, v, rfl, h.step14 (nz h.q14 rfl) v⟩
  ·-- the whole
   have e1 := hop2 (i := 13) hi (by rw [ho]; rfl)
   have e2 := hdst hi (by rw [hq]; rfl)
   have e3 := hdep hi (by rw [hd]; rfl)
   obtain rfl : b15 = false := Option.some.inj hoff
   obtain rfl : b2 = true := Option.some.inj (hdeps 2 (by rw [e3]; simp))
   obtain rfl : b6 = true := Option.some.inj (hdeps 6 (by rw [e3]; simp))
   obtain rfl : b10 = true := Option.some.inj (hdeps 10 (by rw [e3]; simp))
   obtain rfl : b14 = true := Option.some.inj (hdeps 14 (by rw [e3]; simp))
   refine ⟨n7 (by rw [e1]; rfl) hgo, EStep.mono (SStep.e (D := fun _ => True) (NStep.s (ie (cs := [lst p.text, .own a va p.firsts.length, .own b vb p.seconds.length, .own c vc p.pages.length]) (parts := [(0, .tmp 7), (1, .tmp 11), (2, .tmp 15), (3, .tmp 19)]) e1 ?_))) fun st' hst' => ?_⟩
   ·show sj _ _ [(0, st.at 7), (1, st.at 11), (2, st.at 15), (3, st.at 19)] = _
    rw [ma h.n rfl (h.f2 rfl), ma h.n rfl (h.f6 rfl), ma h.n rfl (h.f10 rfl), ma h.n rfl (h.f14 rfl)]
    rfl
   subst hst'
   rw [e2]
   exact ⟨true, b3, true, b7, true, b11, true, true, b16, b17, a, b, c, d, va, vb, vc, rfl, h.step15⟩
  ·have e1 := hop2 (i := 14) hi (by rw [ho]; rfl)
   have e2 := hdst hi (by rw [hq]; rfl)
   obtain rfl : b16 = false := Option.some.inj hoff
   refine ⟨n7 (by rw [e1]; rfl) hgo, dd (cs := [.list [] .nil, .list [] .nil, .list [] .nil, .list [] .nil]) e1 ?_⟩
   rw [e2]
   exact ⟨b2, b3, b6, b7, b10, b11, b14, b15, true, b17, a, b, c, st.nx, va, vb, vc, rfl, h.step16 (nz h.e17 rfl)⟩
  have e1 := hop2 (i := 15) hi (by rw [ho]; rfl)
  have e2 := hdst hi (by rw [hq]; rfl)
  have e3 := hdep hi (by rw [hd]; rfl)
  obtain rfl : b17 = false := Option.some.inj hoff
  obtain rfl : b15 = true := Option.some.inj (hdeps 15 (by rw [e3]; simp))
  obtain rfl : b16 = true := Option.some.inj (hdeps 16 (by rw [e3]; simp))
  refine ⟨n7 (by rw [e1]; rfl) hgo, cw (new := [lst p.text, .own a va p.firsts.length, .own b vb p.seconds.length, .own c vc p.pages.length]) e1 e2 (ma h.n rfl (h.f16 rfl)) (h.g16 rfl rfl) (by rw [show evC st (.tmp 20) = _ from ma h.n rfl (h.f15 rfl)]; rfl) rfl rfl ?_⟩
  exact ⟨b2, b3, b6, b7, b10, b11, b14, true, true, true, a, b, c, d, va, vb, vc, rfl, h.step17⟩
 ·rintro l st ⟨b2, b3, b6, b7, b10, b11, b14, b15, b16, b17, a, b, c, d, va, vb, vc, rfl, h⟩ hall
  rw [hlen] at hall
  obtain rfl : b2 = true := Option.some.inj (hall 2 (by omega))
  obtain rfl : b3 = true := Option.some.inj (hall 3 (by omega))
  obtain rfl : b6 = true := Option.some.inj (hall 6 (by omega))
  obtain rfl : b7 = true := Option.some.inj (hall 7 (by omega))
  obtain rfl : b10 = true := Option.some.inj (hall 10 (by omega))
  obtain rfl : b11 = true := Option.some.inj (hall 11 (by omega))
  obtain rfl : b14 = true := Option.some.inj (hall 14 (by omega))
  obtain rfl : b15 = true := Option.some.inj (hall 15 (by omega))
  obtain rfl : b16 = true := Option.some.inj (hall 16 (by omega))
  obtain rfl : b17 = true := Option.some.inj (hall 17 (by omega))
  exact hK st a b c d va vb vc h
 refine ⟨false, false, false, false, false, false, false, false, false, false, 0, 0, 0, 0, 0, 0, 0, rfl, ?_⟩
 exact { n := hn, df := rfl, l := rfl, nx := rfl, s := fun _ _ => rfl, x10 := h10, x14 := h14, x18 := h18, x6 := h6, f2 := (fun e => nomatch e), f3 := (fun e => nomatch e), r3 := (fun e => nomatch e), g3 := (fun e => nomatch e), f6 := (fun e => nomatch e), g6 := (fun e => nomatch e), f7 := (fun e => nomatch e), r7 := (fun e => nomatch e), g7 := (fun e => nomatch e), f10 := (fun e => nomatch e), g10 := (fun e => nomatch e), f11 := (fun e => nomatch e), r11 := (fun e => nomatch e), g11 := (fun e => nomatch e), f14 := (fun e => nomatch e), g14 := (fun e => nomatch e), f15 := (fun e => nomatch e), f16 := (fun e => nomatch e), r16 := (fun e => nomatch e), g16 := (fun e => nomatch e), f17 := (fun e => nomatch e), ab := (fun e => nomatch e), ac := (fun e => nomatch e), ad := (fun e => nomatch e), bc := (fun e => nomatch e), bd := (fun e => nomatch e), cd := (fun e => nomatch e), G := fun _ _ _ _ _ => rfl, e6 := (fun e => nomatch e), e10 := (fun e => nomatch e), e14 := (fun e => nomatch e), e17 := (fun e => nomatch e), e18 := (fun e => nomatch e), q2 := (fun e => nomatch e), q6 := (fun e => nomatch e), q10 := (fun e => nomatch e), q14 := (fun e => nomatch e) }
theorem ucl {cs : List C} {i : Nat} {c c0 : C} (h : cs[i]? = some c0) : (putAt cs i [c])[i]? = some c := by
 show (cs.set i c)[i]? = some c
 rw [List.getElem?_set_self (List.getElem?_eq_some_iff.1 h).1]
theorem uj2 {l : List am} {k : Nat} {x : am} (h : l[k]? = some x) : (cr l)[k * 6 + 4]? = some (lst x.found) ∧ (cr l)[k * 6 + 5]? = some (lst x.well) := by
 have h1 : (cr l)[k * Enc.n am + 4]? = some (lst x.found) := o8 h rfl
 have h2 : (cr l)[k * Enc.n am + 5]? = some (lst x.well) := o8 h rfl
 exact ⟨h1, h2⟩
set_option maxHeartbeats 2000000 in
theorem zc (p : af) (hg : l7 p = false) : Pure Tryd.prog 11 [val p] (val p) := by
 refine c5 Tryd.func11 rfl (fun m => (ei _ _)) fun G nx => ?_
 simp only [Tryd.ntmps11, List.length_cons, List.length_nil, Nat.reduceAdd, Nat.reduceSub]
 refine bu fun hlt => ?_
 dsimp only at hlt
 obtain ⟨g1, g2, g3, g4, g5⟩ := uej hg
 refine yS fun _ K1 => ?_
 refine yR ?_
 try dsimp only [St.put]
 refine yB rfl rfl rfl ?_
 try dsimp only [St.put]
 refine ae rfl (dd rfl ?_)
 refine yN ?_
 dsimp only [St.put]
 refine K1 _ ?_
 refine cp 4 ?_
 refine zQ ?_
 refine uge (X := Nat × Nat × Nat × Nat × Nat × Nat × Nat) (fun y => (nx + 1 ≤ y.1 ∧ nx + 1 ≤ y.2.1 ∧ nx + 1 ≤ y.2.2.1 ∧ nx + 1 ≤ y.2.2.2.1) ∧ (y.1 < nx + 5 ∧ y.2.1 < nx + 5 ∧ y.2.2.1 < nx + 5 ∧ y.2.2.2.1 < nx + 5) ∧ (y.1 ≠ y.2.1 ∧ y.1 ≠ y.2.2.1 ∧ y.1 ≠ y.2.2.2.1 ∧ y.2.1 ≠ y.2.2.1 ∧ y.2.1 ≠ y.2.2.2.1 ∧ y.2.2.1 ≠ y.2.2.2.1)) (fun y => [(3, .box y.2.2.2.1 0 0)]) (fun y G' => (ak (ak (ak (ak (ak G nx (.box 0 [.list [] .nil, .list [] .nil, .list [] .nil, .list [] .nil])) y.1 (.arr y.2.2.2.2.1 0 66 2 p.firsts.length (cr p.firsts))) y.2.1 (.arr y.2.2.2.2.2.1 0 66 2 p.seconds.length (cr p.seconds))) y.2.2.1 (.arr y.2.2.2.2.2.2 (0) 70 6 p.pages.length (cr p.pages))) y.2.2.2.1 (.box 1 [lst p.text, .own y.1 y.2.2.2.2.1 p.firsts.length, .own y.2.1 y.2.2.2.2.2.1 p.seconds.length, .own y.2.2.1 y.2.2.2.2.2.2 p.pages.length]))) (fun _ => nx + 5) rfl ?_ ?_ ?_ ?_ ?_
 ·rintro ⟨a, b, q, d, va, vb, vq⟩ hI
  dsimp only at hI ⊢
  omega
 ·rintro ⟨a, b, q, d, va, vb, vq⟩ hI
  dsimp only at hI ⊢
  obtain ⟨⟨i1, i2, i3, i4⟩, ⟨j1, j2, j3, j4⟩, k1, k2, k3, k4, k5, k6⟩ := hI
  exact zL
 ·rintro ⟨a, b, q, d, va, vb, vq⟩ hI
  dsimp only at hI ⊢
  obtain ⟨⟨i1, i2, i3, i4⟩, ⟨j1, j2, j3, j4⟩, k1, k2, k3, k4, k5, k6⟩ := hI
  exact zH
 ·refine qi [(0, none), (1, none), (4, none), (5, none), (8, none), (9, none), (12, none), (13, none)] (fun _ => false) (fun i => [0, 4, 8, 12].contains i) 10 (rl [2, 2, 2, 2, 2, 2, 2, 4]) (by kernel_rfl) (by kernel_rfl) ?_
  refine ah rfl rfl rfl rfl (ce rfl rfl rfl) ?_
  try dsimp only [St.put]
  refine aw rfl rfl rfl rfl (c := gu p.text) (ju (cs := cells p) rfl rfl (show 1 ≤ 4 by decide)) ?_
  refine ah rfl rfl rfl rfl (ce rfl rfl rfl) ?_
  try dsimp only [St.put]
  refine aw rfl rfl rfl rfl (bq rfl rfl) ?_
  refine ah rfl rfl rfl rfl (ce rfl rfl rfl) ?_
  try dsimp only [St.put]
  refine aw rfl rfl rfl rfl (bq rfl rfl) ?_
  refine ah rfl rfl rfl rfl (ce rfl rfl rfl) ?_
  try dsimp only [St.put]
  refine aw rfl rfl rfl rfl (bq rfl rfl) ?_
  refine cn ?_
  refine uhu p hg _ rfl (by kernel_rfl) (by simp) rfl rfl rfl rfl rfl rfl rfl rfl fun st a b q d va vb vq h => ?_
  have hnx : st.nx = (nx + 1) + true.toNat + true.toNat + true.toNat + true.toNat := h.nx
  simp only [Bool.toNat_true] at hnx
  have r1 : nx + 1 ≤ a ∧ a < st.nx := h.r3 rfl
  have r2 : nx + 1 ≤ b ∧ b < st.nx := h.r7 rfl
  have r3 : nx + 1 ≤ q ∧ q < st.nx := h.r11 rfl
  have r4 : nx + 1 ≤ d ∧ d < st.nx := h.r16 rfl
  have t1 : a < nx + 5 := by omega
  have t2 : b < nx + 5 := by omega
  have t3 : q < nx + 5 := by omega
  have t4 : d < nx + 5 := by omega
  refine ⟨(a, b, q, d, va, vb, vq), ⟨⟨r1.1, r2.1, r3.1, r4.1⟩, ⟨t1, t2, t3, t4⟩, h.ab rfl rfl, h.ac rfl rfl, h.ad rfl rfl, h.bc rfl rfl, h.bd rfl rfl, h.cd rfl rfl⟩, ⟨h.n, h.df⟩, ⟨.inr (h.s 0 rfl), .inr (h.s 1 rfl), .inr (h.s 2 rfl), .inr (h.f16 rfl), trivial⟩, .inl rfl, by dsimp only; omega, ?_⟩
  refine tj (h.f17 rfl) (tj (h.g14 rfl) (tj (h.g10 rfl) (tj (h.g6 rfl) ?_)))
  intro m o hm
  have hml : m < nx + 1 := by
   by_cases e : m = nx
   ·omega
   rw [cy e] at hm
   have := hlt m o hm
   omega
  exact (h.G m (fun _ => by omega) (fun _ => by omega) (fun _ => by omega) (fun _ => by omega)).trans hm
 rintro ⟨a, b, q, d, va, vb, vq⟩ hI
 dsimp only at hI ⊢
 obtain ⟨⟨i1, i2, i3, i4⟩, ⟨j1, j2, j3, j4⟩, k1, k2, k3, k4, k5, k6⟩ := hI
 refine yS fun _ K3 => ?_
 refine yS fun _ K4 => ?_
 refine yR ?_
 refine yA rfl rfl ?_
 refine yN ?_
 dsimp only [St.put]
 refine K4 _ ?_
 refine bk ?_
 refine cp 5 ?_
 refine zQ ?_
 refine dq ((ak (ak (ak (ak (ak G nx (.box 0 [.list [] .nil, .list [] .nil, .list [] .nil, .list [] .nil])) a (.arr va 0 66 2 p.firsts.length (cr p.firsts))) b (.arr vb 0 66 2 p.seconds.length (cr p.seconds))) q (.arr vq (0) 70 6 p.pages.length (cr p.pages))) d (.box 1 [lst p.text, .own a va p.firsts.length, .own b vb p.seconds.length, .own q vq p.pages.length]))) zX ?_
 dsimp only
 refine dp (X := Nat) (fun k => k ≤ p.pages.length) (fun k => p.pages.length - k) (fun k => [(4, .v (.int .i64 (k : Int)))]) (fun k G' => (ak (ak (ak (ak (ak G nx (.box 0 [.list [] .nil, .list [] .nil, .list [] .nil, .list [] .nil])) a (.arr va 0 66 2 p.firsts.length (cr p.firsts))) b (.arr vb 0 66 2 p.seconds.length (cr p.seconds))) q (.arr vq ((2 * k)) 70 6 p.pages.length (cr p.pages))) d (.box 1 [lst p.text, .own a va p.firsts.length, .own b vb p.seconds.length, .own q vq p.pages.length]))) 0 rfl ?_ ?_ ?_ ?_ ?_ ?_
 ·exact Nat.zero_le _
 ·exact zF
 ·exact zX
 ·rintro k hI
  exact zL
 ·rintro k hI
  exact zH
 rintro k hI
 dsimp only at hI ⊢
 refine yS fun _ K5 => ?_
 refine yS fun _ K6 => ?_
 refine yR ?_
 refine yM rfl rfl ?_
 refine aa rfl (dn rfl rfl) ?_
 try dsimp only [St.put]
 refine bg rfl (e8 rfl rfl zG trivial (by first | rfl | assumption)) ?_
 refine aa rfl (udm rfl rfl) ?_
 refine aa rfl (cv rfl rfl rfl) ?_
 refine yN ?_
 dsimp only [St.put]
 refine K6 _ ?_
 refine ar rfl (fun hc => ?_) (fun hc => ?_)
 ·replace hc := of_decide_eq_true hc
  have hkl : k < p.pages.length := by omega
  obtain ⟨x, hx⟩ : ∃ x, p.pages[k]? = some x := dr hkl
  obtain ⟨hc4, hc5⟩ := uj2 hx
  have hxl := g5 x (gd hx)
  refine ax ?_
  refine K5 _ ?_
  refine yS fun _ K7 => ?_
  refine bk ?_
  refine yS fun _ K8 => ?_
  refine g8 [(0, none), (1, none), (2, none), (4, none), (5, none), (6, none), (7, none), (8, none), (9, none), (3, none), (10, none), (11, none), (12, none), (13, none)] (fun i => [13].contains i) (fun i => [3, 10, 13].contains i) (fun i => [0, 2, 4, 6, 7, 8, 11, 12].contains i) [d, q] (by kernel_rfl) (by kernel_rfl) ?_
  refine ah rfl rfl rfl rfl (dn rfl rfl) ?_
  try dsimp only [St.put]
  refine aw rfl rfl rfl rfl (e8 rfl rfl zG (by simp) (by first | rfl | assumption)) ?_
  refine xM rfl rfl rfl rfl rfl ?_
  refine ah rfl rfl rfl rfl (dn rfl rfl) ?_
  try dsimp only [St.put]
  refine aw rfl rfl rfl rfl (e8 rfl rfl zG (by simp) (by first | rfl | assumption)) ?_
  refine xM rfl rfl rfl rfl rfl ?_
  try dsimp only [St.put]
  refine ah rfl rfl rfl rfl (pv rfl rfl zG rfl rfl hkl) ?_
  refine ah rfl rfl rfl rfl (dn rfl rfl) ?_
  try dsimp only [St.put]
  refine aw rfl rfl rfl rfl (ka rfl rfl zG (by simp) hc4) ?_
  refine jf ?_
  try dsimp only [St.put]
  refine i9 rfl rfl rfl (vf rfl (by decide) ⟨zD, ?_⟩)
  try dsimp only [St.put]
  refine i9 rfl rfl rfl (o9 (xs := ([] : List PlaceD)) x.found rfl rfl zG rfl rfl rfl rfl zA zA (fun w1 => ⟨zD, ?_⟩))
  try dsimp only [St.put]
  refine ed rfl rfl rfl rfl (pv rfl rfl zG rfl rfl hkl) ?_
  refine ed rfl rfl rfl rfl (dn rfl rfl) ?_
  try dsimp only [St.put]
  refine g9 rfl rfl rfl rfl (uao (sz := 1) rfl rfl rfl zG rfl rfl (by rw [u6]; show k * 6 + 4 + 1 ≤ p.pages.length * 6; omega) (by decide) ?_)
  refine je ?_
  dsimp only [St.put]
  refine K8 _ ?_
  refine ugf q (k * 6 + 4) x.found zG (ucl hc4) zG (by omega) rfl rfl rfl ?_
  rw [uck hc4]
  refine g8 [(0, none), (1, none), (2, none), (4, none), (5, none), (6, none), (7, none), (8, none), (9, none), (3, none), (10, none), (11, none), (12, none), (13, none)] (fun i => [13].contains i) (fun i => [3, 10, 13].contains i) (fun i => [0, 2, 4, 6, 7, 8, 11, 12].contains i) [d, q] (by kernel_rfl) (by kernel_rfl) ?_
  refine ah rfl rfl rfl rfl (dn rfl rfl) ?_
  try dsimp only [St.put]
  refine aw rfl rfl rfl rfl (e8 rfl rfl zG (by simp) (by first | rfl | assumption)) ?_
  refine xM rfl rfl rfl rfl rfl ?_
  refine ah rfl rfl rfl rfl (dn rfl rfl) ?_
  try dsimp only [St.put]
  refine aw rfl rfl rfl rfl (e8 rfl rfl zG (by simp) (by first | rfl | assumption)) ?_
  refine xM rfl rfl rfl rfl rfl ?_
  try dsimp only [St.put]
  refine ah rfl rfl rfl rfl (pv rfl rfl zG rfl rfl hkl) ?_
  refine ah rfl rfl rfl rfl (dn rfl rfl) ?_
  try dsimp only [St.put]
  refine aw rfl rfl rfl rfl (ka rfl rfl zG (by simp) hc5) ?_
  refine jf ?_
  try dsimp only [St.put]
  refine i9 rfl rfl rfl (vf rfl (by decide) ⟨zD, ?_⟩)
  try dsimp only [St.put]
  refine i9 rfl rfl rfl (o9 (xs := ([] : List PlaceD)) x.well rfl rfl zG rfl rfl rfl rfl zA zA (fun w2 => ⟨zD, ?_⟩))
  try dsimp only [St.put]
  refine ed rfl rfl rfl rfl (pv rfl rfl zG rfl rfl hkl) ?_
  refine ed rfl rfl rfl rfl (dn rfl rfl) ?_
  try dsimp only [St.put]
  refine g9 rfl rfl rfl rfl (uao (sz := 1) rfl rfl rfl zG rfl rfl (by rw [u6]; show k * 6 + 5 + 1 ≤ p.pages.length * 6; omega) (by decide) ?_)
  refine je ?_
  dsimp only [St.put]
  refine K7 _ ?_
  refine ugf q (k * 6 + 5) x.well zG (ucl hc5) zG (by omega) rfl rfl rfl ?_
  rw [uck hc5]
  refine yR ?_
  refine yM rfl rfl ?_
  refine aa rfl (cg rfl rfl rfl (by omega)) ?_
  refine yA rfl rfl ?_
  refine yN ?_
  dsimp only [St.put]
  exact ⟨k + 1, by omega, by omega, ⟨⟨rfl, rfl⟩, zF, zB, zN, zX⟩⟩
 replace hc := of_decide_eq_false hc
 refine sq d 1 p.firsts zG rfl zG (by omega) rfl rfl rfl ?_
 refine sq d 2 p.seconds zG rfl zG (by omega) rfl rfl rfl ?_
 refine sq d 3 p.pages zG rfl zG (by omega) rfl rfl rfl ?_
 dsimp only [List.set_cons_zero, List.set_cons_succ]
 refine dj ?_
 refine K3 _ ?_
 refine yS fun _ K9 => ?_
 refine yR ?_
 try dsimp only [St.put]
 refine bg rfl (io rfl rfl zG trivial (by rfl)) ?_
 try dsimp only [St.put]
 refine ae rfl (cw rfl rfl rfl zG rfl rfl (by rfl) ?_)
 refine yN ?_
 dsimp only [St.put]
 refine K9 _ ?_
 refine aq ?_
 refine qd rfl (jv rfl zG (by rfl) zC rfl) zN zS ?_
 exact zW
end Go.Proofs.YtbbdginipiljdaaDoor
namespace Go.AB
open Go Go.RowKit
open Go.AB.Enc (cells)
open Go.PB (av ai PlaceD az bf ba bl am af co bj)
theorem ucv {p : af} (h : ez p) : ∀ (j : Nat) (x : am), p.pages[j]? = some x → 0 ≤ x.fr ∧ 0 ≤ x.to
 | 0, x, hx => by
  have := pageB_true.1 (h.page 0 x hx)
  have h1 := this.fr
  have h2 := this.to
  simp only [gt] at h1
  omega
 | j + 1, x, hx => by
  have := pageB_true.1 (h.page (j + 1) x hx)
  have h1 := this.fr
  have h2 := this.to
  have hlt := (List.getElem?_eq_some_iff.1 hx).1
  have hy : p.pages[j]? = some p.pages[j] := List.getElem?_eq_getElem (by omega)
  have := ucv h j _ hy
  simp only [gt, hy] at h1
  omega
theorem ucu {p : af} (h : ez p) {j : Nat} {x y : am} (hx : p.pages[j]? = some x) (hy : p.pages[j + 1]? = some y) : x.to < y.fr := by
 have := (pageB_true.1 (h.page (j + 1) y hy)).fr
 simpa only [gt, hx] using this
theorem uj0 {p : af} (h : ez p) : p.pages.Pairwise fun x y => x.to < y.fr := by
 rw [List.pairwise_iff_getElem]
 intro i j hi hj hij
 have key : ∀ d (hd : i + 1 + d < p.pages.length), p.pages[i].to < p.pages[i + 1 + d].fr := by
  intro d
  induction d with
  | zero => intro hd; exact ucu h (List.getElem?_eq_getElem hi) (List.getElem?_eq_getElem hd)
  | succ d ih =>
   intro hd
   have h1 := ih (by omega)
   have h2 := ucu h (List.getElem?_eq_getElem (show i + 1 + d < p.pages.length by omega)) (List.getElem?_eq_getElem hd)
   have h3 := (pageB_true.1 (h.page (i + 1 + d) _ (List.getElem?_eq_getElem (show i + 1 + d < p.pages.length by omega)))).to
   have h4 : p.pages[i + 1 + (d + 1)].fr = p.pages[i + 1 + d + 1].fr := rfl
   omega
 have := key (j - (i + 1)) (by omega)
 simpa [show i + 1 + (j - (i + 1)) = j by omega] using this
/-- a page by itself -/
theorem uj3 {p : af} (h : ez p) {x : am} (hx : x ∈ p.pages) : ng p (-1) x := by
 obtain ⟨j, hj⟩ := List.getElem?_of_mem hx
 have k := pageB_true.1 (h.page j x hj)
 have := ucv h j x hj
 exact ⟨by omega, k.to, k.lt, k.fst, k.snd, k.found, k.well⟩
theorem uc3 {p : af} (h : cm p = 0) (f : am → Bool) : cm (dm p (p.pages.filter f)) = 0 := by
 obtain ⟨h1, h2⟩ := lg h
 have hpw := (uj0 h1).filter f
 have hlen := List.length_filter_le f p.pages
 have h3 : fw (dm p (p.pages.filter f)) = true := by
  unfold fw at h2 ⊢
  simp only [Bool.and_eq_true, decide_eq_true_eq] at h2 ⊢
  obtain ⟨⟨a1, a2⟩, _⟩ := h2
  refine ⟨⟨a1, by show (p.pages.filter f).length ≤ 8; omega⟩, ?_⟩
  show ((List.range (p.pages.filter f).length).all (qs (dm p (p.pages.filter f)))) = true
  rw [List.all_eq_true]
  intro i hi
  rw [List.mem_range] at hi
  unfold qs
  show (match (p.pages.filter f)[i]? with | none => true | some x => lx (dm p (p.pages.filter f)) (gt (p.pages.filter f) i) x) = true
  have hx : (p.pages.filter f)[i]? = some (p.pages.filter f)[i] := List.getElem?_eq_getElem hi
  rw [hx]
  have hm := (List.mem_filter.1 (List.mem_of_getElem? hx)).1
  have k := uj3 h1 hm
  refine pageB_true.2 ⟨?_, k.to, k.lt, k.fst, k.snd, k.found, k.well⟩
  cases i with
  | zero => exact k.fr
  | succ i =>
   have hy : (p.pages.filter f)[i]? = some (p.pages.filter f)[i] := List.getElem?_eq_getElem (by omega)
   show (match (p.pages.filter f)[i]? with | some x => x.to | none => -1) < _
   rw [hy]
   exact List.pairwise_iff_getElem.1 hpw i (i + 1) (by omega) hi (by omega)
 unfold cm
 rw [show (dm p (p.pages.filter f)).text = p.text from rfl, h1.text, h3]; rfl
/-- on a page of the ones remains what remained -/
theorem ugl {p : af} (h : ez p) {B : Nat → Bool} (hB : pg p B) {c : Bool} (ho : ez (dm p (p.pages.filter fun x => bw p B x == c))) {j i : Nat} {x : am} (hx : p.pages[j]? = some x) (hi : (p.pages.filter fun x => bw p B x == c)[i]? = some x) : (bi (dm p (p.pages.filter fun x => bw p B x == c))).alone (bv (dm p (p.pages.filter fun x => bw p B x == c))) (cj (dm p (p.pages.filter fun x => bw p B x == c))) i = (bi p).alone (bv p) (cj p) j := by
 have hx' : (dm p (p.pages.filter fun x => bw p B x == c)).pages[i]? = some x := hi
 have hc : bw p B x = c := by
  have := (List.mem_filter.1 (List.mem_of_getElem? hi)).2
  simpa using this
 have hcap : cj (dm p (p.pages.filter fun x => bw p B x == c)) i = cj p j := by
  unfold cj
  rw [wr hx', wr hx]; rfl
 have hby : ∀ r, (bi (dm p (p.pages.filter fun x => bw p B x == c))).by i r = (bi p).by j r := fun r => by
  rw [uav ho hx', uav h hx]; rfl
 have hR : ∀ r, (bi p).by j r = true → bv (dm p (p.pages.filter fun x => bw p B x == c)) r = bv p r := fun r hr => by
  rw [um hB]
  have hm : ((r : Nat) : Int) ∈ da p x := by
   rw [uav h hx] at hr
   by_cases q : r < p.firsts.length
   ·rw [decide_eq_true q, cond_true, decide_eq_true_eq] at hr
    have := y9 (p := p) hr
    exact this
   ·rw [decide_eq_false q, cond_false, decide_eq_true_eq] at hr
    have := y9 (p := p) hr
    have e : pm p true (r - p.firsts.length) = r := by show p.firsts.length + (r - p.firsts.length) = r; omega
    rwa [e] at this
  have := hB x (List.mem_of_getElem? hx) _ hm
  rw [Int.toNat_natCast, hc] at this
  rw [this]
  cases c <;> rfl
 refine Int.le_antisymm (Net.le_alone.2 ?_) (Net.le_alone.2 ?_)
 ·have k := Net.le_alone.1 (Int.le_refl ((bi (dm p (p.pages.filter fun x => bw p B x == c))).alone (bv (dm p (p.pages.filter fun x => bw p B x == c))) (cj (dm p (p.pages.filter fun x => bw p B x == c))) i))
  rw [hcap] at k
  exact ⟨k.1, fun r hr => by rw [← hR r hr]; exact k.2 r (by rw [hby]; exact hr)⟩
 ·have k := Net.le_alone.1 (Int.le_refl ((bi p).alone (bv p) (cj p) j))
  refine ⟨by rw [hcap]; exact k.1, fun r hr => ?_⟩
  rw [hby] at hr
  rw [hR r hr]
  exact k.2 r hr
/-- without a truth, neither on the ones nor on the others -/
theorem uhv {p : af} {B : Nat → Bool} (hB : pg p B) : ga p = (ga (dm p (p.pages.filter fun x => bw p B x == true)) && ga (dm p (p.pages.filter fun x => bw p B x == false))) := by
 unfold ga
 have e : ∀ c, cc (dm p (p.pages.filter fun x => bw p B x == c)) = cc p := fun _ => rfl
 rw [e, e, Bool.eq_iff_iff, Bool.and_eq_true, List.all_eq_true, List.all_eq_true, List.all_eq_true]
 simp only [List.mem_range, decide_eq_true_eq, um hB]
 constructor
 ·intro k
  refine ⟨fun i hi => ?_, fun i hi => ?_⟩
  ·have := k i hi
   cases B i <;> simp [this]
  ·have := k i hi
   cases B i <;> simp [this]
 ·rintro ⟨k1, k2⟩ i hi
  have h1 := k1 i hi
  have h2 := k2 i hi
  cases hb : B i
  ·rw [hb] at h2; simpa using h2
  ·rw [hb] at h1; simpa using h1
end Go.AB
namespace Go.AB
open Go Go.RowKit
open Go.AB.Enc (cells)
open Go.PB (av ai PlaceD az bf ba bl am af co bj)
/-- where what is taken out of a list stands -/
theorem uex {α : Type} {L : List α} {f : α → Bool} {k : Nat} {q : α} (h : L[k]? = some q) (hf : f q = true) : (L.filter f)[((L.take k).filter f).length]? = some q := by
 have hlt := (List.getElem?_eq_some_iff.1 h).1
 have e : L = L.take k ++ q :: L.drop (k + 1) := by
  have h2 := (List.getElem?_eq_some_iff.1 h).2
  rw [← h2, ← List.drop_eq_getElem_cons hlt, List.take_append_drop]
 have e2 : L.filter f = (L.take k).filter f ++ q :: (L.drop (k + 1)).filter f := by
  rw [← List.filter_cons_of_pos hf, ← List.filter_append, ← e]
 rw [e2, List.getElem?_append_right (Nat.le_refl _), Nat.sub_self]
 rfl
/-! ### Places by their numbers -/
end Go.AB
namespace Go.AB
open Go Go.RowKit
open Go.AB.Enc (cells)
open Go.PB (av ai PlaceD az bf ba bl am af co bj dc dg)
/-- whether a page has the first reader, the second one, of the bits of a number -/
def aX (A : Nat) (x : am) : Bool := decide (0 ≤ x.fst) && A.testBit x.fst.toNat
def bX (A : Nat) (x : am) : Bool := decide (0 ≤ x.snd) && A.testBit (4 + x.snd.toNat)
def lv (A : Nat) (x : am) : Bool := decide (0 ≤ x.fst) && decide (0 ≤ x.snd) && !(aX A x == bX A x)
def f9 (p : af) (A i : Nat) : Bool := bif decide (i < p.firsts.length) then A.testBit i else A.testBit (4 + (i - p.firsts.length))
theorem uaf {p : af} (A : Nat) {x : am} (h : -1 ≤ x.fst ∧ x.fst < (p.firsts.length : Int)) : bw p (f9 p A) x = (aX A x || bX A x) := by
 have e1 : (da p x).any (fun k => f9 p A k.toNat) = ((decide (0 ≤ x.fst) && f9 p A x.fst.toNat) || (decide (0 ≤ x.snd) && f9 p A (p.firsts.length + x.snd.toNat))) := by
  unfold da
  rw [List.any_append]
  congr 1
  ·cases decide (0 ≤ x.fst) <;> simp
  by_cases q : 0 ≤ x.snd
  ·simp [q, show ((p.firsts.length : Int) + x.snd).toNat = p.firsts.length + x.snd.toNat by omega]
  simp [q]
 unfold bw
 rw [e1]
 unfold aX bX f9
 rw [decide_eq_false (show ¬ p.firsts.length + x.snd.toNat < p.firsts.length by omega), cond_false, Nat.add_sub_cancel_left]
 congr 1
 by_cases q : 0 ≤ x.fst
 ·rw [decide_eq_true (show x.fst.toNat < p.firsts.length by omega)]; rfl
 rw [decide_eq_false q]; rfl
theorem ujz {p : af} (A : Nat) (h : ∀ x ∈ p.pages, (-1 ≤ x.fst ∧ x.fst < (p.firsts.length : Int)) ∧ lv A x = false) : pg p (f9 p A) := by
 intro x hx k hk
 obtain ⟨h1, h2⟩ := h x hx
 rw [uaf A h1]
 unfold da at hk
 rw [List.mem_append] at hk
 unfold lv at h2
 rcases hk with hk | hk
 ·by_cases q : 0 ≤ x.fst
  ·rw [decide_eq_true q, cond_true, List.mem_singleton] at hk
   subst hk
   have e1 : f9 p A x.fst.toNat = aX A x := by unfold f9 aX; rw [decide_eq_true (show x.fst.toNat < p.firsts.length by omega), decide_eq_true q]; rfl
   rw [e1]
   rw [decide_eq_true q, Bool.true_and] at h2
   by_cases r : 0 ≤ x.snd
   ·rw [decide_eq_true r, Bool.true_and] at h2
    cases ha : aX A x <;> cases hb : bX A x <;> simp_all
   have : bX A x = false := by unfold bX; rw [decide_eq_false r]; rfl
   rw [this, Bool.or_false]
  rw [decide_eq_false q] at hk; simp at hk
 by_cases r : 0 ≤ x.snd
 ·rw [decide_eq_true r, cond_true, List.mem_singleton] at hk
  subst hk
  have e1 : f9 p A ((p.firsts.length : Int) + x.snd).toNat = bX A x := by
   unfold f9 bX
   rw [show ((p.firsts.length : Int) + x.snd).toNat = p.firsts.length + x.snd.toNat by omega, decide_eq_false (by omega), Nat.add_sub_cancel_left, decide_eq_true r]; rfl
  rw [e1]
  by_cases q : 0 ≤ x.fst
  ·rw [decide_eq_true q, decide_eq_true r, Bool.true_and, Bool.true_and] at h2
   cases ha : aX A x <;> cases hb : bX A x <;> simp_all
  have : aX A x = false := by unfold aX; rw [decide_eq_false q]; rfl
  rw [this, Bool.false_or]
 rw [decide_eq_false r] at hk; simp at hk
/-- the first pages of the ones, of the others -/
def eu (p : af) (A : Nat) (c : Bool) (k : Nat) : List am := (p.pages.take k).filter fun x => bw p (f9 p A) x == c
theorem nv (p : af) (A : Nat) (c : Bool) : eu p A c p.pages.length = p.pages.filter fun x => bw p (f9 p A) x == c := by unfold eu; rw [List.take_length]
theorem pr {p : af} {A : Nat} {c : Bool} {k : Nat} {x : am} (h : p.pages[k]? = some x) (hc : bw p (f9 p A) x = c) : eu p A c (k + 1) = eu p A c k ++ [x] := by
 unfold eu
 rw [List.take_add_one, h, Option.toList_some, List.filter_append, List.filter_cons_of_pos (by simp [hc])]; rfl
theorem pq {p : af} {A : Nat} {c : Bool} {k : Nat} {x : am} (h : p.pages[k]? = some x) (hc : bw p (f9 p A) x = !c) : eu p A c (k + 1) = eu p A c k := by
 unfold eu
 rw [List.take_add_one, h, Option.toList_some, List.filter_append, List.filter_cons_of_neg (by rw [hc]; cases c <;> simp), List.filter_nil, List.append_nil]
theorem wo (p : af) (A : Nat) (c : Bool) (k : Nat) : (eu p A c k).length ≤ p.pages.length := by
 have h1 := List.length_filter_le (fun x => bw p (f9 p A) x == c) (p.pages.take k)
 have h2 : (p.pages.take k).length ≤ p.pages.length := List.length_take_le' _ _
 unfold eu
 omega
end Go.AB
namespace Go.Proofs.YtbbdginipiljdaaDoor
set_option maxRecDepth 10000
open Go Go.RowKit Go.AB
open Go.AB.Enc (cells)
open Go.PB (av ai PlaceD az bf ba bl am af co bj dc dg)
theorem uee (x : am) (A : Nat) (hA : A ≤ 255) (h1 : x.fst ≤ 3) (h2 : x.snd ≤ 3) : Pure Tryd.prog 33 [val x, .elem [.v (.int .u8 (A : Int))]] (.tup [.v (.bool (aX A x || bX A x)), .v (.bool (lv A x))]) := by
 refine c5 Tryd.func33 rfl (fun m => (.tup (ci .v (ci .v dh)))) fun G nx => ?_
 simp only [Tryd.ntmps33, List.length_cons, List.length_nil, Nat.reduceAdd, Nat.reduceSub]
 refine bu fun hlt => ?_
 dsimp only at hlt
 obtain ⟨fr, to, fst, snd, fd, wl⟩ := x
 dsimp only at h1 h2
 refine dw fun K1 hK1 => ?_
 refine c4 ?_
 try dsimp only [St.put]
 refine ae rfl (xv rfl rfl (by simp) ?_)
 refine aa rfl (cz rfl (by constructor)) ?_
 refine aa rfl (cz rfl (by constructor)) ?_
 refine ct ?_
 dsimp only [St.put]
 refine hK1 _ ?_
 refine cp 5 ?_
 refine zQ ?_
 refine kj (X := Bool) (fun d => aX A ⟨fr, to, fst, snd, fd, wl⟩ = d) (fun d => [(5, .v (.bool d))]) (fun d G' => G') rfl ?_ (fun _ _ _ _ h => .inl h) ?_ ?_
 ·rintro d hI
  exact zL
 ·refine c4 ?_
  refine aa rfl (ce rfl rfl rfl) ?_
  try dsimp only [St.put]
  refine bg rfl (bq rfl rfl) ?_
  refine aa rfl (kb rfl rfl rfl) ?_
  refine aa rfl (bx rfl (by constructor)) ?_
  refine eg (fun hs => ?_) (fun hs => ?_)
  ·have hge : 0 ≤ fst := of_decide_eq_true hs
   obtain ⟨f, rfl⟩ : ∃ f : Nat, fst = (f : Int) := ⟨fst.toNat, by omega⟩
   have haY : aX A ⟨fr, to, (f : Int), snd, fd, wl⟩ = decide (((A / 2 ^ f % 2 : Nat) : Int) = 1) := by unfold aX; rw [uax, decide_eq_true (show (0 : Int) ≤ (f : Int) by omega), Int.toNat_natCast]; rfl
   try dsimp only [St.put]
   refine bg rfl (bq rfl rfl) ?_
   refine aa rfl (ce rfl rfl rfl) ?_
   try dsimp only [St.put]
   refine bg rfl (bq rfl rfl) ?_
   refine aa rfl ((ue (m := A) (n := f) rfl rfl rfl (by show f ≤ 8; omega) (by show (A : Int) ≤ 255; omega) (by decide))) ?_
   refine aa rfl ((uh (m := A / 2 ^ f) rfl rfl rfl (Nat.lt_of_le_of_lt (Nat.div_le_self _ _) (by show A < 2 ^ 8; omega)) (by decide))) ?_
   refine aa rfl (fp rfl rfl rfl) ?_
   refine aa rfl (bz rfl rfl (by constructor)) ?_
   refine aa rfl (cz rfl (by constructor)) ?_
   refine ct ?_
   dsimp only [St.put]
   refine ⟨_, ?_, ⟨⟨rfl, rfl⟩, zF, zB, zN, zX⟩⟩
   first
   | exact haY
   | exact haN
  have hge : ¬ 0 ≤ fst := of_decide_eq_false hs
  have haN : aX A ⟨fr, to, fst, snd, fd, wl⟩ = false := by unfold aX; rw [decide_eq_false hge]; rfl
  refine fe rfl ?_
  refine fe rfl ?_
  refine fe rfl ?_
  refine fe rfl ?_
  refine fe rfl ?_
  refine fe rfl ?_
  refine aa rfl (ck rfl rfl (by constructor)) ?_
  refine aa rfl (cz rfl (by constructor)) ?_
  refine ct ?_
  dsimp only [St.put]
  refine ⟨_, ?_, ⟨⟨rfl, rfl⟩, zF, zB, zN, zX⟩⟩
  first
  | exact haY
  | exact haN
 rintro d hA1
 dsimp only at hA1 ⊢
 refine cp 6 ?_
 refine zQ ?_
 refine kj (X := Bool) (fun e => bX A ⟨fr, to, fst, snd, fd, wl⟩ = e) (fun e => [(6, .v (.bool e))]) (fun e G' => G') rfl ?_ (fun _ _ _ _ h => .inl h) ?_ ?_
 ·rintro e hI
  exact zL
 ·refine c4 ?_
  refine aa rfl (ce rfl rfl rfl) ?_
  try dsimp only [St.put]
  refine bg rfl (bq rfl rfl) ?_
  refine aa rfl (kb rfl rfl rfl) ?_
  refine aa rfl (bx rfl (by constructor)) ?_
  refine eg (fun hs => ?_) (fun hs => ?_)
  ·have hge : 0 ≤ snd := of_decide_eq_true hs
   obtain ⟨g, rfl⟩ : ∃ g : Nat, snd = (g : Int) := ⟨snd.toNat, by omega⟩
   have hbY : bX A ⟨fr, to, fst, (g : Int), fd, wl⟩ = decide (((A / 2 ^ (4 + g) % 2 : Nat) : Int) = 1) := by unfold bX; rw [uax, decide_eq_true (show (0 : Int) ≤ (g : Int) by omega), Int.toNat_natCast]; rfl
   try dsimp only [St.put]
   refine bg rfl (bq rfl rfl) ?_
   refine aa rfl (ce rfl rfl rfl) ?_
   try dsimp only [St.put]
   refine bg rfl (bq rfl rfl) ?_
   refine aa rfl (cg rfl rfl rfl (by omega)) ?_
   refine aa rfl ((ue (m := A) (n := 4 + g) rfl rfl rfl (by show 4 + g ≤ 8; omega) (by show (A : Int) ≤ 255; omega) (by decide))) ?_
   refine aa rfl ((uh (m := A / 2 ^ (4 + g)) rfl rfl rfl (Nat.lt_of_le_of_lt (Nat.div_le_self _ _) (by show A < 2 ^ 8; omega)) (by decide))) ?_
   refine aa rfl (fp rfl rfl rfl) ?_
   refine aa rfl (bz rfl rfl (by constructor)) ?_
   refine aa rfl (cz rfl (by constructor)) ?_
   refine ct ?_
   dsimp only [St.put]
   refine ⟨_, ?_, ⟨⟨rfl, rfl⟩, zF, zB, zN, zX⟩⟩
   first
   | exact hbY
   | exact hbN
  have hge : ¬ 0 ≤ snd := of_decide_eq_false hs
  have hbN : bX A ⟨fr, to, fst, snd, fd, wl⟩ = false := by unfold bX; rw [decide_eq_false hge]; rfl
  refine fe rfl ?_
  refine fe rfl ?_
  refine fe rfl ?_
  refine fe rfl ?_
  refine fe rfl ?_
  refine fe rfl ?_
  refine fe rfl ?_
  refine aa rfl (ck rfl rfl (by constructor)) ?_
  refine aa rfl (cz rfl (by constructor)) ?_
  refine ct ?_
  dsimp only [St.put]
  refine ⟨_, ?_, ⟨⟨rfl, rfl⟩, zF, zB, zN, zX⟩⟩
  first
  | exact hbY
  | exact hbN
 rintro e hB1
 dsimp only at hB1 ⊢
 refine dw fun K4 hK4 => ?_
 refine c4 ?_
 refine aa rfl (bx rfl (by constructor)) ?_
 refine aa rfl (bx rfl (by constructor)) ?_
 refine eg (fun hs => ?_) (fun hs => ?_)
 ·have hd := hs
  refine fe rfl ?_
  refine aa rfl (bz rfl rfl (by constructor)) ?_
  refine aa rfl (ce rfl rfl rfl) ?_
  try dsimp only [St.put]
  refine bg rfl (bq rfl rfl) ?_
  refine aa rfl (kb rfl rfl rfl) ?_
  refine aa rfl (bx rfl (by constructor)) ?_
  refine eg (fun hs => ?_) (fun hs => ?_)
  ·have hp1 : 0 ≤ fst := of_decide_eq_true hs
   refine aa rfl (ce rfl rfl rfl) ?_
   try dsimp only [St.put]
   refine bg rfl (bq rfl rfl) ?_
   refine aa rfl (kb rfl rfl rfl) ?_
   refine aa rfl (bz rfl rfl (by constructor)) ?_
   refine aa rfl (bx rfl (by constructor)) ?_
   refine eg (fun hs => ?_) (fun hs => ?_)
   ·have hp2 : 0 ≤ snd := of_decide_eq_true hs
    refine aa rfl (bx rfl (by constructor)) ?_
    refine aa rfl (bx rfl (by constructor)) ?_
    refine aa rfl ((udp rfl rfl rfl (by kernel_rfl))) ?_
    refine aa rfl (bz rfl rfl (by constructor)) ?_
    refine aa rfl (cz rfl (by constructor)) ?_
    refine aa rfl (cz rfl (by constructor)) ?_
    refine ct ?_
    dsimp only [St.put]
    refine hK4 _ ?_
    refine aq ?_
    refine i6 rfl (by constructor) (by constructor) zN zS ?_ ?_
    ·exact vb (by simp [hA1, hB1, hd])
    exact vb (by unfold lv; simp_all <;> (intros; omega))
   have hp2 : ¬ 0 ≤ snd := of_decide_eq_false hs
   refine fe rfl ?_
   refine fe rfl ?_
   refine fe rfl ?_
   refine aa rfl (ck rfl rfl (by constructor)) ?_
   refine aa rfl (cz rfl (by constructor)) ?_
   refine aa rfl (cz rfl (by constructor)) ?_
   refine ct ?_
   dsimp only [St.put]
   refine hK4 _ ?_
   refine aq ?_
   refine i6 rfl (by constructor) (by constructor) zN zS ?_ ?_
   ·exact vb (by simp [hA1, hB1, hd])
   exact vb (by unfold lv; simp_all <;> (intros; omega))
  have hp1 : ¬ 0 ≤ fst := of_decide_eq_false hs
  refine fe rfl ?_
  refine fe rfl ?_
  refine fe rfl ?_
  refine aa rfl (ck rfl rfl (by constructor)) ?_
  refine aa rfl (bx rfl (by constructor)) ?_
  refine fe rfl ?_
  refine fe rfl ?_
  refine fe rfl ?_
  refine aa rfl (ck rfl rfl (by constructor)) ?_
  refine aa rfl (cz rfl (by constructor)) ?_
  refine aa rfl (cz rfl (by constructor)) ?_
  refine ct ?_
  dsimp only [St.put]
  refine hK4 _ ?_
  refine aq ?_
  refine i6 rfl (by constructor) (by constructor) zN zS ?_ ?_
  ·exact vb (by simp [hA1, hB1, hd])
  exact vb (by unfold lv; simp_all <;> (intros; omega))
 have hd := hs
 refine aa rfl (bx rfl (by constructor)) ?_
 refine aa rfl (ck rfl rfl (by constructor)) ?_
 refine aa rfl (ce rfl rfl rfl) ?_
 try dsimp only [St.put]
 refine bg rfl (bq rfl rfl) ?_
 refine aa rfl (kb rfl rfl rfl) ?_
 refine aa rfl (bx rfl (by constructor)) ?_
 refine eg (fun hs => ?_) (fun hs => ?_)
 ·have hp1 : 0 ≤ fst := of_decide_eq_true hs
  refine aa rfl (ce rfl rfl rfl) ?_
  try dsimp only [St.put]
  refine bg rfl (bq rfl rfl) ?_
  refine aa rfl (kb rfl rfl rfl) ?_
  refine aa rfl (bz rfl rfl (by constructor)) ?_
  refine aa rfl (bx rfl (by constructor)) ?_
  refine eg (fun hs => ?_) (fun hs => ?_)
  ·have hp2 : 0 ≤ snd := of_decide_eq_true hs
   refine aa rfl (bx rfl (by constructor)) ?_
   refine aa rfl (bx rfl (by constructor)) ?_
   refine aa rfl ((udp rfl rfl rfl (by kernel_rfl))) ?_
   refine aa rfl (bz rfl rfl (by constructor)) ?_
   refine aa rfl (cz rfl (by constructor)) ?_
   refine aa rfl (cz rfl (by constructor)) ?_
   refine ct ?_
   dsimp only [St.put]
   refine hK4 _ ?_
   refine aq ?_
   refine i6 rfl (by constructor) (by constructor) zN zS ?_ ?_
   ·exact vb (by simp [hA1, hB1, hd])
   exact vb (by unfold lv; simp_all <;> (intros; omega))
  have hp2 : ¬ 0 ≤ snd := of_decide_eq_false hs
  refine fe rfl ?_
  refine fe rfl ?_
  refine fe rfl ?_
  refine aa rfl (ck rfl rfl (by constructor)) ?_
  refine aa rfl (cz rfl (by constructor)) ?_
  refine aa rfl (cz rfl (by constructor)) ?_
  refine ct ?_
  dsimp only [St.put]
  refine hK4 _ ?_
  refine aq ?_
  refine i6 rfl (by constructor) (by constructor) zN zS ?_ ?_
  ·exact vb (by simp [hA1, hB1, hd])
  exact vb (by unfold lv; simp_all <;> (intros; omega))
 have hp1 : ¬ 0 ≤ fst := of_decide_eq_false hs
 refine fe rfl ?_
 refine fe rfl ?_
 refine fe rfl ?_
 refine aa rfl (ck rfl rfl (by constructor)) ?_
 refine aa rfl (bx rfl (by constructor)) ?_
 refine fe rfl ?_
 refine fe rfl ?_
 refine fe rfl ?_
 refine aa rfl (ck rfl rfl (by constructor)) ?_
 refine aa rfl (cz rfl (by constructor)) ?_
 refine aa rfl (cz rfl (by constructor)) ?_
 refine ct ?_
 dsimp only [St.put]
 refine hK4 _ ?_
 refine aq ?_
 refine i6 rfl (by constructor) (by constructor) zN zS ?_ ?_
 ·exact vb (by simp [hA1, hB1, hd])
 exact vb (by unfold lv; simp_all <;> (intros; omega))
set_option maxHeartbeats 8000000 in
theorem uoc (p : af) (b0 : Int) : fu 0 fm Tryd.prog 6 [val p, .v (.int .u8 b0)] (.v (.bool true)) := fun G nx hF hnx => by
 refine iz (G) (nx) Tryd.func6 rfl (.v) zN (fun hlt => zH) ?_
 simp only [Tryd.ntmps6, List.length_cons, List.length_nil, Nat.reduceAdd, Nat.reduceSub]
 refine bu fun hlt => ?_
 dsimp only at hlt
 refine lh 1 (fun hfa => ?_)
 replace hfa := uhs hfa
 obtain ⟨n, rfl⟩ : ∃ n : Nat, b0 = (n : Int) := ⟨b0.toNat, by omega⟩
 have hn255 : n ≤ 255 := by omega
 refine dw fun K1 hK1 => ?_
 refine c4 ?_
 try dsimp only [St.put]
 refine ae rfl (xv rfl rfl (by simp) ?_)
 try dsimp only [St.put]
 refine ae rfl (xv rfl rfl (by simp) ?_)
 refine aa rfl (cz rfl (by constructor)) ?_
 refine ct ?_
 dsimp only [St.put]
 refine hK1 _ ?_
 refine dw fun K2 hK2 => ?_
 refine c4 ?_
 try dsimp only [St.put]
 refine ae rfl ((ec rfl rfl rfl ((uoq 0)) zG (by dsimp only [St.put]; omega) ?_))
 refine aa rfl (cz rfl (by constructor)) ?_
 refine ct ?_
 dsimp only [St.put]
 refine hK2 _ ?_
 refine dw fun K3 hK3 => ?_
 refine dw fun K4 hK4 => ?_
 refine c4 ?_
 try dsimp only [St.put]
 refine bg rfl (dl rfl rfl (Enc.len _)) ?_
 try dsimp only [St.put]
 refine ae rfl (ay rfl rfl rfl (uma p) ?_)
 refine aa rfl (eb rfl rfl) ?_
 refine eg (fun hs => ?_) (fun hs => ?_)
 ·skip
  refine aa rfl (bx rfl (by constructor)) ?_
  refine fe rfl ?_
  refine fe rfl ?_
  refine aa rfl (bz rfl rfl (by constructor)) ?_
  refine ct ?_
  dsimp only [St.put]
  refine hK4 _ ?_
  refine ar rfl (fun _ => ?_) (fun h => by cases h)
  refine dw fun K5 hK5 => ?_
  refine c4 ?_
  refine aa rfl (bx rfl (by constructor)) ?_
  refine aa rfl (cz rfl (by constructor)) ?_
  refine ct ?_
  dsimp only [St.put]
  refine hK5 _ ?_
  refine aq ?_
  refine bh rfl (by constructor) zN zS ?_
  rfl
 have hrd : rq p = true := by simpa using hs
 have hC := (readyP_true.1 hrd).2
 have hg := (readyP_true.1 hrd).1
 obtain ⟨hok, _⟩ := lg hC
 have hn1 := hok.nf
 have hn2 := hok.ns
 have hnp := hok.np
 have hL0 : er p (cm p) = bif ga p then 0 else 8 := by rw [hC, p7]
 refine aa rfl (bx rfl (by constructor)) ?_
 refine aa rfl (bx rfl (by constructor)) ?_
 refine aa rfl (eb rfl rfl) ?_
 refine aa rfl (ck rfl rfl (by constructor)) ?_
 refine ct ?_
 dsimp only [St.put]
 refine hK4 _ ?_
 refine ar rfl (fun h => by cases h) (fun _ => ?_)
 refine ax ?_
 refine hK3 _ ?_
 refine cp 6 ?_
 refine zQ ?_
 refine uge (X := Nat × Nat) (fun y => (nx ≤ y.1 ∧ nx ≤ y.2) ∧ (y.1 < nx + 1 + 1 ∧ y.2 < nx + 1 + 1) ∧ y.1 ≠ y.2) (fun y => [(6, .box y.1 0 0), (7, .box y.2 0 0)]) (fun y G' => ak (ak G y.1 (.box 1 (cells p))) y.2 (.box 1 (cells p))) (fun _ => nx + 1 + 1) rfl ?_ ?_ ?_ ?_ ?_
 ·rintro ⟨a, b⟩ hI
  dsimp only at hI ⊢
  omega
 ·rintro ⟨a, b⟩ hI
  dsimp only at hI ⊢
  obtain ⟨⟨i1, i2⟩, ⟨j1, j2⟩, k1⟩ := hI
  exact zL
 ·rintro ⟨a, b⟩ hI
  dsimp only at hI ⊢
  obtain ⟨⟨i1, i2⟩, ⟨j1, j2⟩, k1⟩ := hI
  exact zH
 ·refine qi [(0, none), (2, none)] (fun _ => false) (fun i => [].contains i) 6 [true, false, true, false, false, false, false, false] (by kernel_rfl) (by kernel_rfl) ?_
  try dsimp only [St.put]
  refine aw rfl rfl rfl rfl (dl rfl rfl (Enc.len _)) ?_
  try dsimp only [St.put]
  refine aw rfl rfl rfl rfl (dl rfl rfl (Enc.len _)) ?_
  refine cn ?_
  repeat' (first
   | with_reducible exact dx
   | with_reducible refine dz ?_ ?_
   | ((with_reducible show mc _ _ _ _ _ _ 1 _); (try dsimp only [St.put]); (refine gk rfl rfl rfl (ay rfl rfl rfl (zc p hg) ?_)); (try dsimp only [List.set_cons_zero, List.set_cons_succ]))
   | ((with_reducible show mc _ _ _ _ _ _ 3 _); (try dsimp only [St.put]); (refine gk rfl rfl rfl (ay rfl rfl rfl (zc p hg) ?_)); (try dsimp only [List.set_cons_zero, List.set_cons_succ]))
   | ((with_reducible show mc _ _ _ _ _ _ 4 _); (try dsimp only [St.put]); (refine gk rfl rfl rfl (dd rfl ?_)); (try dsimp only [List.set_cons_zero, List.set_cons_succ]))
   | ((with_reducible show mc _ _ _ _ _ _ 5 _); (try dsimp only [St.put]); (refine gk rfl rfl rfl (dd rfl ?_)); (try dsimp only [List.set_cons_zero, List.set_cons_succ]))
   | ((with_reducible show mc _ _ _ _ _ _ 6 _); (try dsimp only [St.put]); (first | refine gk rfl rfl rfl (cw rfl rfl rfl zG rfl rfl (by rfl) ?_) | refine gk rfl rfl rfl (i7 rfl rfl rfl zG (by constructor) rfl zO ?_)); (try dsimp only [List.set_cons_zero, List.set_cons_succ]))
   | ((with_reducible show mc _ _ _ _ _ _ 7 _); (try dsimp only [St.put]); (first | refine gk rfl rfl rfl (cw rfl rfl rfl zG rfl rfl (by rfl) ?_) | refine gk rfl rfl rfl (i7 rfl rfl rfl zG (by constructor) rfl zO ?_)); (try dsimp only [List.set_cons_zero, List.set_cons_succ]))
   | with_reducible refine c7 (listed := [true, false, true, false, false, false, false, false]) [1, 4, 5] (by kernel_rfl) (by simp) ?_
   | with_reducible refine c7 (listed := [true, true, true, false, false, false, false, false]) [3, 4, 5] (by kernel_rfl) (by simp) ?_
   | with_reducible refine c7 (listed := [true, true, true, true, false, false, false, false]) [4, 5] (by kernel_rfl) (by simp) ?_
   | with_reducible refine c7 (listed := [true, true, true, true, true, false, false, false]) [5] (by kernel_rfl) (by simp) ?_
   | with_reducible refine c7 (listed := [true, true, true, true, true, true, false, false]) [6] (by kernel_rfl) (by simp) ?_
   | with_reducible refine c7 (listed := [true, true, true, true, true, true, true, false]) [7] (by kernel_rfl) (by simp) ?_
   | with_reducible refine c7 (listed := [true, true, true, true, false, true, false, false]) [4] (by kernel_rfl) (by simp) ?_
   | with_reducible refine c7 (listed := [true, true, true, false, true, false, false, false]) [3, 5] (by kernel_rfl) (by simp) ?_
   | with_reducible refine c7 (listed := [true, true, true, false, true, true, false, false]) [3] (by kernel_rfl) (by simp) ?_
   | with_reducible refine c7 (listed := [true, true, true, false, false, true, false, false]) [3, 4] (by kernel_rfl) (by simp) ?_
   | with_reducible refine c7 (listed := [true, false, true, false, true, false, false, false]) [1, 5] (by kernel_rfl) (by simp) ?_
   | with_reducible refine c7 (listed := [true, false, true, false, true, true, false, false]) [1] (by kernel_rfl) (by simp) ?_
   | with_reducible refine c7 (listed := [true, false, true, false, false, true, false, false]) [1, 4] (by kernel_rfl) (by simp) ?_
   | ((with_reducible show lj _ _ _ _ _ [true, true, true, true, true, true, true, true] _)
      try dsimp only [St.put]
      refine ia (by kernel_rfl) ?_
      first
      | exact ⟨(nx, nx + 1), by (dsimp only; omega), ⟨⟨rfl, rfl⟩, zF, .inr ⟨.inr rfl, .inr rfl, trivial⟩, zN, zX⟩⟩
      | exact ⟨(nx + 1, nx), by (dsimp only; omega), ⟨⟨rfl, rfl⟩, zF, .inr ⟨.inr rfl, .inr rfl, trivial⟩, zN, zX⟩⟩))
 rintro ⟨a, b⟩ hI
 dsimp only at hI ⊢
 obtain ⟨⟨i1, i2⟩, ⟨j1, j2⟩, k1⟩ := hI
 refine dw fun K7 hK7 => ?_
 refine c4 ?_
 refine aa rfl (dn rfl rfl) ?_
 try dsimp only [St.put]
 refine ae rfl (i7 rfl rfl rfl zG (by constructor) rfl (by show 0 + 3 < 4; decide) ?_)
 refine aa rfl (dn rfl rfl) ?_
 try dsimp only [St.put]
 refine ae rfl (i7 rfl rfl rfl zG (by constructor) rfl (by show 0 + 3 < 4; decide) ?_)
 refine ct ?_
 dsimp only [St.put]
 refine hK7 _ ?_
 refine oh (a) 3 _ _ 70 6 zG rfl (by decide) ?_
 refine oh (b) 3 _ _ 70 6 zG rfl (by decide) ?_
 dsimp only [List.set_cons_zero, List.set_cons_succ]
 refine dw fun K8 hK8 => ?_
 refine c4 ?_
 refine aa rfl (pu rfl rfl) ?_
 refine aa rfl (cz rfl (by constructor)) ?_
 refine ct ?_
 dsimp only [St.put]
 refine hK8 _ ?_
 refine dw fun K9 hK9 => ?_
 refine dw fun K10 hK10 => ?_
 refine c4 ?_
 try dsimp only [St.put]
 refine bg rfl (dl rfl rfl (Enc.len _)) ?_
 try dsimp only [St.put]
 refine ae rfl (ay rfl rfl rfl (zc p hg) ?_)
 refine aa rfl (uld rfl rfl rfl) ?_
 refine aa rfl (bp rfl rfl (List.length_map _)) ?_
 refine aa rfl (bx rfl (by constructor)) ?_
 refine ct ?_
 dsimp only [St.put]
 refine hK10 _ ?_
 refine bk ?_
 refine cp 50 ?_
 refine zQ ?_
 refine dq ((ak (ak (ak (ak G a (.box (2) [lst p.text, lst p.firsts, lst p.seconds, .list ((eu p n true 0).map cells) (.tip (nx + 1 + 1))])) b (.box (2) [lst p.text, lst p.firsts, lst p.seconds, .list ((eu p n false 0).map cells) (.tip (nx + 1 + 1 + 1))])) (nx + 1 + 1) (.tip (eu p n true 0).length 70 6)) (nx + 1 + 1 + 1) (.tip (eu p n false 0).length 70 6))) zX ?_
 dsimp only
 refine dp (X := Nat × Nat × Nat) (fun y => y.1 ≤ p.pages.length ∧ ∀ x ∈ p.pages.take y.1, lv n x = false) (fun y => p.pages.length - y.1) (fun y => [(10, .any), (11, .any), (12, .any), (49, .v (.int .i64 (y.1 : Int)))]) (fun y G' => (ak (ak (ak (ak G a (.box (y.2.1) [lst p.text, lst p.firsts, lst p.seconds, .list ((eu p n true y.1).map cells) (.tip (nx + 1 + 1))])) b (.box (y.2.2) [lst p.text, lst p.firsts, lst p.seconds, .list ((eu p n false y.1).map cells) (.tip (nx + 1 + 1 + 1))])) (nx + 1 + 1) (.tip (eu p n true y.1).length 70 6)) (nx + 1 + 1 + 1) (.tip (eu p n false y.1).length 70 6))) (0, 2, 2) rfl ?_ ?_ ?_ ?_ ?_ ?_
 ·exact ⟨Nat.zero_le _, by simp⟩
 ·exact zF
 ·exact zX
 ·rintro ⟨k, V1, V2⟩ hI
  exact zL
 ·rintro ⟨k, V1, V2⟩ hI
  exact zH
 rintro ⟨k, V1, V2⟩ hI
 dsimp only at hI ⊢
 refine dw fun K11 hK11 => ?_
 refine c4 ?_
 refine aa rfl (cv rfl rfl rfl) ?_
 refine ct ?_
 dsimp only [St.put]
 refine hK11 _ ?_
 refine dw fun K12 hK12 => ?_
 refine ar rfl (fun hc => ?_) (fun hc => ?_)
 ·replace hc := of_decide_eq_true hc
  have hkl : k < p.pages.length := by omega
  obtain ⟨x, hx⟩ : ∃ x, p.pages[k]? = some x := dr hkl
  have hp := pageB_true.1 (hok.page k x hx)
  have hp1 := hp.fst
  have hp2 := hp.snd
  have hb := uaf (p := p) n (x := x) (by omega)
  have hl1 := wo p n true k
  have hl2 := wo p n false k
  refine ax ?_
  refine hK12 _ ?_
  refine dw fun K13 hK13 => ?_
  refine bk ?_
  refine dw fun K14 hK14 => ?_
  refine c4 ?_
  try dsimp only [St.put]
  refine aa rfl (cb rfl rfl rfl rfl (ca (by assumption)) (Enc.len _)) ?_
  try dsimp only [St.put]
  refine bg rfl (dl rfl rfl (Enc.len _)) ?_
  try dsimp only [St.put]
  refine ae rfl (dd rfl ?_)
  try dsimp only [St.put]
  refine ae rfl (cw rfl rfl rfl zG rfl rfl (by rfl) ?_)
  refine ct ?_
  dsimp only [St.put]
  refine hK14 _ ?_
  refine fj (i := 10) rfl zG zC ?_
  dsimp only
  refine dw fun K15 hK15 => ?_
  refine c4 ?_
  refine aa rfl (bx rfl (by constructor)) ?_
  try dsimp only [St.put]
  refine bg rfl (dl rfl rfl (Enc.len _)) ?_
  try dsimp only [St.put]
  refine ae rfl (ay rfl rfl rfl (uee x n hn255 (by omega) (by omega)) ?_)
  refine aa rfl (bx rfl (by constructor)) ?_
  refine aa rfl (jh rfl rfl rfl) ?_
  refine aa rfl (jh rfl rfl rfl) ?_
  refine aa rfl (cz rfl (by constructor)) ?_
  refine aa rfl (cz rfl (by constructor)) ?_
  refine ct ?_
  dsimp only [St.put]
  refine hK15 _ ?_
  refine dw fun K16 hK16 => ?_
  refine dw fun K17 hK17 => ?_
  refine c4 ?_
  refine aa rfl (bx rfl (by constructor)) ?_
  refine ct ?_
  dsimp only [St.put]
  refine hK17 _ ?_
  refine ar rfl (fun hc => ?_) (fun hc => ?_)
  ·skip
   refine dw fun K18 hK18 => ?_
   refine c4 ?_
   refine aa rfl (bx rfl (by constructor)) ?_
   refine aa rfl (cz rfl (by constructor)) ?_
   refine ct ?_
   dsimp only [St.put]
   refine hK18 _ ?_
   refine aq ?_
   refine bh rfl (by constructor) zN zS ?_
   rfl
  have hpx : lv n x = false := hc
  have hpt : ∀ z ∈ p.pages.take (k + 1), lv n z = false := zv (p := fun z : am => lv n z = false) hx hpx hI.2
  refine ax ?_
  refine hK16 _ ?_
  refine dw fun K19 hK19 => ?_
  refine c4 ?_
  refine aa rfl (bx rfl (by constructor)) ?_
  refine ct ?_
  dsimp only [St.put]
  refine hK19 _ ?_
  refine ar rfl (fun hc => ?_) (fun hc => ?_)
  ·have hiy : bw p (f9 p n) x = true := hb.trans hc
   refine c4 ?_
   refine aa rfl (dn rfl rfl) ?_
   try dsimp only [St.put]
   refine bg rfl (e8 rfl rfl zG trivial (by first | rfl | assumption)) ?_
   try dsimp only [St.put]
   refine bg rfl (dl rfl rfl (Enc.len _)) ?_
   try dsimp only [St.put]
   refine ae rfl (du rfl rfl rfl (by decide) (by decide) zR (by decide) ?_)
   try dsimp only [St.put]
   refine ae rfl (jz ([x]) rfl rfl zG zE rfl rfl zA ?_ zA)
   refine aa rfl (dn rfl rfl) ?_
   try dsimp only [St.put]
   refine ae rfl (i7 rfl rfl rfl zG (by constructor) rfl zO ?_)
   refine ct ?_
   dsimp only [St.put]
   refine hK13 _ ?_
   refine c4 ?_
   refine aa rfl (cg rfl rfl rfl (by omega)) ?_
   refine aa rfl (bx rfl (by constructor)) ?_
   refine ct ?_
   dsimp only [St.put]
   first
   | (have q : bw p (f9 p n) x = true := hiy
      have e1 := pr (A := n) hx q
      have e2 := pq (A := n) (c := false) hx (by rw [q]; rfl)
      rw [← e1, ← e2]
      exact ⟨(k + 1, V1 + 1, V2), by (dsimp only; omega), ⟨by (dsimp only; omega), hpt⟩, ⟨⟨rfl, rfl⟩, zF, zB, zN, zX⟩⟩)
   | (have q : bw p (f9 p n) x = false := hin
      have e1 := pr (A := n) hx q
      have e2 := pq (A := n) (c := true) hx (by rw [q]; rfl)
      rw [← e1, ← e2]
      exact ⟨(k + 1, V1, V2 + 1), by (dsimp only; omega), ⟨by (dsimp only; omega), hpt⟩, ⟨⟨rfl, rfl⟩, zF, zB, zN, zX⟩⟩)
  have hin : bw p (f9 p n) x = false := hb.trans hc
  refine c4 ?_
  refine aa rfl (dn rfl rfl) ?_
  try dsimp only [St.put]
  refine bg rfl (e8 rfl rfl zG trivial (by first | rfl | assumption)) ?_
  try dsimp only [St.put]
  refine bg rfl (dl rfl rfl (Enc.len _)) ?_
  try dsimp only [St.put]
  refine ae rfl (du rfl rfl rfl (by decide) (by decide) zR (by decide) ?_)
  try dsimp only [St.put]
  refine ae rfl (jz ([x]) rfl rfl zG zE rfl rfl zA ?_ zA)
  refine aa rfl (dn rfl rfl) ?_
  try dsimp only [St.put]
  refine ae rfl (i7 rfl rfl rfl zG (by constructor) rfl zO ?_)
  refine ct ?_
  dsimp only [St.put]
  refine hK13 _ ?_
  refine c4 ?_
  refine aa rfl (cg rfl rfl rfl (by omega)) ?_
  refine aa rfl (bx rfl (by constructor)) ?_
  refine ct ?_
  dsimp only [St.put]
  first
  | (have q : bw p (f9 p n) x = true := hiy
     have e1 := pr (A := n) hx q
     have e2 := pq (A := n) (c := false) hx (by rw [q]; rfl)
     rw [← e1, ← e2]
     exact ⟨(k + 1, V1 + 1, V2), by (dsimp only; omega), ⟨by (dsimp only; omega), hpt⟩, ⟨⟨rfl, rfl⟩, zF, zB, zN, zX⟩⟩)
  | (have q : bw p (f9 p n) x = false := hin
     have e1 := pr (A := n) hx q
     have e2 := pq (A := n) (c := true) hx (by rw [q]; rfl)
     rw [← e1, ← e2]
     exact ⟨(k + 1, V1, V2 + 1), by (dsimp only; omega), ⟨by (dsimp only; omega), hpt⟩, ⟨⟨rfl, rfl⟩, zF, zB, zN, zX⟩⟩)
 replace hc := of_decide_eq_false hc
 obtain rfl : k = p.pages.length := by omega
 have hap : pg p (f9 p n) := ujz n fun x hx => by
  obtain ⟨j, hj⟩ := List.getElem?_of_mem hx
  have hp := pageB_true.1 (hok.page j x hj)
  have hp1 := hp.fst
  refine ⟨by omega, hI.2 x ?_⟩
  rw [List.take_length]
  exact hx
 obtain ⟨q1, hq1⟩ : ∃ q, dm p (eu p n true p.pages.length) = q := ⟨_, rfl⟩
 obtain ⟨q2, hq2⟩ : ∃ q, dm p (eu p n false p.pages.length) = q := ⟨_, rfl⟩
 have hc1 : cells q1 = [lst p.text, lst p.firsts, lst p.seconds, lst (eu p n true p.pages.length)] := by rw [← hq1]; rfl
 have hc2 : cells q2 = [lst p.text, lst p.firsts, lst p.seconds, lst (eu p n false p.pages.length)] := by rw [← hq2]; rfl
 refine sn a V1 (cells q1) zG (by rw [hc1]; exact zW) ?_
 refine sn b V2 (cells q2) zG (by rw [hc2]; exact zW) ?_
 refine fj (i := 6) rfl zG (by rw [hc1]; simp) ?_
 dsimp only
 refine fj (i := 7) rfl zG (by rw [hc2]; simp) ?_
 dsimp only
 have hk1 := uc3 hC fun x => bw p (f9 p n) x == true
 have hk2 := uc3 hC fun x => bw p (f9 p n) x == false
 have ht := uhv hap
 have ho1 := (lg hk1).1
 have ho2 := (lg hk2).1
 have hm := ulg hap (w8 hok) (w8 ho1) (w8 ho2)
 have ha1 : ∀ {j i : Nat} {x : am}, p.pages[j]? = some x → (p.pages.filter fun x => bw p (f9 p n) x == true)[i]? = some x → _ := fun {j i x} hx hi => ugl hok hap ho1 hx hi
 have ha2 : ∀ {j i : Nat} {x : am}, p.pages[j]? = some x → (p.pages.filter fun x => bw p (f9 p n) x == false)[i]? = some x → _ := fun {j i x} hx hi => ugl hok hap ho2 hx hi
 rw [← nv] at hk1 ho1
 rw [← nv] at hk2 ho2
 rw [← nv, ← nv] at ht hm
 rw [hq1] at hk1 ht ho1 hm
 rw [hq2] at hk2 ht ho2 hm
 have hLa : er q1 (cm q1) = bif ga q1 then 0 else 8 := by rw [hk1, p7]
 have hLb : er q2 (cm q2) = bif ga q2 then 0 else 8 := by rw [hk2, p7]
 have hf1 : ∀ {j i : Nat} {x : am}, p.pages[j]? = some x → (eu p n true p.pages.length)[i]? = some x → (bi q1).alone (bv q1) (cj q1) i = (bi p).alone (bv p) (cj p) j := fun {j i x} hx hi => by
  rw [nv] at hi
  have := ha1 hx hi
  rw [← nv, hq1] at this
  exact this
 have hf2 : ∀ {j i : Nat} {x : am}, p.pages[j]? = some x → (eu p n false p.pages.length)[i]? = some x → (bi q2).alone (bv q2) (cj q2) i = (bi p).alone (bv p) (cj p) j := fun {j i x} hx hi => by
  rw [nv] at hi
  have := ha2 hx hi
  rw [← nv, hq2] at this
  exact this
 have hg1 : q1.pages = eu p n true p.pages.length := by rw [← hq1]; rfl
 have hg2 : q2.pages = eu p n false p.pages.length := by rw [← hq2]; rfl
 clear ha1 ha2
 refine dj ?_
 refine hK9 _ ?_
 refine dw fun K20 hK20 => ?_
 refine c4 ?_
 try dsimp only [St.put]
 refine bg rfl (dl rfl rfl (Enc.len _)) ?_
 try dsimp only [St.put]
 refine ae rfl ((ec rfl rfl rfl ((wu 0 p)) zG (by dsimp only [St.put]; omega) ?_))
 refine aa rfl (bx rfl (by constructor)) ?_
 refine aa rfl (jh rfl rfl rfl) ?_
 refine aa rfl (jh rfl rfl rfl) ?_
 try dsimp only [St.put]
 refine ae rfl (dd rfl ?_)
 try dsimp only [St.put]
 refine ae rfl (cw rfl rfl rfl zG rfl rfl (by rfl) ?_)
 refine aa rfl (cz rfl (by constructor)) ?_
 refine ct ?_
 dsimp only [St.put]
 refine hK20 _ ?_
 refine fj (i := 13) rfl zG zC ?_
 dsimp only
 refine dw fun K21 hK21 => ?_
 refine c4 ?_
 try dsimp only [St.put]
 refine bg rfl (dl rfl rfl (Enc.len _)) ?_
 try dsimp only [St.put]
 refine ae rfl ((ec rfl rfl rfl ((wu 0 q1)) zG (by dsimp only [St.put]; omega) ?_))
 refine aa rfl (bx rfl (by constructor)) ?_
 refine aa rfl (jh rfl rfl rfl) ?_
 refine aa rfl (jh rfl rfl rfl) ?_
 try dsimp only [St.put]
 refine ae rfl (dd rfl ?_)
 try dsimp only [St.put]
 refine ae rfl (cw rfl rfl rfl zG rfl rfl (by rfl) ?_)
 refine aa rfl (cz rfl (by constructor)) ?_
 refine ct ?_
 dsimp only [St.put]
 refine hK21 _ ?_
 refine fj (i := 15) rfl zG zC ?_
 dsimp only
 refine dw fun K22 hK22 => ?_
 refine c4 ?_
 try dsimp only [St.put]
 refine bg rfl (dl rfl rfl (Enc.len _)) ?_
 try dsimp only [St.put]
 refine ae rfl ((ec rfl rfl rfl ((wu 0 q2)) zG (by dsimp only [St.put]; omega) ?_))
 refine aa rfl (bx rfl (by constructor)) ?_
 refine aa rfl (jh rfl rfl rfl) ?_
 refine aa rfl (jh rfl rfl rfl) ?_
 try dsimp only [St.put]
 refine ae rfl (dd rfl ?_)
 try dsimp only [St.put]
 refine ae rfl (cw rfl rfl rfl zG rfl rfl (by rfl) ?_)
 refine aa rfl (cz rfl (by constructor)) ?_
 refine ct ?_
 dsimp only [St.put]
 refine hK22 _ ?_
 refine fj (i := 17) rfl zG zC ?_
 dsimp only
 refine dw fun K23 hK23 => ?_
 refine dw fun K24 hK24 => ?_
 by_cases hT : ga p = true
 ·have hL : er p (cm p) = 0 := by rw [hL0, hT]; rfl
  have ht' : ga q1 = true ∧ ga q2 = true := by rw [hT] at ht; simpa using ht.symm
  have hL1 : er q1 (cm q1) = 0 := by rw [hLa, ht'.1]; rfl
  have hL2 : er q2 (cm q2) = 0 := by rw [hLb, ht'.2]; rfl
  have hv : (me p).hi = lm p := by unfold me; rw [hL]; rfl
  have hv1 : (me q1).hi = lm q1 := by unfold me; rw [hL1]; rfl
  have hv2 : (me q2).hi = lm q2 := by unfold me; rw [hL2]; rfl
  have hmb1 := xa (ra ho1)
  have hmb2 := xa (ra ho2)
  have hmb1' : -6000000 ≤ lm q1 ∧ lm q1 ≤ 14000000 := hmb1
  have hmb2' : -6000000 ≤ lm q2 ∧ lm q2 ≤ 14000000 := hmb2
  refine c4 ?_
  refine aa rfl (bx rfl (by constructor)) ?_
  refine aa rfl ((em (c := false) (ff rfl rfl rfl) (pt hL))) ?_
  refine ct ?_
  dsimp only [St.put]
  refine hK24 _ ?_
  refine ar rfl (fun h => by cases h) (fun _ => ?_)
  refine ax ?_
  refine hK23 _ ?_
  refine dw fun K25 hK25 => ?_
  refine dw fun K26 hK26 => ?_
  refine c4 ?_
  refine aa rfl (bx rfl (by constructor)) ?_
  refine aa rfl ((em (c := false) (ff rfl rfl rfl) (pt hL1))) ?_
  refine aa rfl (bx rfl (by constructor)) ?_
  refine aa rfl (bx rfl (by constructor)) ?_
  refine aa rfl ((em (c := false) (ff rfl rfl rfl) (pt hL2))) ?_
  refine aa rfl (ck rfl rfl (by constructor)) ?_
  refine aa rfl (bx rfl (by constructor)) ?_
  refine aa rfl (ce rfl rfl rfl) ?_
  try dsimp only [St.put]
  refine bg rfl (bq rfl rfl) ?_
  refine aa rfl (ce rfl rfl rfl) ?_
  try dsimp only [St.put]
  refine bg rfl (bq rfl rfl) ?_
  refine aa rfl (ce rfl rfl rfl) ?_
  try dsimp only [St.put]
  refine bg rfl (bq rfl rfl) ?_
  refine aa rfl ((cg rfl rfl rfl (by rw [hv1, hv2]; omega))) ?_
  refine aa rfl ((em (c := false) (ff rfl rfl rfl) (pt (by rw [hv, hv1, hv2]; exact hm)))) ?_
  refine aa rfl (ck rfl rfl (by constructor)) ?_
  refine ct ?_
  dsimp only [St.put]
  refine hK26 _ ?_
  refine ar rfl (fun h => by cases h) (fun _ => ?_)
  refine ax ?_
  refine hK25 _ ?_
  refine dw fun K27 hK27 => ?_
  refine c4 ?_
  refine aa rfl (cz rfl (by constructor)) ?_
  refine aa rfl (cz rfl (by constructor)) ?_
  refine ct ?_
  dsimp only [St.put]
  refine hK27 _ ?_
  refine dw fun K28 hK28 => ?_
  refine dw fun K29 hK29 => ?_
  refine c4 ?_
  refine aa rfl (ce rfl rfl rfl) ?_
  try dsimp only [St.put]
  refine bg rfl (bq rfl rfl) ?_
  refine aa rfl (bp rfl rfl (List.length_map _)) ?_
  refine aa rfl (bx rfl (by constructor)) ?_
  refine ct ?_
  dsimp only [St.put]
  refine hK29 _ ?_
  refine bk ?_
  refine cp 127 ?_
  refine zQ ?_
  refine dq (G) zX ?_
  dsimp only
  refine dp (X := Nat) (fun k => k ≤ p.pages.length) (fun k => p.pages.length - k) (fun k => [(19, .v (.int .i64 ((eu p n true k).length : Int))), (20, .v (.int .i64 ((eu p n false k).length : Int))), (21, .any), (22, .any), (23, .any), (24, .any), (25, .any), (26, .any), (27, .any), (28, .any), (126, .v (.int .i64 (k : Int)))]) (fun k G' => G') 0 rfl ?_ ?_ (fun _ _ h => h) ?_ ?_ ?_
  ·exact Nat.zero_le _
  ·exact zF
  ·rintro k hI
   exact zL
  ·exact fun _ _ _ _ h => .inl h
  rintro k hJ
  dsimp only at hJ ⊢
  refine dw fun K30 hK30 => ?_
  refine c4 ?_
  refine aa rfl (cv rfl rfl rfl) ?_
  refine ct ?_
  dsimp only [St.put]
  refine hK30 _ ?_
  refine dw fun K31 hK31 => ?_
  refine ar rfl (fun hc => ?_) (fun hc => ?_)
  ·replace hc := of_decide_eq_true hc
   have hkl : k < p.pages.length := by omega
   obtain ⟨x, hx⟩ : ∃ x, p.pages[k]? = some x := dr hkl
   have hp := pageB_true.1 (hok.page k x hx)
   have hp1 := hp.fst
   have hp2 := hp.snd
   have hb := uaf (p := p) n (x := x) (by omega)
   have hl1 := wo p n true k
   have hl2 := wo p n false k
   refine ax ?_
   refine hK31 _ ?_
   refine dw fun K32 hK32 => ?_
   refine bk ?_
   refine dw fun K33 hK33 => ?_
   refine c4 ?_
   refine aa rfl (bx rfl (by constructor)) ?_
   try dsimp only [St.put]
   refine aa rfl (cb rfl rfl rfl rfl (ca (by assumption)) (Enc.len _)) ?_
   try dsimp only [St.put]
   refine bg rfl (dl rfl rfl (Enc.len _)) ?_
   try dsimp only [St.put]
   refine ae rfl (dd rfl ?_)
   refine aa rfl (cz rfl (by constructor)) ?_
   try dsimp only [St.put]
   refine ae rfl (cw rfl rfl rfl zG rfl rfl (by rfl) ?_)
   refine ct ?_
   dsimp only [St.put]
   refine hK33 _ ?_
   refine fj (i := 22) rfl zG zC ?_
   dsimp only
   refine dw fun K34 hK34 => ?_
   refine c4 ?_
   try dsimp only [St.put]
   refine bg rfl (dl rfl rfl (Enc.len _)) ?_
   refine aa rfl (bx rfl (by constructor)) ?_
   try dsimp only [St.put]
   refine ae rfl ((ec rfl rfl rfl ((uaa 0 p hL hx)) zG (by dsimp only [St.put]; omega) ?_))
   refine aa rfl (bx rfl (by constructor)) ?_
   refine aa rfl (jh rfl rfl rfl) ?_
   refine aa rfl (jh rfl rfl rfl) ?_
   try dsimp only [St.put]
   refine ae rfl (dd rfl ?_)
   try dsimp only [St.put]
   refine ae rfl (cw rfl rfl rfl zG rfl rfl (by rfl) ?_)
   refine aa rfl (cz rfl (by constructor)) ?_
   refine ct ?_
   dsimp only [St.put]
   refine hK34 _ ?_
   refine fj (i := 23) rfl zG zC ?_
   dsimp only
   refine dw fun K35 hK35 => ?_
   refine c4 ?_
   try dsimp only [St.put]
   refine ae rfl (dd rfl ?_)
   refine ct ?_
   dsimp only [St.put]
   refine hK35 _ ?_
   refine dw fun K36 hK36 => ?_
   refine c4 ?_
   refine aa rfl (cz rfl (by constructor)) ?_
   refine ct ?_
   dsimp only [St.put]
   refine hK36 _ ?_
   refine dw fun K37 hK37 => ?_
   refine dw fun K38 hK38 => ?_
   refine c4 ?_
   refine aa rfl (bx rfl (by constructor)) ?_
   try dsimp only [St.put]
   refine bg rfl (dl rfl rfl (Enc.len _)) ?_
   try dsimp only [St.put]
   refine ae rfl (ay rfl rfl rfl (uee x n hn255 (by omega) (by omega)) ?_)
   refine aa rfl (bx rfl (by constructor)) ?_
   refine aa rfl (jh rfl rfl rfl) ?_
   refine aa rfl (jh rfl rfl rfl) ?_
   refine aa rfl (cz rfl (by constructor)) ?_
   refine aa rfl (cz rfl (by constructor)) ?_
   refine ct ?_
   dsimp only [St.put]
   refine hK38 _ ?_
   refine dw fun K39 hK39 => ?_
   refine c4 ?_
   refine aa rfl (bx rfl (by constructor)) ?_
   refine ct ?_
   dsimp only [St.put]
   refine hK39 _ ?_
   refine ar rfl (fun hc => ?_) (fun hc => ?_)
   ·have hiy : bw p (f9 p n) x = true := hb.trans hc
    have hat : (eu p n true p.pages.length)[(eu p n true k).length]? = some x := by rw [nv]; exact uex hx (by rw [hiy]; rfl)
    have hal := hf1 hx hat
    have hRM := uaa 0 q1 hL1 (by rw [hg1]; exact hat)
    rw [hal] at hRM
    refine dw fun K40 hK40 => ?_
    refine c4 ?_
    try dsimp only [St.put]
    refine bg rfl (dl rfl rfl (Enc.len _)) ?_
    refine aa rfl (bx rfl (by constructor)) ?_
    try dsimp only [St.put]
    refine ae rfl ((ec rfl rfl rfl (hRM) zG (by dsimp only [St.put]; omega) ?_))
    refine aa rfl (bx rfl (by constructor)) ?_
    refine aa rfl (jh rfl rfl rfl) ?_
    refine aa rfl (jh rfl rfl rfl) ?_
    try dsimp only [St.put]
    refine ae rfl (cw rfl rfl rfl zG rfl rfl (by rfl) ?_)
    refine aa rfl (cz rfl (by constructor)) ?_
    refine ct ?_
    dsimp only [St.put]
    refine hK40 _ ?_
    refine fj (i := 25) rfl zG zC ?_
    dsimp only
    refine c4 ?_
    refine aa rfl (bx rfl (by constructor)) ?_
    refine aa rfl (cg rfl rfl rfl (by omega)) ?_
    refine aa rfl (cz rfl (by constructor)) ?_
    refine ct ?_
    dsimp only [St.put]
    refine hK37 _ ?_
    refine dw fun K41 hK41 => ?_
    refine c4 ?_
    refine aa rfl (bx rfl (by constructor)) ?_
    refine aa rfl ((em (c := false) (ff rfl rfl rfl) (pt rfl))) ?_
    refine aa rfl (bx rfl (by constructor)) ?_
    refine aa rfl (bx rfl (by constructor)) ?_
    refine aa rfl ((em (c := false) (ff rfl rfl rfl) (pt rfl))) ?_
    refine aa rfl (ck rfl rfl (by constructor)) ?_
    refine aa rfl (bx rfl (by constructor)) ?_
    try dsimp only [St.put]
    refine bg rfl (dl rfl rfl (Enc.len _)) ?_
    try dsimp only [St.put]
    refine bg rfl (dl rfl rfl (Enc.len _)) ?_
    refine aa rfl ((em (c := false) (zt (x := (⟨0, (bi p).alone (bv p) (cj p) k⟩ : bj)) (y := (⟨0, (bi p).alone (bv p) (cj p) k⟩ : bj)) rfl rfl rfl) (by rw [decide_eq_true rfl]; rfl))) ?_
    refine aa rfl (ck rfl rfl (by constructor)) ?_
    refine ct ?_
    dsimp only [St.put]
    refine hK41 _ ?_
    refine ar rfl (fun h => by cases h) (fun _ => ?_)
    refine ax ?_
    refine hK32 _ ?_
    refine c4 ?_
    refine aa rfl (cg rfl rfl rfl (by omega)) ?_
    refine aa rfl (bx rfl (by constructor)) ?_
    refine ct ?_
    dsimp only [St.put]
    first
    | (have q : bw p (f9 p n) x = true := hiy
       have e1 := pr (A := n) hx q
       have e2 := pq (A := n) (c := false) hx (by rw [q]; rfl)
       rw [show ((eu p n true k).length : Int) + 1 = ((eu p n true (k + 1)).length : Int) by rw [e1, List.length_append]; rfl, ← e2]
       exact ⟨k + 1, by omega, by omega, ⟨⟨rfl, rfl⟩, zF, zB, zN, zX⟩⟩)
    | (have q : bw p (f9 p n) x = false := hin
       have e1 := pr (A := n) hx q
       have e2 := pq (A := n) (c := true) hx (by rw [q]; rfl)
       rw [show ((eu p n false k).length : Int) + 1 = ((eu p n false (k + 1)).length : Int) by rw [e1, List.length_append]; rfl, ← e2]
       exact ⟨k + 1, by omega, by omega, ⟨⟨rfl, rfl⟩, zF, zB, zN, zX⟩⟩)
   have hin : bw p (f9 p n) x = false := hb.trans hc
   have hat : (eu p n false p.pages.length)[(eu p n false k).length]? = some x := by rw [nv]; exact uex hx (by rw [hin]; rfl)
   have hal := hf2 hx hat
   have hRM := uaa 0 q2 hL2 (by rw [hg2]; exact hat)
   rw [hal] at hRM
   refine dw fun K42 hK42 => ?_
   refine c4 ?_
   try dsimp only [St.put]
   refine bg rfl (dl rfl rfl (Enc.len _)) ?_
   refine aa rfl (bx rfl (by constructor)) ?_
   try dsimp only [St.put]
   refine ae rfl ((ec rfl rfl rfl (hRM) zG (by dsimp only [St.put]; omega) ?_))
   refine aa rfl (bx rfl (by constructor)) ?_
   refine aa rfl (jh rfl rfl rfl) ?_
   refine aa rfl (jh rfl rfl rfl) ?_
   try dsimp only [St.put]
   refine ae rfl (cw rfl rfl rfl zG rfl rfl (by rfl) ?_)
   refine aa rfl (cz rfl (by constructor)) ?_
   refine ct ?_
   dsimp only [St.put]
   refine hK42 _ ?_
   refine fj (i := 25) rfl zG zC ?_
   dsimp only
   refine c4 ?_
   refine aa rfl (bx rfl (by constructor)) ?_
   refine aa rfl (cg rfl rfl rfl (by omega)) ?_
   refine aa rfl (cz rfl (by constructor)) ?_
   refine ct ?_
   dsimp only [St.put]
   refine hK37 _ ?_
   refine dw fun K43 hK43 => ?_
   refine c4 ?_
   refine aa rfl (bx rfl (by constructor)) ?_
   refine aa rfl ((em (c := false) (ff rfl rfl rfl) (pt rfl))) ?_
   refine aa rfl (bx rfl (by constructor)) ?_
   refine aa rfl (bx rfl (by constructor)) ?_
   refine aa rfl ((em (c := false) (ff rfl rfl rfl) (pt rfl))) ?_
   refine aa rfl (ck rfl rfl (by constructor)) ?_
   refine aa rfl (bx rfl (by constructor)) ?_
   try dsimp only [St.put]
   refine bg rfl (dl rfl rfl (Enc.len _)) ?_
   try dsimp only [St.put]
   refine bg rfl (dl rfl rfl (Enc.len _)) ?_
   refine aa rfl ((em (c := false) (zt (x := (⟨0, (bi p).alone (bv p) (cj p) k⟩ : bj)) (y := (⟨0, (bi p).alone (bv p) (cj p) k⟩ : bj)) rfl rfl rfl) (by rw [decide_eq_true rfl]; rfl))) ?_
   refine aa rfl (ck rfl rfl (by constructor)) ?_
   refine ct ?_
   dsimp only [St.put]
   refine hK43 _ ?_
   refine ar rfl (fun h => by cases h) (fun _ => ?_)
   refine ax ?_
   refine hK32 _ ?_
   refine c4 ?_
   refine aa rfl (cg rfl rfl rfl (by omega)) ?_
   refine aa rfl (bx rfl (by constructor)) ?_
   refine ct ?_
   dsimp only [St.put]
   first
   | (have q : bw p (f9 p n) x = true := hiy
      have e1 := pr (A := n) hx q
      have e2 := pq (A := n) (c := false) hx (by rw [q]; rfl)
      rw [show ((eu p n true k).length : Int) + 1 = ((eu p n true (k + 1)).length : Int) by rw [e1, List.length_append]; rfl, ← e2]
      exact ⟨k + 1, by omega, by omega, ⟨⟨rfl, rfl⟩, zF, zB, zN, zX⟩⟩)
   | (have q : bw p (f9 p n) x = false := hin
      have e1 := pr (A := n) hx q
      have e2 := pq (A := n) (c := true) hx (by rw [q]; rfl)
      rw [show ((eu p n false k).length : Int) + 1 = ((eu p n false (k + 1)).length : Int) by rw [e1, List.length_append]; rfl, ← e2]
      exact ⟨k + 1, by omega, by omega, ⟨⟨rfl, rfl⟩, zF, zB, zN, zX⟩⟩)
  replace hc := of_decide_eq_false hc
  refine dj ?_
  refine hK28 _ ?_
  refine dw fun K44 hK44 => ?_
  refine c4 ?_
  refine aa rfl (bx rfl (by constructor)) ?_
  refine aa rfl (cz rfl (by constructor)) ?_
  refine ct ?_
  dsimp only [St.put]
  refine hK44 _ ?_
  refine aq ?_
  refine bh rfl (by constructor) zN zS ?_
  rfl
 have hT0 : ga p = false := by simpa using hT
 have hL : er p (cm p) = 8 := by rw [hL0, hT0]; rfl
 have ht' : ga q1 = false ∨ ga q2 = false := by
  rw [hT0] at ht
  cases h1 : ga q1 with
  | false => exact .inl rfl
  | true => rw [h1, Bool.true_and] at ht; exact .inr ht.symm
 refine c4 ?_
 refine aa rfl (bx rfl (by constructor)) ?_
 refine aa rfl ((em (c := true) (ff rfl rfl rfl) (by rw [hL]; rfl))) ?_
 refine ct ?_
 dsimp only [St.put]
 refine hK24 _ ?_
 refine ar rfl (fun _ => ?_) (fun h => by cases h)
 refine dw fun K45 hK45 => ?_
 refine c4 ?_
 refine aa rfl (bx rfl (by constructor)) ?_
 refine aa rfl (bx rfl (by constructor)) ?_
 refine aa rfl (bx rfl (by constructor)) ?_
 refine aa rfl ((em (c := true) (fp rfl rfl rfl) (decide_eq_true hL))) ?_
 refine aa rfl (bz rfl rfl (by constructor)) ?_
 refine aa rfl (bx rfl (by constructor)) ?_
 refine aa rfl (bx rfl (by constructor)) ?_
 refine aa rfl (bx rfl (by constructor)) ?_
 refine aa rfl (fp rfl rfl rfl) ?_
 refine eg (fun hs => ?_) (fun hs => ?_)
 ·skip
  refine aa rfl (bx rfl (by constructor)) ?_
  refine fe rfl ?_
  refine fe rfl ?_
  refine fe rfl ?_
  refine aa rfl (bz rfl rfl (by constructor)) ?_
  refine aa rfl (bz rfl rfl (by constructor)) ?_
  refine aa rfl (cz rfl (by constructor)) ?_
  refine ct ?_
  dsimp only [St.put]
  refine hK45 _ ?_
  refine aq ?_
  refine bh rfl (by constructor) zN zS ?_
  rfl
 have hne := of_decide_eq_false hs
 have h2 : er q2 (cm q2) = er p (cm p) := by
  rcases ht' with h | h
  ·exact absurd (by rw [hL, hLa, h]; rfl) hne
  rw [hL, hLb, h]; rfl
 refine aa rfl (bx rfl (by constructor)) ?_
 refine aa rfl (bx rfl (by constructor)) ?_
 refine aa rfl (bx rfl (by constructor)) ?_
 refine aa rfl ((em (c := true) (fp rfl rfl rfl) (decide_eq_true h2))) ?_
 refine aa rfl (ck rfl rfl (by constructor)) ?_
 refine aa rfl (bz rfl rfl (by constructor)) ?_
 refine aa rfl (cz rfl (by constructor)) ?_
 refine ct ?_
 dsimp only [St.put]
 refine hK45 _ ?_
 refine aq ?_
 refine bh rfl (by constructor) zN zS ?_
 rfl
end Go.Proofs.YtbbdginipiljdaaDoor
namespace Go.AB
open Go Go.RowKit Go.ChangeShapes Go.WideShapes
end Go.AB
namespace Go.Proofs.YtbbdginipiljdaaDoor
set_option maxRecDepth 10000
open Go.ChangeShapes Go.WideShapes Go.ChangeAt Go.RowKit Go.AB
open Go.AB.Enc (cells)
open Go.PB (av ai PlaceD az bf ba)
instance : OpensE Tryd.prog 3 Int := .int (by kernel_rfl)
instance : OpensE Tryd.prog 9 ByteArray := .str (by kernel_rfl)
instance : OpensE Tryd.prog 124 (List ByteArray) := .slice (e := 9) (by kernel_rfl) (by decide)
instance : OpensE Tryd.prog 125 (List (List ByteArray)) := .slice (e := 124) (by kernel_rfl) (by decide)
instance : OpensE Tryd.prog 127 av := .chap (tI := 3) (tL := 125) (by kernel_rfl)
instance : OpensE Tryd.prog 22 (List av) := .slice (e := 127) (by kernel_rfl) (by decide)
theorem uhz : jr Tryd.prog 24 [(0, 22, 1)] 1 = true := by kernel_rfl
instance : OpensE Tryd.prog 24 (List av) := .one (e := 22) uhz
theorem ujv : jr Tryd.prog 54 [(0, 3, 1), (1, 3, 1), (2, 3, 1)] 3 = true := by kernel_rfl
instance : OpensE Tryd.prog 54 PlaceD := .place (tI := 3) ujv
theorem un0 : Tryd.prog.underlying 4 = some .bool := by kernel_rfl
theorem ownZ : ownKnob Tryd.prog.godebug = none := by kernel_rfl
end Go.Proofs.YtbbdginipiljdaaDoor
namespace Go.AB
open Go Go.RowKit Go.ChangeShapes Go.WideShapes
open Go.AB.Enc (cells)
open Go.PB (av ai PlaceD az bf ba bl am af co bj)
theorem OpensE.reader {P : Program} {t tI : TypeId} [oI : OpensE P tI Int] (h : jr P t [(0, tI, 1), (1, tI, 1)] 2 = true) : OpensE P t bl :=
 .struct (α := bl) h fun w cs hl hp => by
  obtain ⟨a, ha⟩ := hp (0, tI, 1) (by simp) Int inferInstance oI
  obtain ⟨b, hb⟩ := hp (1, tI, 1) (by simp) Int inferInstance oI
  match cs, hl with
  | [u, v], _ => exact ⟨⟨a, b⟩, Rs.cons (Rs.single_inv ha) hb⟩
theorem OpensE.page {P : Program} {t tI tL : TypeId} [oI : OpensE P tI Int] [oL : OpensE P tL (List PlaceD)] (h : jr P t [(0, tI, 1), (1, tI, 1), (2, tI, 1), (3, tI, 1), (4, tL, 1), (5, tL, 1)] 6 = true) : OpensE P t am :=
 .struct (α := am) h fun w cs hl hp => by
  obtain ⟨a, ha⟩ := hp (0, tI, 1) (by simp) Int inferInstance oI
  obtain ⟨b, hb⟩ := hp (1, tI, 1) (by simp) Int inferInstance oI
  obtain ⟨c, hc⟩ := hp (2, tI, 1) (by simp) Int inferInstance oI
  obtain ⟨d, hd⟩ := hp (3, tI, 1) (by simp) Int inferInstance oI
  obtain ⟨e, he⟩ := hp (4, tL, 1) (by simp) (List PlaceD) inferInstance oL
  obtain ⟨f, hf⟩ := hp (5, tL, 1) (by simp) (List PlaceD) inferInstance oL
  match cs, hl with
  | [u0, u1, u2, u3, u4, u5], _ => exact ⟨⟨a, b, c, d, e, f⟩, Rs.cons (Rs.single_inv ha) (Rs.cons (Rs.single_inv hb) (Rs.cons (Rs.single_inv hc) (Rs.cons (Rs.single_inv hd) (Rs.cons (Rs.single_inv he) hf))))⟩
theorem OpensE.proofs {P : Program} {t tT tR tP : TypeId} [oT : OpensE P tT (List av)] [oR : OpensE P tR (List bl)] [oP : OpensE P tP (List am)] (h : jr P t [(0, tT, 1), (1, tR, 1), (2, tR, 1), (3, tP, 1)] 4 = true) : OpensE P t af :=
 .struct (α := af) h fun w cs hl hp => by
  obtain ⟨a, ha⟩ := hp (0, tT, 1) (by simp) (List av) inferInstance oT
  obtain ⟨b, hb⟩ := hp (1, tR, 1) (by simp) (List bl) inferInstance oR
  obtain ⟨c, hc⟩ := hp (2, tR, 1) (by simp) (List bl) inferInstance oR
  obtain ⟨d, hd⟩ := hp (3, tP, 1) (by simp) (List am) inferInstance oP
  match cs, hl with
  | [u0, u1, u2, u3], _ => exact ⟨⟨a, b, c, d⟩, Rs.cons (Rs.single_inv ha) (Rs.cons (Rs.single_inv hb) (Rs.cons (Rs.single_inv hc) hd))⟩
end Go.AB
namespace Go.AB
open Go Go.RowKit Go.ChangeShapes Go.WideShapes
open Go.AB.Enc (cells)
open Go.PB (av ai PlaceD bl am af co bj)
def ueq (P : Program) (t : TypeId) : Bool := match P.underlying t with | some (.func _ _ _) => true | _ => false
theorem ual {P : Program} {t : TypeId} (h : ueq P t = true) : ∃ ps rs va, P.underlying t = some (.func ps rs va) := by
 unfold ueq at h
 split at h
 ·rename_i ps rs va he; exact ⟨ps, rs, va, he⟩
 ·cases h
/-- Functions that lie in a variable's cells. -/
theorem um2 {W : World} {b : Nat} {cs : List C} (hne : cs ≠ []) (hone : ∀ c ∈ cs, c.one = true) (us : Nat → Value) (hc : ∀ j, j < cs.length → W.cell? ⟨b, j, none⟩ = some (us j)) (hr : ∀ j c, cs[j]? = some c → R (j5 W) W c (us j)) : R (j5 W) W (.elem cs) (.pointer (some ⟨b, 0, none⟩)) := by
 have hl : 0 < cs.length := List.length_pos_iff.2 hne
 refine .elem hne hone (.inr ⟨b, 0, rfl, ?_, fun j hj => by rw [Nat.zero_add]; exact hc j hj⟩) hr
 have := ufs (hc (cs.length - 1) (by omega))
 show 0 + cs.length ≤ qz W b
 omega
theorem ul8 {P : Program} {f : FuncId} {cs : List C} {v gv : Value} {gc : C} (hp : fu 0 (.fact gv gc) P f cs (.v v)) {w : World} {args : List Value} (hK : R (j5 w) w gc gv) (hr : Rs (j5 w) w cs args) :
  Calls P f args.toArray w fun e w' => e = .returned v ∧ Below w.heap.size w w' :=
 ul9 (fun G nx hG => by
  intro E w' as' hrs hsg
  exact hp G nx hG (by obtain ⟨t, _⟩ := hsg.obj 0 _ hG; have := hsg.lt 0 _ t; rw [hsg.nx] at this; exact this) E w' as' hrs hsg) hK hr
/-- a cell of a function's type, as it reads -/
theorem sg {P : Program} {W : World} {t : TypeId} {ps rs : Array TypeId} {va : Bool} {v : Value} {b : UInt8} {r : List UInt8} {f0 : FuncId} (hu : P.underlying t = some (.func ps rs va)) (hv : IsFunc v) (hd : veil (funcToken P) t v = .held (b :: r))
  (hone : ((List.range P.funcs.size).filter fun f => (P.funcs[f]?).any (·.name.toUTF8.data.toList == b :: r)) = [f0]) : v = .func (.func f0) #[] #[] :=
 Go.func_of_trod (w := W) (base := 0) (sp := fun _ => true) (fuel := 1) (q := []) hu hone (by
  have := trod_func (enc := funcToken P) hu (W := W) (base := 0) (sp := fun _ => true) hv 0
  rw [hd] at this
  exact this)
end Go.AB
namespace Go.Proofs.YtbbdginipiljdaaDoor
set_option maxRecDepth 10000
open Go.ChangeShapes Go.WideShapes Go.ChangeAt Go.RowKit Go.AB
open Go.AB.Enc (cells)
open Go.PB (av ai PlaceD bl am af co bj)
instance : OpensE Tryd.prog 66 bl := .reader (tI := 3) (by kernel_rfl)
instance : OpensE Tryd.prog 25 (List bl) := .slice (e := 66) (by kernel_rfl) (by decide)
instance : OpensE Tryd.prog 36 (List PlaceD) := .slice (e := 54) (by kernel_rfl) (by decide)
instance : OpensE Tryd.prog 70 am := .page (tI := 3) (tL := 36) (by kernel_rfl)
instance : OpensE Tryd.prog 26 (List am) := .slice (e := 70) (by kernel_rfl) (by decide)
theorem ucn : jr Tryd.prog 28 [(0, 24, 1), (1, 25, 1), (2, 25, 1), (3, 26, 1)] 4 = true := by kernel_rfl
instance : OpensE Tryd.prog 28 af := .proofs (tT := 24) (tR := 25) (tP := 26) ucn
theorem u8OkL : uu Tryd.prog 5 .u8 = true := by kernel_rfl
theorem gSides : Tryd.prog.globalNamed "postil/proof.sides" = some 0 := by kernel_rfl
theorem tSides : (Tryd.prog.globals[0]?).map (·.type) = some 97 := by kernel_rfl
theorem uhr : Tryd.prog.underlying 97 = some (.array 2 96) := by kernel_rfl
theorem unx : Tryd.prog.cellsOf 97 = 6 := by kernel_rfl
theorem ufu : Tryd.prog.cellsOf 96 = 3 := by kernel_rfl
theorem ub3 : jr Tryd.prog 96 [(0, 92, 1), (1, 93, 1), (2, 94, 1)] 3 = true := by kernel_rfl
theorem ue3 : ∃ ps rs va, Tryd.prog.underlying 92 = some (.func ps rs va) := ual (by kernel_rfl)
theorem ue5 : ∃ ps rs va, Tryd.prog.underlying 93 = some (.func ps rs va) := ual (by kernel_rfl)
theorem ue4 : ∃ ps rs va, Tryd.prog.underlying 94 = some (.func ps rs va) := ual (by kernel_rfl)
theorem ubx {W : World} {m : Nat} {cs : List Value} {y : DataW (List UInt8) × List MemPlace} {d0 d1 d2 : DataW (List UInt8)} (hy : y.1 = .agg [d0, d1, d2])
  (h : DataW.trod (funcToken Tryd.prog) Tryd.prog W 0 (fun _ => true) true m 96 cs = some y) : ∃ v0 v1 v2, cs = [v0, v1, v2] ∧ (IsFunc v0 ∧ veil (funcToken Tryd.prog) 92 v0 = d0) ∧ (IsFunc v1 ∧ veil (funcToken Tryd.prog) 93 v1 = d1) ∧ (IsFunc v2 ∧ veil (funcToken Tryd.prog) 94 v2 = d2) := by
 obtain ⟨_, fs, he⟩ := vx ub3
 obtain ⟨xs, m', _, e1, hl, hlen, hf⟩ := DataW.trod_struct he h
 rw [ufu] at hl
 have hfs : fs.toList.map (fun f => (f.offset, f.type, Tryd.prog.cellsOf f.type)) = [(0, 92, 1), (1, 93, 1), (2, 94, 1)] := by
  have := ub3
  unfold jr at this
  rw [he] at this
  simp only [Bool.and_eq_true, beq_iff_eq] at this
  exact this.1
 obtain ⟨l⟩ := fs
 match l, hfs with
 | [f0, f1, f2], hfs =>
  simp only [List.map_cons, List.map_nil, List.cons.injEq, Prod.mk.injEq, and_true] at hfs
  obtain ⟨⟨a1, a2, a3⟩, ⟨b1, b2, b3⟩, ⟨c1, c2, c3⟩⟩ := hfs
  have h0 := hf 0 f0 rfl
  have h1 := hf 1 f1 rfl
  have h2 := hf 2 f2 rfl
  match cs, hl with
  | [u0, u1, u2], _ =>
   match xs, hlen with
   | [x0, x1, x2], _ =>
    subst e1
    simp only [List.map_cons, List.map_nil, DataW.agg.injEq, List.cons.injEq, and_true] at hy
    rw [a3, a1, a2] at h0
    rw [b3, b1, b2] at h1
    rw [c3, c1, c2] at h2
    obtain ⟨ps, rs, va, hu⟩ := ue3
    obtain ⟨ps', rs', va', hu'⟩ := ue5
    obtain ⟨ps2, rs2, va2, hu2⟩ := ue4
    obtain ⟨v0, q0, q1, q2⟩ := Go.RowKit.func_of_trod hu h0
    obtain ⟨v1, q3, q4, q5⟩ := Go.RowKit.func_of_trod hu' h1
    obtain ⟨v2, q6, q7, q8⟩ := Go.RowKit.func_of_trod hu2 h2
    have e0 : u0 = v0 := by simpa using q0
    have e1 : u1 = v1 := by simpa using q3
    have e2 : u2 = v2 := by simpa using q6
    subst e0; subst e1; subst e2
    have hx0 : x0 = (veil (funcToken Tryd.prog) 92 u0, []) := by simpa using q2
    have hx1 : x1 = (veil (funcToken Tryd.prog) 93 u1, []) := by simpa using q5
    have hx2 : x2 = (veil (funcToken Tryd.prog) 94 u2, []) := by simpa using q8
    subst hx0; subst hx1; subst hx2
    obtain ⟨k0, k1, k2⟩ := hy
    exact ⟨u0, u1, u2, rfl, ⟨q1, k0⟩, ⟨q4, k1⟩, ⟨q7, k2⟩⟩
 | [], hfs => exact absurd hfs (by simp)
 | [_], hfs => exact absurd hfs (by simp)
 | [_, _], hfs => exact absurd hfs (by simp)
 | _ :: _ :: _ :: _ :: _, hfs => exact absurd hfs (by simp)
theorem uil {W : World} (h : funcsAt Tryd.prog W "postil/proof.sides" (.agg [.agg [.iface "func" (.lit (.string [112, 111, 115, 116, 105, 108, 47, 112, 114, 111, 111, 102, 46, 115, 105, 100, 101, 115, 36, 49])), .iface "func" (.lit (.string [112, 111, 115, 116, 105, 108, 47, 112, 114, 111, 111, 102, 46, 115, 105, 100, 101, 115, 36, 50])), .iface "func" (.lit (.string [112, 111, 115, 116, 105, 108, 47, 112, 114, 111, 111, 102, 46, 115, 105, 100, 101, 115, 36, 51]))], .agg [.iface "func" (.lit (.string [112, 111, 115, 116, 105, 108, 47, 112, 114, 111, 111, 102, 46, 115, 105, 100, 101, 115, 36, 52])), .iface "func" (.lit (.string [112, 111, 115, 116, 105, 108, 47, 112, 114, 111, 111, 102, 46, 115, 105, 100, 101, 115, 36, 53])), .iface "func" (.lit (.string [112, 111, 115, 116, 105, 108, 47, 112, 114, 111, 111, 102, 46, 115, 105, 100, 101, 115, 36, 54]))]])) : R (j5 W) W (.elem sidL) (.pointer (some ⟨0, 0, none⟩)) := by
 obtain ⟨g, t, cs, fuel, p, hg, ht, hv, hd⟩ := h
 obtain rfl := Option.some.inj (gSides.symm.trans hg)
 obtain rfl := Option.some.inj (tSides.symm.trans ht)
 obtain ⟨xs, m, _, e1, hl, hn, hel⟩ := DataW.trod_array uhr hd
 rw [unx] at hl
 rw [ufu] at hel
 have hcell := fun i => World.var?_cell hg hv i
 obtain ⟨l⟩ := cs
 dsimp only at hl hel hcell
 match l, hl with
 | [u0, u1, u2, u3, u4, u5], _ =>
  match xs, hn with
  | [x0, x1], _ =>
   simp only [Prod.mk.injEq] at e1
   have e2 : (.agg [.agg [.held [112, 111, 115, 116, 105, 108, 47, 112, 114, 111, 111, 102, 46, 115, 105, 100, 101, 115, 36, 49], .held [112, 111, 115, 116, 105, 108, 47, 112, 114, 111, 111, 102, 46, 115, 105, 100, 101, 115, 36, 50], .held [112, 111, 115, 116, 105, 108, 47, 112, 114, 111, 111, 102, 46, 115, 105, 100, 101, 115, 36, 51]], .agg [.held [112, 111, 115, 116, 105, 108, 47, 112, 114, 111, 111, 102, 46, 115, 105, 100, 101, 115, 36, 52], .held [112, 111, 115, 116, 105, 108, 47, 112, 114, 111, 111, 102, 46, 115, 105, 100, 101, 115, 36, 53], .held [112, 111, 115, 116, 105, 108, 47, 112, 114, 111, 111, 102, 46, 115, 105, 100, 101, 115, 36, 54]]] : DataW (List UInt8)) = .agg [x0.1, x1.1] := e1.1
   simp only [DataW.agg.injEq, List.cons.injEq, and_true] at e2
   obtain ⟨a0, a1, a2, q0, ⟨a3, a4⟩, ⟨a5, a6⟩, ⟨a7, a8⟩⟩ := ubx e2.1.symm (hel 0 (by omega))
   obtain ⟨b0, b1, b2, q1, ⟨b3, b4⟩, ⟨b5, b6⟩, ⟨b7, b8⟩⟩ := ubx e2.2.symm (hel 1 (by omega))
   simp only [Nat.zero_mul, Nat.one_mul, List.drop_zero, List.drop_succ_cons, List.take_succ_cons, List.take_zero, List.cons.injEq, and_true] at q0 q1
   obtain ⟨rfl, rfl, rfl⟩ := q0
   obtain ⟨rfl, rfl, rfl⟩ := q1
   obtain ⟨ps, rs, va, hu⟩ := ue3
   obtain ⟨ps', rs', va', hu'⟩ := ue5
   obtain ⟨ps2, rs2, va2, hu2⟩ := ue4
   obtain rfl := sg (W := W) (f0 := 151) hu a3 a4 (by kernel_rfl)
   obtain rfl := sg (W := W) (f0 := 152) hu' a5 a6 (by kernel_rfl)
   obtain rfl := sg (W := W) (f0 := 153) hu2 a7 a8 (by kernel_rfl)
   obtain rfl := sg (W := W) (f0 := 154) hu b3 b4 (by kernel_rfl)
   obtain rfl := sg (W := W) (f0 := 155) hu' b5 b6 (by kernel_rfl)
   obtain rfl := sg (W := W) (f0 := 156) hu2 b7 b8 (by kernel_rfl)
   let L : List Value := [.func (.func 151) #[] #[], .func (.func 152) #[] #[], .func (.func 153) #[] #[], .func (.func 154) #[] #[], .func (.func 155) #[] #[], .func (.func 156) #[] #[]]
   refine um2 (by simp [sidL, ot]) (by intro c hc; simp only [sidL, ot, List.cons_append, List.nil_append, List.mem_cons, List.not_mem_nil, or_false] at hc; rcases hc with rfl | rfl | rfl | rfl | rfl | rfl <;> rfl) (fun j => L.getD j undef) (fun j hj => ?_) (fun j c hc => ?_)
   ·have := hcell j
    have hj' : j < 6 := hj
    rw [this]
    show (L.toArray)[j]? = _
    rw [List.getElem?_toArray, List.getD_eq_getElem?_getD, List.getElem?_eq_getElem (show j < L.length from hj')]
    rfl
   ·match j, hc with
    | 0, hc => cases hc; exact Rs.fn (vs := []) Rs.nil
    | 1, hc => cases hc; exact Rs.fn (vs := []) Rs.nil
    | 2, hc => cases hc; exact Rs.fn (vs := []) Rs.nil
    | 3, hc => cases hc; exact Rs.fn (vs := []) Rs.nil
    | 4, hc => cases hc; exact Rs.fn (vs := []) Rs.nil
    | 5, hc => cases hc; exact Rs.fn (vs := []) Rs.nil
abbrev ur : List (String × DataW Unit) := [("postil/proof.sides", Rows.laid_postil_proof_sides)]
set_option maxRecDepth 100000 in
/-- The door's own heap meets the condition. -/
theorem und (os : Os) (args : Array Value) : laidMetH Tryd.prog ur ((World.doorLaid Tryd.prog 600 os).forCall (fun _ _ => 0) ⟨#[], args, []⟩).memory :=
 laidMetH_of_parts3 (fuel := 8) (laidMet_of_run' 8 (by kernel_rfl) (by kernel_rfl)) (by kernel_rfl) (by kernel_rfl)
theorem uik {W : World} (h : laidMetH Tryd.prog ur W) : R (j5 W) W (.elem sidL) (.pointer (some ⟨0, 0, none⟩)) := uil (h.funcs (List.mem_cons_self ..))
end Go.Proofs.YtbbdginipiljdaaDoor
namespace Go.AB
open Go Go.RowKit Go.ChangeShapes Go.WideShapes
section
variable {H : Type} {enc : TypeId × Value → H} {P : Program} {w : World} {base : Nat} {spare : Nat → Bool} {held : Bool}
end
end Go.AB
