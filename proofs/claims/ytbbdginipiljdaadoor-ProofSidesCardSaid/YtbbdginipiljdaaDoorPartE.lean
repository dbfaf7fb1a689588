/-
  What the walks through the program rest on: values, states, steps, calls (RkTotal, RgSets, QpRef, QqRef, RlChief, SaAlive, PkGuess, SbFacts, SdSums, QsTwin, QsRef, AbNamedY, QtTwin, SnSides, OpenL, OpenW, OpenS, Trod).
-/
import Derived.Test.YtbbdginipiljdaaDoorPartD
import Derived.Test.YtbbdginipiljdaaDoorPartC
import Derived.Test.YtbbdginipiljdaaDoorPartB
import Derived.Test.YtbbdginipiljdaaDoorRows
import Derived.LaidMore
import Derived.RowKitVeiled
import Derived.Carry
namespace Go.AB
open Go Go.RowKit
open Go.AB.Enc (cells)
open Go.PB (ar ai PlaceD az bf ba bj am af ci bi cy c6)
theorem ug {p : af} {e : Int} (h : eo p e = 0) : e = 0 ∧ jc p = true := by
 by_cases h0 : e = 0
 ·subst h0
  rw [qn] at h
  cases ht : jc p
  ·rw [ht] at h; cases h
  exact ⟨rfl, rfl⟩
 rw [ud6 h0] at h; exact absurd h h0
end Go.AB
namespace Go.Proofs.YtbbdginipiljdaaDoor
set_option maxRecDepth 10000
open Go Go.RowKit Go.AB
open Go.AB.Enc (cells)
open Go.PB (ar ai PlaceD az bf ba bj am af ci bi cy c6)
theorem ugb {p : af} {n : Int} (h : d9 p n = 0) : fg p ∧ pgC p n = .elem (ky p) := ⟨(j9 (qx h).1).1, tr h⟩
theorem pt {p : af} (h : cc p = 0) : fg p ∧ jw p = .elem (ky p) := ⟨(j9 h).1, we h⟩
theorem tu (n : Nat) (p : af) (c : C) (e : Int) (h : e = 0 → fg p ∧ c = .elem (ky p)) (hE : eo p e = 0) : ff n fb Tryd.prog 53 [c, .v (.int .i64 e)] (.tup [val (f5 p (ck p) (dg p)), .v (.int .i64 0)]) := by
 have := ucw n p c e h
 rwa [hE, decide_eq_true rfl, cond_true] at this
theorem tv (n : Nat) (p : af) (c : C) (e : Int) (h : e = 0 → fg p ∧ c = .elem (ky p)) (hE : eo p e ≠ 0) : ff n fb Tryd.prog 53 [c, .v (.int .i64 e)] (.tup [.agg [.list [] .nil, .list [] .nil, .list [] .nil], .v (.int .i64 (eo p e))]) := by
 have := ucw n p c e h
 rwa [decide_eq_false hE, cond_false] at this
theorem zd (n : Nat) (p : af) (m : Int) : ff n fb Tryd.prog 32 [val p, .v (.int .i64 m)] (.tup [val (mf p m), .v (.int .i64 (eo p (d9 p m)))]) := fun G nx hF hnx => by
 refine iv (G) (nx) Tryd.func32 rfl (.tup (bx (ec _ _) (bx .v c7))) zN (fun hlt => zH) ?_
 simp only [Tryd.ntmps32, List.length_cons, List.length_nil, Nat.reduceAdd, Nat.reduceSub]
 refine br fun hlt => ?_
 dsimp only at hlt
 refine yS fun _ K1 => ?_
 refine yR ?_
 try dsimp only [St.put]
 refine yB rfl rfl rfl ?_
 try dsimp only [St.put]
 refine ae rfl (dd rfl ?_)
 refine yA rfl rfl ?_
 refine yN ?_
 dsimp only [St.put]
 refine K1 _ ?_
 refine yS fun _ K2 => ?_
 by_cases hL : eo p (d9 p m) = 0
 ·refine yR ?_
  refine yE rfl rfl rfl ?_
  refine yM rfl rfl ?_
  try dsimp only [St.put]
  refine ae rfl (dq rfl rfl rfl (rq n p m) zG (by dsimp only [St.put]; omega) ?_)
  refine yX rfl rfl rfl rfl ?_
  refine yX rfl rfl rfl rfl ?_
  try dsimp only [St.put]
  refine ae rfl (dq rfl rfl rfl (tu n p (pgC p m) (d9 p m) ugb hL) zG (by dsimp only [St.put]; omega) ?_)
  refine yM rfl rfl ?_
  refine yX rfl rfl rfl rfl ?_
  refine yX rfl rfl rfl rfl ?_
  try dsimp only [St.put]
  refine ae rfl (dd rfl ?_)
  try dsimp only [St.put]
  refine ae rfl (ct rfl rfl rfl zG rfl rfl (by rfl) ?_)
  refine yA rfl rfl ?_
  refine yN ?_
  dsimp only [St.put]
  refine K2 _ ?_
  refine yS fun _ K3 => ?_
  refine yS fun _ K4 => ?_
  refine yR ?_
  refine yM rfl rfl ?_
  refine aa rfl (fu rfl rfl rfl) ?_
  refine yN ?_
  dsimp only [St.put]
  refine K4 _ ?_
  refine av rfl (fun hc => ?_) (fun hc => ?_)
  ·exact absurd hc (by decide)
  obtain ⟨h0, hTB⟩ := ug hL
  obtain ⟨hc0, j, x, rfl, hx, hpo⟩ := qx h0
  obtain ⟨hok, _⟩ := j9 hc0
  have hV : mf p (j : Int) = ⟨0, (bn p).alone (ck p) (dg p) j⟩ := by unfold mf; rw [hL, p7, Int.toNat_natCast]
  refine ay ?_
  refine K3 _ ?_
  refine yS fun _ K5 => ?_
  refine yR ?_
  try dsimp only [St.put]
  refine bq rfl (ig rfl rfl zG trivial (by rfl)) ?_
  refine yM rfl rfl ?_
  try dsimp only [St.put]
  refine ae rfl (ax rfl rfl rfl (ucy p (ck p) (dg p) j x hok hx) ?_)
  refine aa rfl (gy rfl rfl) ?_
  try dsimp only [St.put]
  refine ae rfl (ct rfl rfl rfl zG rfl rfl (by rfl) ?_)
  refine yA rfl rfl ?_
  refine yN ?_
  dsimp only [St.put]
  refine K5 _ ?_
  refine aq ?_
  refine ia rfl (jv rfl zG (by rfl) zC rfl) (eb (by constructor)) zN zS ?_ ?_
  ·rw [hV]; exact zW
  rw [hL]; exact zW
 refine yR ?_
 refine yE rfl rfl rfl ?_
 refine yM rfl rfl ?_
 try dsimp only [St.put]
 refine ae rfl (dq rfl rfl rfl (rq n p m) zG (by dsimp only [St.put]; omega) ?_)
 refine yX rfl rfl rfl rfl ?_
 refine yX rfl rfl rfl rfl ?_
 try dsimp only [St.put]
 refine ae rfl (dq rfl rfl rfl (tv n p (pgC p m) (d9 p m) ugb hL) zG (by dsimp only [St.put]; omega) ?_)
 refine yM rfl rfl ?_
 refine yX rfl rfl rfl rfl ?_
 refine yX rfl rfl rfl rfl ?_
 try dsimp only [St.put]
 refine ae rfl (dd rfl ?_)
 try dsimp only [St.put]
 refine ae rfl (ct rfl rfl rfl zG rfl rfl (by rfl) ?_)
 refine yA rfl rfl ?_
 refine yN ?_
 dsimp only [St.put]
 refine K2 _ ?_
 refine yS fun _ K6 => ?_
 refine yS fun _ K7 => ?_
 refine yR ?_
 refine yM rfl rfl ?_
 refine aa rfl (fu rfl rfl rfl) ?_
 refine yN ?_
 dsimp only [St.put]
 refine K7 _ ?_
 refine av rfl (fun hc => ?_) (fun hc => ?_)
 ·have hV : mf p m = ⟨0, 0⟩ := by unfold mf; rw [l9 hL]
  refine yS fun _ K8 => ?_
  refine yR ?_
  refine aa rfl (gy rfl rfl) ?_
  refine yM rfl rfl ?_
  try dsimp only [St.put]
  refine ae rfl (ct rfl rfl rfl zG rfl rfl (by rfl) ?_)
  refine yA rfl rfl ?_
  refine yN ?_
  dsimp only [St.put]
  refine K8 _ ?_
  refine aq ?_
  refine ia rfl (jv rfl zG (by rfl) zC rfl) (eb (by constructor)) zN zS ?_ ?_
  ·rw [hV]; exact zW
  exact zW
 exact absurd (ii hc) hL
theorem zc (n : Nat) (p : af) : ff n fb Tryd.prog 31 [val p] (.tup [val (mn p), .v (.int .i64 (eo p (cc p)))]) := fun G nx hF hnx => by
 refine iv (G) (nx) Tryd.func31 rfl (.tup (bx (ec _ _) (bx .v c7))) zN (fun hlt => zH) ?_
 simp only [Tryd.ntmps31, List.length_cons, List.length_nil, Nat.reduceAdd, Nat.reduceSub]
 refine br fun hlt => ?_
 dsimp only at hlt
 refine yS fun _ K1 => ?_
 refine yR ?_
 try dsimp only [St.put]
 refine yB rfl rfl rfl ?_
 try dsimp only [St.put]
 refine ae rfl (dd rfl ?_)
 refine yA rfl rfl ?_
 refine yN ?_
 dsimp only [St.put]
 refine K1 _ ?_
 refine yS fun _ K2 => ?_
 by_cases hL : eo p (cc p) = 0
 ·refine yR ?_
  refine yE rfl rfl rfl ?_
  try dsimp only [St.put]
  refine ae rfl (dq rfl rfl rfl (ot n p) zG (by dsimp only [St.put]; omega) ?_)
  refine yX rfl rfl rfl rfl ?_
  refine yX rfl rfl rfl rfl ?_
  try dsimp only [St.put]
  refine ae rfl (dq rfl rfl rfl (tu n p (jw p) (cc p) pt hL) zG (by dsimp only [St.put]; omega) ?_)
  refine yM rfl rfl ?_
  refine yX rfl rfl rfl rfl ?_
  refine yX rfl rfl rfl rfl ?_
  try dsimp only [St.put]
  refine ae rfl (dd rfl ?_)
  try dsimp only [St.put]
  refine ae rfl (ct rfl rfl rfl zG rfl rfl (by rfl) ?_)
  refine yA rfl rfl ?_
  refine yN ?_
  dsimp only [St.put]
  refine K2 _ ?_
  refine yS fun _ K3 => ?_
  refine yS fun _ K4 => ?_
  refine yR ?_
  refine yM rfl rfl ?_
  refine aa rfl (fu rfl rfl rfl) ?_
  refine yN ?_
  dsimp only [St.put]
  refine K4 _ ?_
  refine av rfl (fun hc => ?_) (fun hc => ?_)
  ·exact absurd hc (by decide)
  obtain ⟨h0, hTB⟩ := ug hL
  obtain ⟨hok, _⟩ := j9 h0
  have hV : mn p = ⟨0, (bn p).most (ck p) (dg p)⟩ := by unfold mn; rw [hL, p7]; rfl
  refine ay ?_
  refine K3 _ ?_
  refine yS fun _ K5 => ?_
  refine yR ?_
  try dsimp only [St.put]
  refine bq rfl (ig rfl rfl zG trivial (by rfl)) ?_
  try dsimp only [St.put]
  refine ae rfl (ax rfl rfl rfl (tw p (ck p) (dg p) hok (uy hok)) ?_)
  refine aa rfl (gy rfl rfl) ?_
  try dsimp only [St.put]
  refine ae rfl (ct rfl rfl rfl zG rfl rfl (by rfl) ?_)
  refine yA rfl rfl ?_
  refine yN ?_
  dsimp only [St.put]
  refine K5 _ ?_
  refine aq ?_
  refine ia rfl (jv rfl zG (by rfl) zC rfl) (eb (by constructor)) zN zS ?_ ?_
  ·rw [hV]; exact zW
  rw [hL]; exact zW
 refine yR ?_
 refine yE rfl rfl rfl ?_
 try dsimp only [St.put]
 refine ae rfl (dq rfl rfl rfl (ot n p) zG (by dsimp only [St.put]; omega) ?_)
 refine yX rfl rfl rfl rfl ?_
 refine yX rfl rfl rfl rfl ?_
 try dsimp only [St.put]
 refine ae rfl (dq rfl rfl rfl (tv n p (jw p) (cc p) pt hL) zG (by dsimp only [St.put]; omega) ?_)
 refine yM rfl rfl ?_
 refine yX rfl rfl rfl rfl ?_
 refine yX rfl rfl rfl rfl ?_
 try dsimp only [St.put]
 refine ae rfl (dd rfl ?_)
 try dsimp only [St.put]
 refine ae rfl (ct rfl rfl rfl zG rfl rfl (by rfl) ?_)
 refine yA rfl rfl ?_
 refine yN ?_
 dsimp only [St.put]
 refine K2 _ ?_
 refine yS fun _ K6 => ?_
 refine yS fun _ K7 => ?_
 refine yR ?_
 refine yM rfl rfl ?_
 refine aa rfl (fu rfl rfl rfl) ?_
 refine yN ?_
 dsimp only [St.put]
 refine K7 _ ?_
 refine av rfl (fun hc => ?_) (fun hc => ?_)
 ·have hV : mn p = ⟨0, 0⟩ := by unfold mn; rw [l9 hL]
  refine yS fun _ K8 => ?_
  refine yR ?_
  refine aa rfl (gy rfl rfl) ?_
  refine yM rfl rfl ?_
  try dsimp only [St.put]
  refine ae rfl (ct rfl rfl rfl zG rfl rfl (by rfl) ?_)
  refine yA rfl rfl ?_
  refine yN ?_
  dsimp only [St.put]
  refine K8 _ ?_
  refine aq ?_
  refine ia rfl (jv rfl zG (by rfl) zC rfl) (eb (by constructor)) zN zS ?_ ?_
  ·rw [hV]; exact zW
  exact zW
 exact absurd (ii hc) hL
set_option maxHeartbeats 1000000 in
theorem uj8 (n0 : Nat) (p : af) : ff n0 fb Tryd.prog 37 [val p] (.tup [lst (qa p), .v (.int .i64 (eo p (cc p)))]) := fun G nx hF hnx => by
 refine iv (G) (nx) Tryd.func37 rfl (.tup (bx (bp _ _) (bx .v c7))) zN (fun hlt => zH) ?_
 simp only [Tryd.ntmps37, List.length_cons, List.length_nil, Nat.reduceAdd, Nat.reduceSub]
 refine br fun hlt => ?_
 dsimp only at hlt
 refine yS fun _ K1 => ?_
 refine yR ?_
 try dsimp only [St.put]
 refine yB rfl rfl rfl ?_
 refine yA rfl rfl ?_
 refine yA rfl rfl ?_
 refine yN ?_
 dsimp only [St.put]
 refine K1 _ ?_
 refine yS fun _ K2 => ?_
 by_cases hL : eo p (cc p) = 0
 ·refine yR ?_
  refine yE rfl rfl rfl ?_
  try dsimp only [St.put]
  refine ae rfl (dq rfl rfl rfl (ot n0 p) zG (by dsimp only [St.put]; omega) ?_)
  refine yX rfl rfl rfl rfl ?_
  refine yX rfl rfl rfl rfl ?_
  try dsimp only [St.put]
  refine ae rfl (dq rfl rfl rfl (tu n0 p (jw p) (cc p) pt hL) zG (by dsimp only [St.put]; omega) ?_)
  refine yM rfl rfl ?_
  refine yX rfl rfl rfl rfl ?_
  refine yX rfl rfl rfl rfl ?_
  try dsimp only [St.put]
  refine ae rfl (dd rfl ?_)
  try dsimp only [St.put]
  refine ae rfl (ct rfl rfl rfl zG rfl rfl (by rfl) ?_)
  refine yA rfl rfl ?_
  refine yN ?_
  dsimp only [St.put]
  refine K2 _ ?_
  refine yS fun _ K3 => ?_
  refine yS fun _ K4 => ?_
  refine yR ?_
  refine yM rfl rfl ?_
  refine aa rfl (fu rfl rfl rfl) ?_
  refine yN ?_
  dsimp only [St.put]
  refine K4 _ ?_
  refine av rfl (fun hc => ?_) (fun hc => ?_)
  ·exact absurd hc (by decide)
  obtain ⟨h0, hTB⟩ := ug hL
  obtain ⟨hok, _⟩ := j9 h0
  have hnp := hok.np
  have hV : qa p = co p.pages.length (jo p) := by unfold qa; rw [hL, p7]
  refine ay ?_
  refine K3 _ ?_
  refine yS fun _ K5 => ?_
  refine yR ?_
  refine yA rfl rfl ?_
  refine yN ?_
  dsimp only [St.put]
  refine K5 _ ?_
  refine qw 6 3 1 rfl (by decide) ?_
  dsimp only [List.set_cons_zero, List.set_cons_succ]
  refine yS fun _ K6 => ?_
  refine yS fun _ K7 => ?_
  refine yR ?_
  refine yF rfl rfl rfl rfl ?_
  refine yL rfl rfl rfl ?_
  refine aa rfl (bl rfl rfl (List.length_map _)) ?_
  refine yM rfl rfl ?_
  refine yN ?_
  dsimp only [St.put]
  refine K7 _ ?_
  refine bh ?_
  refine cr 25 ?_
  refine zQ ?_
  refine dl ((aj (aj G nx (.box (0 + 1) (cells (f5 p (rmR p 0) (rmC p 0))))) (nx + 1) (.tip (co 0 (jo p)).length 3 1))) zX ?_
  dsimp only
  refine dj (X := Nat) (fun i => i ≤ p.pages.length) (fun i => p.pages.length - i) (fun i => [(6, .list ((co i (jo p)).map cells) (.tip (nx + 1))), (7, .any), (8, .any), (9, .any), (24, .v (.int .i64 (i : Int)))]) (fun i G' => (aj (aj G nx (.box (i + 1) (cells (f5 p (rmR p i) (rmC p i))))) (nx + 1) (.tip (co i (jo p)).length 3 1))) 0 rfl ?_ ?_ ?_ ?_ ?_ ?_
  ·exact Nat.zero_le _
  ·exact zF
  ·exact zX
  ·rintro i hI
   exact zL
  ·rintro i hI
   exact zH
  rintro i hI
  dsimp only at hI ⊢
  refine yS fun _ K8 => ?_
  refine yR ?_
  refine aa rfl (cn rfl rfl rfl) ?_
  refine yN ?_
  dsimp only [St.put]
  refine K8 _ ?_
  refine yS fun _ K9 => ?_
  refine av rfl (fun hc => ?_) (fun hc => ?_)
  ·replace hc := of_decide_eq_true hc
   have hi : i < p.pages.length := by omega
   obtain ⟨x, hx⟩ : ∃ x, p.pages[i]? = some x := dm hi
   have hB := uce hok hTB (Nat.le_of_lt hi)
   have hP := uba hok hTB hi
   have hab := uok hB i
   have hmb := udp hB
   have hln := jq i (jo p)
   have hPn := hP.nn
   refine ay ?_
   refine K9 _ ?_
   refine yS fun _ K10 => ?_
   refine bh ?_
   refine yS fun _ K11 => ?_
   refine yR ?_
   refine yM rfl rfl ?_
   refine yA rfl rfl ?_
   refine yN ?_
   dsimp only [St.put]
   refine K11 _ ?_
   refine yS fun _ K12 => ?_
   refine gt [(0, none), (2, none), (3, none), (1, none), (4, none), (5, none), (6, none)] (fun i => [4].contains i) (fun i => [1, 4].contains i) (fun i => [3, 5, 6].contains i) [nx] (by kernel_rfl) (by kernel_rfl) ?_
   try dsimp only [St.put]
   refine aw rfl rfl rfl rfl (ig rfl rfl zG (by simp) (by rfl)) ?_
   try dsimp only [St.put]
   refine aw rfl rfl rfl rfl (ig rfl rfl zG (by simp) (by rfl)) ?_
   refine xM rfl rfl rfl rfl rfl ?_
   refine ja ?_
   try dsimp only [St.put]
   refine i9 rfl rfl rfl (ax rfl rfl rfl (tw p _ _ hok hB) ⟨zD, ?_⟩)
   try dsimp only [St.put]
   refine gd rfl rfl rfl rfl (ax rfl rfl rfl (ucy p (rmR p i) (rmC p i) i x hok hx) ?_)
   refine dz rfl rfl rfl rfl (f9 rfl (by constructor)) ?_
   refine dz rfl rfl rfl rfl (f9 rfl (by constructor)) ?_
   refine i7 ?_
   dsimp only [St.put]
   refine K12 _ ?_
   refine yS fun _ K13 => ?_
   refine bh ?_
   refine cr 25 ?_
   refine zQ ?_
   refine dj (X := Int) (fun n => FromTop p (rmR p i) (rmC p i) i n) (fun n => n.toNat) (fun n => [(9, .v (.int .i64 n))]) (fun n G' => G') ((bn p).alone (rmR p i) (rmC p i) i) rfl ?_ ?_ (fun _ _ h => h) ?_ ?_ ?_
   ·exact FromTop.start hP
   ·exact zF
   ·rintro n hI
    exact zL
   ·exact fun _ _ _ _ h => .inl h
   rintro n hF2
   dsimp only at hF2 ⊢
   have hF1 := hF2.1
   have hF3 := hF2.2.1
   have hBl := ua0 hB (by omega) hF2.2.1
   have hmb2 := udp hBl
   refine yS fun _ K14 => ?_
   refine yS fun _ K15 => ?_
   refine yR ?_
   refine yM rfl rfl ?_
   try dsimp only [St.put]
   refine bq rfl (ig rfl rfl zG trivial (by rfl)) ?_
   refine yM rfl rfl ?_
   refine yM rfl rfl ?_
   try dsimp only [St.put]
   refine ae rfl (ax rfl rfl rfl (zb p (rmR p i) (rmC p i) i x n hok hx (by have := hF2.1; have := hF2.2.1; omega) hB.r) ?_)
   try dsimp only [St.put]
   refine ae rfl (ax rfl rfl rfl (tw p _ _ hok (ua0 hB (by have := hF2.1; omega) hF2.2.1)) ?_)
   refine aa rfl (ce rfl rfl rfl (by omega)) ?_
   refine yM rfl rfl ?_
   refine aa rfl (cn rfl rfl rfl) ?_
   refine yN ?_
   dsimp only [St.put]
   refine K15 _ ?_
   refine av rfl (fun hc => ?_) (fun hc => ?_)
   ·replace hc := of_decide_eq_true hc
    have hnot : ¬ (bn p).most (rmR p i) (rmC p i) ≤ n + (bn p).most ((bn p).lessR (rmR p i) i n) (ed (rmC p i) i) := by omega
    refine ay ?_
    refine K14 _ ?_
    refine bh ?_
    refine yR ?_
    refine yM rfl rfl ?_
    refine aa rfl (iw rfl rfl rfl (by omega)) ?_
    refine yA rfl rfl ?_
    refine yN ?_
    dsimp only [St.put]
    have hd := FromTop.down hP hF2 hnot
    have hd1 := hd.1
    exact ⟨n - 1, by omega, hd, ⟨⟨rfl, rfl⟩, zF, zB, zN, zX⟩⟩
   replace hc := of_decide_eq_false hc
   have hnw := FromTop.stop hP hF2 (by omega)
   rw [← ubb] at hnw
   subst hnw
   refine dh ?_
   refine K13 _ ?_
   refine yS fun _ K16 => ?_
   refine yR ?_
   try dsimp only [St.put]
   refine bq rfl (ig rfl rfl zG trivial (by rfl)) ?_
   refine yM rfl rfl ?_
   refine yM rfl rfl ?_
   try dsimp only [St.put]
   refine ae rfl (ax rfl rfl rfl (zb p (rmR p i) (rmC p i) i x (jo p i) hok hx (by have := hF2.1; have := hF2.2.1; omega) hB.r) ?_)
   try dsimp only [St.put]
   refine ae rfl (ct rfl rfl rfl zG rfl rfl (by rfl) ?_)
   refine yN ?_
   dsimp only [St.put]
   refine K16 _ ?_
   refine yR ?_
   refine yM rfl rfl ?_
   refine yM rfl rfl ?_
   try dsimp only [St.put]
   refine ae rfl (dv rfl rfl rfl (by decide) (by decide) zR (by decide) ?_)
   try dsimp only [St.put]
   refine ae rfl (km ([jo p i]) rfl rfl zG zE rfl rfl zA ?_ zA)
   refine yA rfl rfl ?_
   refine yN ?_
   dsimp only [St.put]
   refine K10 _ ?_
   refine yR ?_
   refine aa rfl (ce rfl rfl rfl (by omega)) ?_
   refine yM rfl rfl ?_
   refine yN ?_
   dsimp only [St.put]
   have e := yi i (jo p)
   rw [← e]
   exact ⟨i + 1, by omega, by omega, ⟨⟨rfl, rfl⟩, zF, zB, zN, zX⟩⟩
  replace hc := of_decide_eq_false hc
  obtain rfl : i = p.pages.length := by omega
  refine dh ?_
  refine K6 _ ?_
  refine yS fun _ K17 => ?_
  refine yR ?_
  refine yM rfl rfl ?_
  refine yA rfl rfl ?_
  refine yA rfl rfl ?_
  refine yN ?_
  dsimp only [St.put]
  refine K17 _ ?_
  refine aq ?_
  refine ia rfl (eb (by constructor)) (eb (by constructor)) zN zS ?_ ?_
  ·rw [hV]; exact zW
  rw [hL]; exact zW
 refine yR ?_
 refine yE rfl rfl rfl ?_
 try dsimp only [St.put]
 refine ae rfl (dq rfl rfl rfl (ot n0 p) zG (by dsimp only [St.put]; omega) ?_)
 refine yX rfl rfl rfl rfl ?_
 refine yX rfl rfl rfl rfl ?_
 try dsimp only [St.put]
 refine ae rfl (dq rfl rfl rfl (tv n0 p (jw p) (cc p) pt hL) zG (by dsimp only [St.put]; omega) ?_)
 refine yM rfl rfl ?_
 refine yX rfl rfl rfl rfl ?_
 refine yX rfl rfl rfl rfl ?_
 try dsimp only [St.put]
 refine ae rfl (dd rfl ?_)
 try dsimp only [St.put]
 refine ae rfl (ct rfl rfl rfl zG rfl rfl (by rfl) ?_)
 refine yA rfl rfl ?_
 refine yN ?_
 dsimp only [St.put]
 refine K2 _ ?_
 refine yS fun _ K18 => ?_
 refine yS fun _ K19 => ?_
 refine yR ?_
 refine yM rfl rfl ?_
 refine aa rfl (fu rfl rfl rfl) ?_
 refine yN ?_
 dsimp only [St.put]
 refine K19 _ ?_
 refine av rfl (fun hc => ?_) (fun hc => ?_)
 ·have hV : qa p = [] := by unfold qa; rw [l9 hL]
  refine yS fun _ K20 => ?_
  refine yR ?_
  refine yM rfl rfl ?_
  refine yA rfl rfl ?_
  refine yA rfl rfl ?_
  refine yN ?_
  dsimp only [St.put]
  refine K20 _ ?_
  refine aq ?_
  refine ia rfl (eb (by constructor)) (eb (by constructor)) zN zS ?_ ?_
  ·rw [hV]; exact zW
  exact zW
 exact absurd (ii hc) hL
end Go.Proofs.YtbbdginipiljdaaDoor
namespace Go.Proofs.YtbbdginipiljdaaDoor
set_option maxRecDepth 10000
open Go Go.RowKit Go.AB
open Go.AB.Enc (cells)
open Go.PB (ar ai PlaceD az bf ba bj am af ci bi cy c6)
set_option maxHeartbeats 1000000 in
theorem uiv (nF : Nat) (n : Nat) (hb : n ≤ 8) : xx nF fb Tryd.prog 85 [.elem [.v (.int .i64 (n : Int))]] (2 ^ n) (fun s => [.v (.int .i64 (s : Int)), lst (et n s)]) := by
 refine uec Tryd.func85 rfl rfl fun I hN hcl ok hG hn => ?_
 simp only [Tryd.ntmps85, List.length_cons, List.length_nil, Nat.reduceAdd, Nat.reduceSub]
 have h256 : 2 ^ n ≤ 2 ^ 8 := Nat.pow_le_pow_right (by omega) hb
 refine lj 2 ?_
 refine zQ ?_
 refine pm ?_
 dsimp only [FC.st]
 refine br fun hlt => ?_
 dsimp only at hlt
 refine i5 ?_
 try dsimp only [St.put]
 first | refine bq rfl (ca rfl rfl) ?_ | refine bq rfl (ep rfl rfl (Enc.len _)) ?_ | refine bq rfl (ep rfl rfl rfl) ?_ | refine bq rfl (eg rfl rfl zG trivial (by first | rfl | assumption)) ?_ | refine bq rfl (ig rfl rfl zG trivial (by rfl)) ?_ | refine bq rfl (qc rfl rfl zG trivial (by simp)) ?_ | refine bq rfl (jg rfl rfl zG trivial (l4 (by assumption) rfl)) ?_ | refine bq rfl (jg rfl rfl zG trivial (by assumption)) ?_ | refine bq rfl (rk rfl rfl zG trivial rfl (by assumption) rfl (by decide)) ?_ | refine bq rfl (nj rfl rfl zG (by rfl)) ?_
 refine aa rfl (udi (n := n) rfl rfl rfl (by omega)) ?_
 refine aa rfl (gp rfl (by constructor)) ?_
 refine i6 ?_
 dsimp only [St.put]
 show ka _ _ _ _ _ _ _
 refine pn ok rfl ⟨rfl, rfl, zK, zN, zS, zK⟩ ?_
 refine sd ?_
 refine lj 9 ?_
 refine zQ ?_
 refine uak (X := Nat) (fun s => s ≤ 2 ^ n) (fun s => 2 ^ n - s) (fun s => [(3, .any), (4, .any), (5, .any), (8, .v (.int .i64 (s : Int)))]) (fun s => s) 0 rfl ?_ ?_ ?_ ?_ ?_
 ·exact Nat.zero_le _
 ·exact zF
 ·rfl
 ·rintro s hI
  exact zL
 ·rintro s hI
  dsimp only at hI ⊢
  refine lj 9 ?_
  refine zQ ?_
  refine pm ?_
  dsimp only [FC.st]
  refine br fun hlt => ?_
  dsimp only at hlt
  refine i5 ?_
  refine aa rfl (cn rfl rfl rfl) ?_
  refine i6 ?_
  dsimp only [St.put]
  show ka _ _ _ _ _ _ _
  refine pn ok rfl ⟨rfl, rfl, zK, zN, zS, zK⟩ ?_
  refine pk fun K1 hK1 => ?_
  refine ur rfl (fun hc => ?_) (fun hc => ?_)
  ·replace hc := of_decide_eq_true hc
   have hs : s < 2 ^ n := by omega
   refine uq ?_
   refine hK1 _ _ ?_
   refine pk fun K2 hK2 => ?_
   refine sd ?_
   refine lj 9 ?_
   refine zQ ?_
   refine pm ?_
   dsimp only [FC.st]
   refine br fun hlt => ?_
   dsimp only at hlt
   refine i5 ?_
   refine aa rfl (gp rfl (by constructor)) ?_
   refine aa rfl (f9 rfl (by constructor)) ?_
   refine i6 ?_
   dsimp only [St.put]
   show ka _ _ _ _ _ _ _
   refine xb ?_
   refine i5 ?_
   refine aa rfl (f9 rfl (by constructor)) ?_
   refine i6 ?_
   dsimp only [St.put]
   show ka _ _ _ _ _ _ _
   refine xb ?_
   refine qw 4 3 1 rfl (by decide) ?_
   dsimp only [List.set_cons_zero, List.set_cons_succ]
   refine qu fun K3 hK3 => ?_
   refine i5 ?_
   try dsimp only [St.put]
   first | refine bq rfl (ca rfl rfl) ?_ | refine bq rfl (ep rfl rfl (Enc.len _)) ?_ | refine bq rfl (ep rfl rfl rfl) ?_ | refine bq rfl (eg rfl rfl zG trivial (by first | rfl | assumption)) ?_ | refine bq rfl (ig rfl rfl zG trivial (by rfl)) ?_ | refine bq rfl (qc rfl rfl zG trivial (by simp)) ?_ | refine bq rfl (jg rfl rfl zG trivial (l4 (by assumption) rfl)) ?_ | refine bq rfl (jg rfl rfl zG trivial (by assumption)) ?_ | refine bq rfl (rk rfl rfl zG trivial rfl (by assumption) rfl (by decide)) ?_ | refine bq rfl (nj rfl rfl zG (by rfl)) ?_
   refine aa rfl (gp rfl (by constructor)) ?_
   refine i6 ?_
   dsimp only [St.put]
   refine hK3 _ ?_
   refine bh ?_
   refine cr 13 ?_
   refine zQ ?_
   refine dl ((aj (I.G s) I.nx (.tip (et 0 s).length 3 1))) zX ?_
   dsimp only
   refine dj (X := Nat) (fun k => k ≤ n) (fun k => n - k) (fun k => [(4, .list ((et k s).map cells) (.tip I.nx)), (5, .any), (12, .v (.int .i64 (k : Int)))]) (fun k G' => (aj (I.G s) I.nx (.tip (et k s).length 3 1))) 0 rfl ?_ ?_ ?_ ?_ ?_ ?_
   ·exact Nat.zero_le _
   ·exact zF
   ·exact zX
   ·rintro k hI
    exact zL
   ·rintro k hI
    exact zH
   ·rintro k hK
    dsimp only at hK ⊢
    refine qu fun K4 hK4 => ?_
    refine i5 ?_
    refine aa rfl (cn rfl rfl rfl) ?_
    refine i6 ?_
    dsimp only [St.put]
    refine hK4 _ ?_
    refine qu fun K5 hK5 => ?_
    refine av rfl (fun hc => ?_) (fun hc => ?_)
    ·replace hc := of_decide_eq_true hc
     have hml := uc k s
     refine ay ?_
     refine hK5 _ ?_
     refine qu fun K6 hK6 => ?_
     refine bh ?_
     refine qu fun K7 hK7 => ?_
     refine i5 ?_
     refine aa rfl (gp rfl (by constructor)) ?_
     refine aa rfl (f9 rfl (by constructor)) ?_
     refine i6 ?_
     dsimp only [St.put]
     refine hK7 _ ?_
     refine qu fun K8 hK8 => ?_
     refine i5 ?_
     refine aa rfl (gp rfl (by constructor)) ?_
     refine aa rfl (gp rfl (by constructor)) ?_
     refine aa rfl (zr (m := s) (n := k) rfl rfl rfl (by show k ≤ 64; omega) (by show (s : Int) ≤ 9223372036854775807; omega) (by decide)) ?_
     refine aa rfl (zz (m := s / 2 ^ k) rfl rfl rfl (Nat.lt_of_le_of_lt (Nat.div_le_self _ _) (by show s < 2 ^ 64; omega)) (by decide)) ?_
     refine aa rfl (fj rfl rfl rfl) ?_
     refine i6 ?_
     dsimp only [St.put]
     refine hK8 _ ?_
     refine av rfl (fun hc => ?_) (fun hc => ?_)
     ·have hb1 : s.testBit k = true := bit_eq.1 (of_decide_eq_true hc)
      refine i5 ?_
      refine aa rfl (gp rfl (by constructor)) ?_
      refine aa rfl (gp rfl (by constructor)) ?_
      try dsimp only [St.put]
      refine ae rfl (dv rfl rfl rfl (by decide) (by decide) zR (by decide) ?_)
      try dsimp only [St.put]
      refine ae rfl (km ([(k : Int)]) rfl rfl zG zE rfl rfl zA ?_ zA)
      refine aa rfl (f9 rfl (by constructor)) ?_
      refine i6 ?_
      dsimp only [St.put]
      refine hK6 _ ?_
      refine i5 ?_
      first | refine aa rfl (ce rfl rfl rfl (by omega)) ?_ | refine aa rfl (ub rfl rfl rfl) ?_
      refine aa rfl (gp rfl (by constructor)) ?_
      refine i6 ?_
      dsimp only [St.put]
      have e := udv k s
      first
      | (have q : s.testBit k = true := hb1
         rw [q, cond_true] at e
         rw [← e]
         exact ⟨k + 1, by omega, by omega, ⟨⟨rfl, rfl⟩, zF, zB, zN, zX⟩⟩)
      | (have q : s.testBit k = false := hb0
         rw [q, cond_false, List.append_nil] at e
         rw [← e]
         exact ⟨k + 1, by omega, by omega, ⟨⟨rfl, rfl⟩, zF, zB, zN, zX⟩⟩)
     ·have hb0 : s.testBit k = false := by
       have := of_decide_eq_false hc
       rw [bit_eq, Bool.not_eq_true] at this
       exact this
      refine ay ?_
      refine hK6 _ ?_
      refine i5 ?_
      first | refine aa rfl (ce rfl rfl rfl (by omega)) ?_ | refine aa rfl (ub rfl rfl rfl) ?_
      refine aa rfl (gp rfl (by constructor)) ?_
      refine i6 ?_
      dsimp only [St.put]
      have e := udv k s
      first
      | (have q : s.testBit k = true := hb1
         rw [q, cond_true] at e
         rw [← e]
         exact ⟨k + 1, by omega, by omega, ⟨⟨rfl, rfl⟩, zF, zB, zN, zX⟩⟩)
      | (have q : s.testBit k = false := hb0
         rw [q, cond_false, List.append_nil] at e
         rw [← e]
         exact ⟨k + 1, by omega, by omega, ⟨⟨rfl, rfl⟩, zF, zB, zN, zX⟩⟩)
    ·replace hc := of_decide_eq_false hc
     obtain rfl : k = n := by omega
     refine xp 4 (lst (et k s)) rfl Wk.tok ?_
     refine dh ?_
     show ka _ _ _ _ _ _ _
     refine pn ok rfl ⟨rfl, rfl, zK, zN, zS, zK⟩ ?_
     refine pk fun K9 hK9 => ?_
     refine uej ?_
     refine qp rfl (gp rfl (by constructor)) ?_
     refine qp rfl (gp rfl (by constructor)) ?_
     refine qp rfl (gp rfl (by constructor)) ?_
     try dsimp only [St.put]
     refine uem ok (by rw [hN]; exact hs) rfl rfl rfl rfl (by rw [hcl]; rfl) ?_
     refine qp rfl (d7 rfl rfl) ?_
     refine uen ?_
     dsimp only [St.put]
     refine hK9 _ _ ?_
     refine ur rfl (fun h => by cases h) (fun _ => ?_)
     refine uq ?_
     refine hK2 _ _ ?_
     refine lj 9 ?_
     refine zQ ?_
     refine uaj ok rfl ?_
     dsimp only [FC.st]
     refine br fun hlt => ?_
     dsimp only at hlt
     refine i5 ?_
     first | refine aa rfl (ce rfl rfl rfl (by omega)) ?_ | refine aa rfl (ub rfl rfl rfl) ?_
     refine aa rfl (gp rfl (by constructor)) ?_
     refine i6 ?_
     dsimp only [St.put]
     refine ⟨⟨rfl, rfl, zK, zN, zS, zK⟩, ?_⟩
     exact ⟨s + 1, by omega, by omega, rfl, ⟨⟨rfl, rfl⟩, zF, zB, zN, zX⟩⟩
  ·replace hc := of_decide_eq_false hc
   obtain rfl : s = 2 ^ n := by omega
   refine ual ?_
   exact ⟨.inl rfl, rfl⟩
end Go.Proofs.YtbbdginipiljdaaDoor
namespace Go.AB
open Go Go.RowKit
open Go.AB.Enc (cells)
open Go.PB (ar ai PlaceD az bf ba bj am af ci bi cy c6)
theorem un9 {so : Nat → Bool} {n k : Nat} : ((e8 so n k).getD []).length ≤ n := by
 rcases xo so n k with ⟨h, _⟩ | ⟨b, h, k⟩
 ·rw [h]; exact Nat.zero_le _
 rw [h]
 obtain ⟨s, _, _, rfl⟩ := k.get
 exact uc n s
theorem un7 {so : Nat → Bool} {n k : Nat} (h : so k = false) : e8 so n (k + 1) = e8 so n k := by
 cases hb : e8 so n k with
 | none => rw [ufz hb, h]; rfl
 | some b => rw [uax hb, h]; rfl
theorem uoa {so : Nat → Bool} {n k : Nat} (hb : e8 so n k = none) (h : so k = true) : e8 so n (k + 1) = some (et n k) := by rw [ufz hb, h]; rfl
theorem un8 {so : Nat → Bool} {n k : Nat} {b : List Int} (hb : e8 so n k = some b) (h : so k = true) : e8 so n (k + 1) = bif iy (et n k) b then some (et n k) else some b := by rw [uax hb, h]; rfl
theorem ubl {α : Type} {l : List α} {k : Nat} {x : α} (h : l[k]? = some x) : l.take (k + 1) = l.take k ++ [x] := by rw [List.take_add_one, h]; rfl
theorem uhc (p : af) (l : List Int) (z : Int) : oe p (l ++ [z]) = oe p l ++ bif decide (z < (p.firsts.length : Int)) then [z] else [] := by
 unfold oe
 rw [List.filter_append]
 cases h : decide (z < (p.firsts.length : Int)) <;> simp [h]
theorem ug9 (p : af) (l : List Int) (z : Int) : nh p (l ++ [z]) = nh p l ++ bif decide (z < (p.firsts.length : Int)) then [] else [z - (p.firsts.length : Int)] := by
 unfold nh
 rw [List.filter_append, List.map_append]
 cases h : decide (z < (p.firsts.length : Int)) <;> simp [h]
theorem uhd (p : af) (l : List Int) : (oe p l).length ≤ l.length := List.length_filter_le _ _
theorem uha (p : af) (l : List Int) : (nh p l).length ≤ l.length := by
 unfold nh
 rw [List.length_map]
 exact List.length_filter_le _ _
theorem uhb {p : af} {z : Int} (h : z ∈ g9 p) : 0 ≤ z ∧ z < (cb p : Int) := by
 unfold g9 m9 at h
 rcases xo (rg p) (cb p) (2 ^ cb p) with ⟨q, _⟩ | ⟨b, q, k⟩
 ·rw [q] at h; cases h
 rw [q] at h
 obtain ⟨s, _, _, rfl⟩ := k.get
 obtain ⟨i, rfl, hi, _⟩ := membersL_mem.1 h
 omega
end Go.AB
namespace Go.Proofs.YtbbdginipiljdaaDoor
set_option maxRecDepth 10000
open Go.RowKit Go.AB
open Go.AB.Enc (cells)
open Go.PB (ar ai PlaceD az bf ba bj am af ci bi cy c6)
end Go.Proofs.YtbbdginipiljdaaDoor
namespace Go.AB
open Go Go.RowKit
open Go.AB.Enc (cells)
open Go.PB (ar ai PlaceD az bf ba bj am af ci bi cy c6)
theorem un6 {so : Nat → Bool} {n k : Nat} {b : List Int} (hb : e8 so n k = some b) (h : iy (et n k) b = false) : e8 so n (k + 1) = some b := by rw [uax hb, h, Bool.and_false]; rfl
theorem uf3 {p : af} {R C : Nat → Int} (h : Bd p R C) (l : List Int) : Bd p R (lm C l) := ⟨h.r, fun j => by
 have := h.c j
 unfold lm
 cases decide ((j : Int) ∈ l)
 ·exact this
 exact ⟨Int.le_refl _, by show (0 : Int) ≤ 1000000; omega⟩, h.nr, h.np⟩
theorem unq {p : af} {m : Int} (h : cc p ≠ 0) : gw p m = cc p := by unfold gw; rw [decide_eq_false h]; rfl
theorem unp {p : af} {m : Int} (h : cc p = 0) (hm : m < 0) : gw p m = 2 := by unfold gw; rw [decide_eq_true h, decide_eq_true hm]; rfl
theorem unr {p : af} {m : Int} (h : cc p = 0) (hm : ¬ m < 0) (ht : jc p = false) : gw p m = 8 := by unfold gw; rw [decide_eq_true h, decide_eq_false hm, ht]; rfl
theorem uno {p : af} {m : Int} (h : cc p = 0) (hm : ¬ m < 0) (ht : jc p = true) : gw p m = 0 := by unfold gw; rw [decide_eq_true h, decide_eq_false hm, ht]; rfl
end Go.AB
namespace Go.Proofs.YtbbdginipiljdaaDoor
set_option maxRecDepth 10000
open Go.RowKit Go.AB
open Go.AB.Enc (cells)
open Go.PB (ar ai PlaceD az bf ba bj am af ci bi cy c6)
end Go.Proofs.YtbbdginipiljdaaDoor
namespace Go.AB
open Go Go.RowKit
open Go.AB.Enc (cells)
open Go.PB (ar ai PlaceD az bf ba bj am af ci bi cy c6)
/-- whether a set is taken, and how often one was -/
def lu (so : Nat → Bool) (n k : Nat) : Bool := so k && match e8 so n k with
 | none => true
 | some b => iy (et n k) b
def mo (so : Nat → Bool) (n : Nat) : Nat → Nat
 | 0 => 0
 | k + 1 => mo so n k + (lu so n k).toNat
theorem yf {so : Nat → Bool} {n k : Nat} (h : lu so n k = true) : e8 so n (k + 1) = some (et n k) ∧ mo so n (k + 1) = mo so n k + 1 := by
 refine ⟨?_, by show mo so n k + (lu so n k).toNat = _; rw [h]; rfl⟩
 unfold lu at h
 rw [Bool.and_eq_true] at h
 cases hb : e8 so n k with
 | none => exact uoa hb h.1
 | some b =>
  have h2 := h.2
  rw [hb] at h2
  have h3 : iy (et n k) b = true := h2
  rw [un8 hb h.1, h3]; rfl
theorem yg {so : Nat → Bool} {n k : Nat} (h : lu so n k = false) : e8 so n (k + 1) = e8 so n k ∧ mo so n (k + 1) = mo so n k := by
 refine ⟨?_, by show mo so n k + (lu so n k).toNat = _; rw [h]; rfl⟩
 unfold lu at h
 cases hs : so k
 ·exact un7 hs
 rw [hs, Bool.true_and] at h
 cases hb : e8 so n k with
 | none => rw [hb] at h; cases h
 | some b =>
  rw [hb] at h
  have h3 : iy (et n k) b = false := h
  rw [un6 hb h3]
theorem uhy {so : Nat → Bool} {n k : Nat} (h : so k = false) : lu so n k = false := by unfold lu; rw [h]; rfl
theorem uhz {so : Nat → Bool} {n k : Nat} (h : so k = true) (hb : e8 so n k = none) : lu so n k = true := by unfold lu; rw [h, hb]; rfl
theorem vm {so : Nat → Bool} {n k : Nat} {b : List Int} (h : so k = true) (hb : e8 so n k = some b) : lu so n k = iy (et n k) b := by unfold lu; rw [h, hb]; rfl
end Go.AB
namespace Go.Proofs.YtbbdginipiljdaaDoor
set_option maxRecDepth 10000
open Go Go.RowKit Go.AB
open Go.AB.Enc (cells)
open Go.PB (ar ai PlaceD az bf ba bj am af ci bi cy c6)
theorem ub1 (m : Nat) : Pure Tryd.prog 55 [.v (.int .i64 (m : Int))] (.fn (.func 85) [.elem [.v (.int .i64 (m : Int))]]) := by
 refine cz Tryd.func55 rfl (fun m => (.fn (bx (.elem (bx .v c7)) c7))) fun G nx => ?_
 simp only [Tryd.ntmps55, List.length_cons, List.length_nil, Nat.reduceAdd, Nat.reduceSub]
 refine br fun hlt => ?_
 dsimp only at hlt
 refine yS fun _ K1 => ?_
 refine yR ?_
 try dsimp only [St.put]
 refine yB rfl rfl rfl ?_
 refine yA rfl rfl ?_
 refine yN ?_
 dsimp only [St.put]
 refine K1 _ ?_
 refine yS fun _ K2 => ?_
 refine yR ?_
 refine aa rfl (qi rfl rfl) ?_
 refine yA rfl rfl ?_
 refine yN ?_
 dsimp only [St.put]
 refine K2 _ ?_
 refine aq ?_
 refine bg rfl (by constructor) zN zS ?_
 rfl
set_option maxHeartbeats 1000000 in
theorem ueu (n : Nat) (m : Nat) (so : Nat → Bool) (k0 : FuncId) (caps : List C) [Fun Tryd.prog k0] (hm : m ≤ 8) (hcl : ∀ N, ∀ c ∈ caps, C.low N c) (hso : ∀ s : Nat, s < 2 ^ m → AB.Pure Tryd.prog k0 (.v (.int .i64 (s : Int)) :: lst (et m s) :: caps) (.v (.bool (so s)))) : ff n fb Tryd.prog 54 [.fn (.func 85) [.elem [.v (.int .i64 (m : Int))]], .fn (.func k0) caps, .fn (.func 59) []] (lst (m9 so m)) := fun G nx hF hnx => by
 refine iv (G) (nx) Tryd.func54 rfl ((bp _ _)) zN (fun hlt => zH) ?_
 simp only [Tryd.ntmps54, List.length_cons, List.length_nil, Nat.reduceAdd, Nat.reduceSub]
 refine br fun hlt => ?_
 dsimp only at hlt
 refine yS fun _ K1 => ?_
 refine yR ?_
 try dsimp only [St.put]
 refine yB rfl rfl rfl ?_
 try dsimp only [St.put]
 refine yB rfl rfl rfl ?_
 refine yA rfl rfl ?_
 refine yN ?_
 dsimp only [St.put]
 refine K1 _ ?_
 refine yS fun _ K2 => ?_
 refine yR ?_
 try dsimp only [St.put]
 refine ae rfl (dd rfl ?_)
 refine yN ?_
 dsimp only [St.put]
 refine K2 _ ?_
 refine yS fun _ K3 => ?_
 refine yR ?_
 try dsimp only [St.put]
 refine ae rfl (dd rfl ?_)
 try dsimp only [St.put]
 refine ae rfl (ct rfl rfl rfl zG rfl rfl (by rfl) ?_)
 refine yN ?_
 dsimp only [St.put]
 refine K3 _ ?_
 refine yS fun _ K4 => ?_
 refine yS fun _ K5 => ?_
 refine xq nx 0 [lst ([] : List Int)] zG zW ?_
 refine yR ?_
 refine yM rfl rfl ?_
 refine yN ?_
 dsimp only [St.put]
 refine K5 _ ?_
 refine bh ?_
 refine cr 12 ?_
 refine zQ ?_
 refine dl ((aj (aj G nx (.box (mo so m 0) [lst ((e8 so m 0).getD [])])) (nx + 1) (.box (1 + mo so m 0) [.v (.bool (e8 so m 0).isSome)]))) zX ?_
 dsimp only
 refine uf5 [12, 13] (fun k => (aj (aj G nx (.box (mo so m k) [lst ((e8 so m k).getD [])])) (nx + 1) (.box (1 + mo so m k) [.v (.bool (e8 so m k).isSome)]))) (fun k => [(13, lst (et m k)), (12, .v (.int .i64 (k : Int)))]) (uiv n m hm) (fun k => zG) (by (try dsimp only); omega) rfl rfl (fun _ => rfl) ?_ ?_ ?_ (fun lr k hrk => ?_) ?_
 ·intro k
  rfl
 ·exact zX
 ·intro k
  exact zH
 ·have hbl := un9 (so := so) (n := m) (k := k)
  have hml := uc m k
  refine yS fun _ K6 => ?_
  refine yR ?_
  refine yA rfl rfl ?_
  refine yN ?_
  dsimp only [St.put]
  refine K6 _ ?_
  refine yR ?_
  refine yA rfl rfl ?_
  refine yN ?_
  dsimp only [St.put]
  show AW _ _ _ _ _
  refine bh ?_
  refine yS fun _ K7 => ?_
  refine yR ?_
  refine yL rfl rfl rfl ?_
  refine yM rfl rfl ?_
  refine yM rfl rfl ?_
  try dsimp only [St.put]
  refine ae rfl (ax rfl rfl rfl (hso k hrk) ?_)
  refine yM rfl rfl ?_
  refine eu (fun hs => ?_) (fun hs => ?_)
  ·have hw : so k = true := hs
   try dsimp only [St.put]
   refine bq rfl (eg rfl rfl zG trivial (by first | rfl | assumption)) ?_
   refine aa rfl (d7 rfl rfl) ?_
   refine yM rfl rfl ?_
   refine eu (fun hs => ?_) (fun hs => ?_)
   ·have hb0 : e8 so m k = none := by simpa using hs
    have htk := yf (uhz hw hb0)
    refine yK rfl ?_
    refine yK rfl ?_
    refine yK rfl ?_
    refine yK rfl ?_
    refine yK rfl ?_
    refine aa rfl (bu rfl rfl (by constructor)) ?_
    refine aa rfl (bu rfl rfl (by constructor)) ?_
    refine yN ?_
    dsimp only [St.put]
    refine K7 _ ?_
    refine av rfl (fun _ => ?_) (fun h => by cases h)
    first
    | (have hbf : iy (et m k) b = true := (vv _ _).symm.trans hc
       have htk := yf ((vm hw hb0).trans hbf))
    | skip
    refine yR ?_
    refine yM rfl rfl ?_
    try dsimp only [St.put]
    refine ae rfl (ct rfl rfl rfl zG rfl rfl (by rfl) ?_)
    try dsimp only [St.put]
    refine ae rfl (ct rfl rfl rfl zG rfl rfl (by rfl) ?_)
    refine yN ?_
    dsimp only [St.put]
    dsimp only [sx, vd]
    first
    | (rw [htk.1, htk.2]
       exact zX)
    | (rw [hke.1, hke.2]
       try rw [hb0]
       exact zX)
   obtain ⟨b, hb0⟩ : ∃ b, e8 so m k = some b := by
     cases hb : e8 so m k with
     | none => rw [hb] at hs; cases hs
     | some b => exact ⟨b, rfl⟩
   rw [hb0] at hbl
   rw [hb0]
   have hbl2 : b.length ≤ m := hbl
   refine yL rfl rfl rfl ?_
   refine yM rfl rfl ?_
   try dsimp only [St.put]
   refine bq rfl (eg rfl rfl zG trivial (by first | rfl | assumption)) ?_
   try dsimp only [St.put]
   refine ae rfl (ax rfl rfl rfl (ukf (et m k) b (by omega) (by omega)) ?_)
   refine aa rfl (cn rfl rfl rfl) ?_
   refine aa rfl (cm rfl rfl (by constructor)) ?_
   refine aa rfl (bu rfl rfl (by constructor)) ?_
   refine yN ?_
   dsimp only [St.put]
   refine K7 _ ?_
   refine av rfl (fun hc => ?_) (fun hc => ?_)
   ·first
    | (have hbf : iy (et m k) b = true := (vv _ _).symm.trans hc
       have htk := yf ((vm hw hb0).trans hbf))
    | skip
    refine yR ?_
    refine yM rfl rfl ?_
    try dsimp only [St.put]
    refine ae rfl (ct rfl rfl rfl zG rfl rfl (by rfl) ?_)
    try dsimp only [St.put]
    refine ae rfl (ct rfl rfl rfl zG rfl rfl (by rfl) ?_)
    refine yN ?_
    dsimp only [St.put]
    dsimp only [sx, vd]
    first
    | (rw [htk.1, htk.2]
       exact zX)
    | (rw [hke.1, hke.2]
       try rw [hb0]
       exact zX)
   first
   | (have hbf : iy (et m k) b = false := (vv _ _).symm.trans hc
      have hke := yg ((vm hw hb0).trans hbf))
   | skip
   refine ay ?_
   dsimp only [sx, vd]
   first
   | (rw [htk.1, htk.2]
      exact zX)
   | (rw [hke.1, hke.2]
      try rw [hb0]
      exact zX)
  have hw : so k = false := hs
  have hke := yg (uhy (n := m) hw)
  refine yK rfl ?_
  refine yK rfl ?_
  refine yK rfl ?_
  refine yK rfl ?_
  refine yK rfl ?_
  refine yK rfl ?_
  refine yK rfl ?_
  refine yK rfl ?_
  refine yK rfl ?_
  refine aa rfl (cm rfl rfl (by constructor)) ?_
  refine yN ?_
  dsimp only [St.put]
  refine K7 _ ?_
  refine av rfl (fun h => by cases h) (fun _ => ?_)
  first
  | (have hbf : iy (et m k) b = false := (vv _ _).symm.trans hc
     have hke := yg ((vm hw hb0).trans hbf))
  | skip
  refine ay ?_
  dsimp only [sx, vd]
  first
  | (rw [htk.1, htk.2]
     exact zX)
  | (rw [hke.1, hke.2]
     try rw [hb0]
     exact zX)
 dsimp only
 refine K4 _ ?_
 refine yS fun _ K8 => ?_
 refine yR ?_
 try dsimp only [St.put]
 refine bq rfl (eg rfl rfl zG trivial (by first | rfl | assumption)) ?_
 refine yA rfl rfl ?_
 refine yN ?_
 dsimp only [St.put]
 refine K8 _ ?_
 refine aq ?_
 refine bg rfl (by constructor) zN zS ?_
 rfl
theorem ukd (p : af) (R C : Nat → Int) (a : Int) (s : Nat) (l : List Int) (h : fg p) (hB : Bd p R C) (hs : s ≤ 1000) : Pure Tryd.prog 67 [.v (.int .i64 (s : Int)), lst l, .elem (cells (f5 p R C)), .elem [.v (.int .i64 a)]] (.v (.bool (decide ((bn p).f R C (fun i => s.testBit i) = a)))) := by
 refine cz Tryd.func67 rfl (fun m => .v) fun G nx => ?_
 simp only [Tryd.ntmps67, List.length_cons, List.length_nil, Nat.reduceAdd, Nat.reduceSub]
 refine br fun hlt => ?_
 dsimp only at hlt
 refine yS fun _ K1 => ?_
 refine yR ?_
 refine yA rfl rfl ?_
 refine yN ?_
 dsimp only [St.put]
 refine K1 _ ?_
 refine yS fun _ K2 => ?_
 refine gt [(0, none), (1, none), (3, none), (2, none), (4, none), (5, none)] (fun i => [].contains i) (fun i => [2].contains i) (fun i => [1, 4, 5].contains i) [] (by kernel_rfl) (by kernel_rfl) ?_
 try dsimp only [St.put]
 refine aw rfl rfl rfl rfl (ep rfl rfl (Enc.len _)) ?_
 refine xM rfl rfl rfl rfl rfl ?_
 try dsimp only [St.put]
 refine aw rfl rfl rfl rfl (ca rfl rfl) ?_
 refine ja ?_
 try dsimp only [St.put]
 refine i9 rfl rfl rfl (ax rfl rfl rfl (ucx p R C s h hB hs) ⟨zD, ?_⟩)
 refine dz rfl rfl rfl rfl (fj rfl rfl rfl) ?_
 refine dz rfl rfl rfl rfl (f9 rfl (by constructor)) ?_
 refine i7 ?_
 dsimp only [St.put]
 refine K2 _ ?_
 refine aq ?_
 refine bg rfl (by constructor) zN zS ?_
 rfl
theorem ukk (p : af) (m : Int) (s : Int) (l : List Int) (h : fg p) (hl : l.length ≤ 1000) (hm : ∀ z ∈ l, 0 ≤ z ∧ z < (p.pages.length : Int)) : Pure Tryd.prog 56 [.v (.int .i64 s), lst l, .elem (cells (f5 p (ck p) (dg p))), .elem [.v (.int .i64 m)]] (.v (.bool (decide (u9 p l ≤ m)))) := by
 refine cz Tryd.func56 rfl (fun m => .v) fun G nx => ?_
 simp only [Tryd.ntmps56, List.length_cons, List.length_nil, Nat.reduceAdd, Nat.reduceSub]
 refine br fun hlt => ?_
 dsimp only at hlt
 refine yS fun _ K1 => ?_
 refine yR ?_
 refine yA rfl rfl ?_
 refine yN ?_
 dsimp only [St.put]
 refine K1 _ ?_
 refine yS fun _ K2 => ?_
 refine yR ?_
 refine yE rfl rfl rfl ?_
 try dsimp only [St.put]
 refine ae rfl (dd rfl ?_)
 try dsimp only [St.put]
 refine ae rfl (ct rfl rfl rfl zG rfl rfl (by rfl) ?_)
 refine yN ?_
 dsimp only [St.put]
 rw [show cells (f5 p (ck p) (dg p)) = cells (f5 p (ck p) (lm (dg p) (l.take 0))) by rw [List.take_zero, ugs]]
 refine K2 _ ?_
 refine yS fun _ K3 => ?_
 refine yS fun _ K4 => ?_
 refine yR ?_
 refine yM rfl rfl ?_
 refine aa rfl (bl rfl rfl (List.length_map _)) ?_
 refine yM rfl rfl ?_
 refine yN ?_
 dsimp only [St.put]
 refine K4 _ ?_
 refine bh ?_
 refine cr 14 ?_
 refine zQ ?_
 refine dl ((aj G nx (.box (0 + 1) (cells (f5 p (ck p) (lm (dg p) (l.take 0))))))) zX ?_
 dsimp only
 refine dj (X := Nat) (fun k => k ≤ l.length) (fun k => l.length - k) (fun k => [(8, .any), (9, .any), (13, .v (.int .i64 (k : Int)))]) (fun k G' => (aj G nx (.box (k + 1) (cells (f5 p (ck p) (lm (dg p) (l.take k))))))) 0 rfl ?_ ?_ ?_ ?_ ?_ ?_
 ·exact Nat.zero_le _
 ·exact zF
 ·exact zX
 ·rintro k hI
  exact zL
 ·rintro k hI
  exact zH
 rintro k hI
 dsimp only at hI ⊢
 refine yS fun _ K5 => ?_
 refine yR ?_
 refine aa rfl (cn rfl rfl rfl) ?_
 refine yN ?_
 dsimp only [St.put]
 refine K5 _ ?_
 refine yS fun _ K6 => ?_
 refine av rfl (fun hc => ?_) (fun hc => ?_)
 ·replace hc := of_decide_eq_true hc
  obtain ⟨z0, hz0⟩ : ∃ z, l[k]? = some z := dm (by omega)
  have hzb := hm z0 (fw hz0)
  obtain ⟨j, rfl⟩ : ∃ j : Nat, z0 = (j : Int) := ⟨z0.toNat, by omega⟩
  have hz := hz0
  obtain ⟨x, hx⟩ : ∃ x, p.pages[j]? = some x := dm (by omega)
  have hB := uf3 (uy h) (l.take k)
  refine ay ?_
  refine K6 _ ?_
  refine yS fun _ K7 => ?_
  refine bh ?_
  refine yS fun _ K8 => ?_
  refine yR ?_
  refine aa rfl (bz rfl rfl rfl rfl (bw (by assumption)) (Enc.len _)) ?_
  refine yL rfl rfl rfl ?_
  refine yA rfl rfl ?_
  refine yN ?_
  dsimp only [St.put]
  refine K8 _ ?_
  refine yR ?_
  try dsimp only [St.put]
  refine bq rfl (ig rfl rfl zG trivial (by rfl)) ?_
  refine yM rfl rfl ?_
  try dsimp only [St.put]
  refine ae rfl (ax rfl rfl rfl (zb p (ck p) (lm (dg p) (l.take k)) j x 0 h hx (by omega) hB.r) ?_)
  try dsimp only [St.put]
  refine ae rfl (ct rfl rfl rfl zG rfl rfl (by rfl) ?_)
  refine yN ?_
  dsimp only [St.put]
  refine K7 _ ?_
  refine yR ?_
  refine aa rfl (ce rfl rfl rfl (by omega)) ?_
  refine yM rfl rfl ?_
  refine yN ?_
  dsimp only [St.put]
  rw [ulw, ← ugr, ← ubl hz]
  exact ⟨k + 1, by omega, by omega, ⟨⟨rfl, rfl⟩, zF, zB, zN, zX⟩⟩
 replace hc := of_decide_eq_false hc
 rw [gm (show l.length ≤ k by omega)]
 refine dh ?_
 refine K3 _ ?_
 refine yS fun _ K9 => ?_
 refine gt [(0, none), (2, none), (1, none), (3, none), (4, none)] (fun i => [].contains i) (fun i => [1].contains i) (fun i => [3, 4].contains i) [nx] (by kernel_rfl) (by kernel_rfl) ?_
 try dsimp only [St.put]
 refine aw rfl rfl rfl rfl (ig rfl rfl zG (by simp) (by rfl)) ?_
 try dsimp only [St.put]
 refine aw rfl rfl rfl rfl (ca rfl rfl) ?_
 refine ja ?_
 try dsimp only [St.put]
 refine i9 rfl rfl rfl (ax rfl rfl rfl (tw p (ck p) (lm (dg p) l) h (uf3 (uy h) l)) ⟨zD, ?_⟩)
 refine dz rfl rfl rfl rfl (t8 rfl rfl rfl) ?_
 refine dz rfl rfl rfl rfl (f9 rfl (by constructor)) ?_
 refine i7 ?_
 dsimp only [St.put]
 refine K9 _ ?_
 refine aq ?_
 refine bg rfl (by constructor) zN zS ?_
 rfl
theorem ucg (p : af) (R Q : Nat → Int) (a : Int) (N : Nat) : ∀ c ∈ [C.elem (cells (f5 p R Q)), C.elem [C.v (.int .i64 a)]], C.low N c := bx (fe _ _) (bx (.elem (bx .v c7)) c7)
set_option maxHeartbeats 1000000 in
theorem ukc (n : Nat) (p : af) : ff n fb Tryd.prog 38 [val p] (.tup [lst (atE (eo p (cc p)) [] (oe p (g9 p))), lst (atE (eo p (cc p)) [] (nh p (g9 p))), .v (.int .i64 (eo p (cc p)))]) := fun G nx hF hnx => by
 refine iv (G) (nx) Tryd.func38 rfl (.tup (bx (bp _ _) (bx (bp _ _) (bx .v c7)))) zN (fun hlt => zH) ?_
 simp only [Tryd.ntmps38, List.length_cons, List.length_nil, Nat.reduceAdd, Nat.reduceSub]
 refine br fun hlt => ?_
 dsimp only at hlt
 refine yS fun _ K1 => ?_
 refine yR ?_
 try dsimp only [St.put]
 refine yB rfl rfl rfl ?_
 refine yA rfl rfl ?_
 refine yA rfl rfl ?_
 refine yA rfl rfl ?_
 refine yN ?_
 dsimp only [St.put]
 refine K1 _ ?_
 refine yS fun _ K2 => ?_
 by_cases hL : eo p (cc p) = 0
 ·refine yR ?_
  refine yE rfl rfl rfl ?_
  try dsimp only [St.put]
  refine ae rfl (dq rfl rfl rfl (ot n p) zG (by dsimp only [St.put]; omega) ?_)
  refine yX rfl rfl rfl rfl ?_
  refine yX rfl rfl rfl rfl ?_
  try dsimp only [St.put]
  refine ae rfl (dq rfl rfl rfl (tu n p (jw p) (cc p) pt hL) zG (by dsimp only [St.put]; omega) ?_)
  refine yM rfl rfl ?_
  refine yX rfl rfl rfl rfl ?_
  refine yX rfl rfl rfl rfl ?_
  try dsimp only [St.put]
  refine ae rfl (dd rfl ?_)
  try dsimp only [St.put]
  refine ae rfl (ct rfl rfl rfl zG rfl rfl (by rfl) ?_)
  refine yA rfl rfl ?_
  refine yN ?_
  dsimp only [St.put]
  refine K2 _ ?_
  refine yS fun _ K3 => ?_
  refine yS fun _ K4 => ?_
  refine yR ?_
  refine yM rfl rfl ?_
  refine aa rfl (fu rfl rfl rfl) ?_
  refine yN ?_
  dsimp only [St.put]
  refine K4 _ ?_
  refine av rfl (fun hc => ?_) (fun hc => ?_)
  ·exact absurd hc (by decide)
  obtain ⟨h0, hTB⟩ := ug hL
  obtain ⟨hok, _⟩ := j9 h0
  have hn1 := hok.nf
  have hn2 := hok.ns
  have hnr : cb p = p.firsts.length + p.seconds.length := rfl
  have hl1 := jq (cb p) (ck p)
  have hB := uy hok
  have h64 : 2 ^ cb p ≤ 2 ^ 6 := Nat.pow_le_pow_right (by omega) (by omega)
  have hwl : (g9 p).length ≤ 6 := by
   have := uay (rg p) (cb p)
   show (m9 (rg p) (cb p)).length ≤ 6
   omega
  refine ay ?_
  refine K3 _ ?_
  refine yS fun _ K5 => ?_
  refine yR ?_
  try dsimp only [St.put]
  refine bq rfl (ig rfl rfl zG trivial (by rfl)) ?_
  try dsimp only [St.put]
  refine ae rfl (ax rfl rfl rfl (tw p (ck p) (dg p) hok hB) ?_)
  try dsimp only [St.put]
  refine ae rfl (dd rfl ?_)
  try dsimp only [St.put]
  refine ae rfl (ct rfl rfl rfl zG rfl rfl (by rfl) ?_)
  refine yN ?_
  dsimp only [St.put]
  refine K5 _ ?_
  refine fl (i := 5) rfl zG zC ?_
  refine fl (i := 6) rfl zG zC ?_
  dsimp only
  refine yS fun _ K6 => ?_
  refine yS fun _ K7 => ?_
  refine yR ?_
  refine yF rfl rfl rfl rfl ?_
  refine yL rfl rfl rfl ?_
  refine aa rfl (bl rfl rfl (List.length_map _)) ?_
  try dsimp only [St.put]
  refine ae rfl (ax rfl rfl rfl (ub1 (co (cb p) (ck p)).length) ?_)
  refine aa rfl (qi rfl rfl) ?_
  try dsimp only [St.put]
  refine ae rfl (dq rfl rfl rfl (ueu n (co (cb p) (ck p)).length (rg p) 67 [.elem (cells (f5 p (ck p) (dg p))), .elem [.v (.int .i64 ((bn p).most (ck p) (dg p)))]] (by rw [hl1]; omega) (ucg p _ _ _) (fun s hs => ukd p (ck p) (dg p) _ s _ hok hB (by rw [hl1] at hs; omega))) zG (by dsimp only [St.put]; omega) ?_)
  refine aa rfl (bl rfl rfl (List.length_map _)) ?_
  refine yM rfl rfl ?_
  refine yN ?_
  dsimp only [St.put]
  rw [hl1, show m9 (rg p) (cb p) = g9 p from rfl]
  refine K7 _ ?_
  refine qw 2 3 1 rfl (by decide) ?_
  refine qw 3 3 1 rfl (by decide) ?_
  dsimp only [List.set_cons_zero, List.set_cons_succ]
  refine bh ?_
  refine cr 30 ?_
  refine zQ ?_
  refine dl ((aj (aj G (nx + 1 + 1) (.tip (oe p ((g9 p).take 0)).length 3 1)) (nx + 1 + 1 + 1) (.tip (nh p ((g9 p).take 0)).length 3 1))) zX ?_
  dsimp only
  refine dj (X := Nat) (fun k => k ≤ (g9 p).length) (fun k => (g9 p).length - k) (fun k => [(2, .list ((oe p ((g9 p).take k)).map cells) (.tip (nx + 1 + 1))), (3, .list ((nh p ((g9 p).take k)).map cells) (.tip (nx + 1 + 1 + 1))), (8, .any), (29, .v (.int .i64 (k : Int)))]) (fun k G' => (aj (aj G (nx + 1 + 1) (.tip (oe p ((g9 p).take k)).length 3 1)) (nx + 1 + 1 + 1) (.tip (nh p ((g9 p).take k)).length 3 1))) 0 rfl ?_ ?_ ?_ ?_ ?_ ?_
  ·exact Nat.zero_le _
  ·exact zF
  ·exact zX
  ·rintro k hI
   exact zL
  ·rintro k hI
   exact zH
  rintro k hK
  dsimp only at hK ⊢
  refine yS fun _ K8 => ?_
  refine yR ?_
  refine aa rfl (cn rfl rfl rfl) ?_
  refine yN ?_
  dsimp only [St.put]
  refine K8 _ ?_
  refine yS fun _ K9 => ?_
  refine av rfl (fun hc => ?_) (fun hc => ?_)
  ·replace hc := of_decide_eq_true hc
   obtain ⟨z, hz⟩ : ∃ z, (g9 p)[k]? = some z := dm (by omega)
   have hzb := uhb (fw hz)
   have hF3 := uhc p ((g9 p).take k) z
   have hS3 := ug9 p ((g9 p).take k) z
   rw [← ubl hz] at hF3 hS3
   have hlF := uhd p ((g9 p).take k)
   have hlS := uha p ((g9 p).take k)
   have hlt2 : ((g9 p).take k).length ≤ 6 := by rw [List.length_take]; omega
   refine ay ?_
   refine K9 _ ?_
   refine yS fun _ K10 => ?_
   refine bh ?_
   refine yS fun _ K11 => ?_
   refine yR ?_
   refine aa rfl (bz rfl rfl rfl rfl (bw (by assumption)) (Enc.len _)) ?_
   refine yL rfl rfl rfl ?_
   refine yA rfl rfl ?_
   refine yN ?_
   dsimp only [St.put]
   refine K11 _ ?_
   refine yS fun _ K12 => ?_
   refine yR ?_
   refine yM rfl rfl ?_
   refine yF rfl rfl rfl rfl ?_
   refine yL rfl rfl rfl ?_
   refine aa rfl (bl rfl rfl (List.length_map _)) ?_
   refine aa rfl (cn rfl rfl rfl) ?_
   refine yN ?_
   dsimp only [St.put]
   refine K12 _ ?_
   refine av rfl (fun hc => ?_) (fun hc => ?_)
   ·have hyes := of_decide_eq_true hc
    refine yR ?_
    refine yM rfl rfl ?_
    refine yM rfl rfl ?_
    try dsimp only [St.put]
    refine ae rfl (dv rfl rfl rfl (by decide) (by decide) zR (by decide) ?_)
    try dsimp only [St.put]
    refine ae rfl (km ([z]) rfl rfl zG zE rfl rfl zA ?_ zA)
    refine yA rfl rfl ?_
    refine yN ?_
    dsimp only [St.put]
    refine K10 _ ?_
    refine yR ?_
    refine aa rfl (ce rfl rfl rfl (by omega)) ?_
    refine yM rfl rfl ?_
    refine yN ?_
    dsimp only [St.put]
    first
    | (have hy2 : z < (p.firsts.length : Int) := hyes
       rw [decide_eq_true hy2, cond_true] at hF3 hS3
       rw [List.append_nil] at hS3
       simp only [← hF3]
       rw [← hS3]
       exact ⟨k + 1, by omega, by omega, ⟨⟨rfl, rfl⟩, zF, zB, zN, zX⟩⟩)
    | (have hy2 : ¬ z < (p.firsts.length : Int) := hno
       rw [decide_eq_false hy2, cond_false] at hF3 hS3
       rw [List.append_nil] at hF3
       simp only [← hS3]
       rw [← hF3]
       exact ⟨k + 1, by omega, by omega, ⟨⟨rfl, rfl⟩, zF, zB, zN, zX⟩⟩)
   have hno := of_decide_eq_false hc
   refine yR ?_
   refine yM rfl rfl ?_
   refine yM rfl rfl ?_
   refine yF rfl rfl rfl rfl ?_
   refine yL rfl rfl rfl ?_
   refine aa rfl (bl rfl rfl (List.length_map _)) ?_
   refine aa rfl (iw rfl rfl rfl (by omega)) ?_
   try dsimp only [St.put]
   refine ae rfl (dv rfl rfl rfl (by decide) (by decide) zR (by decide) ?_)
   try dsimp only [St.put]
   refine ae rfl (km ([z - (p.firsts.length : Int)]) rfl rfl zG zE rfl rfl zA ?_ zA)
   refine yA rfl rfl ?_
   refine yN ?_
   dsimp only [St.put]
   refine K10 _ ?_
   refine yR ?_
   refine aa rfl (ce rfl rfl rfl (by omega)) ?_
   refine yM rfl rfl ?_
   refine yN ?_
   dsimp only [St.put]
   first
   | (have hy2 : z < (p.firsts.length : Int) := hyes
      rw [decide_eq_true hy2, cond_true] at hF3 hS3
      rw [List.append_nil] at hS3
      simp only [← hF3]
      rw [← hS3]
      exact ⟨k + 1, by omega, by omega, ⟨⟨rfl, rfl⟩, zF, zB, zN, zX⟩⟩)
   | (have hy2 : ¬ z < (p.firsts.length : Int) := hno
      rw [decide_eq_false hy2, cond_false] at hF3 hS3
      rw [List.append_nil] at hF3
      simp only [← hS3]
      rw [← hF3]
      exact ⟨k + 1, by omega, by omega, ⟨⟨rfl, rfl⟩, zF, zB, zN, zX⟩⟩)
  replace hc := of_decide_eq_false hc
  refine dh ?_
  refine K6 _ ?_
  refine yS fun _ K13 => ?_
  refine yR ?_
  refine yM rfl rfl ?_
  refine yM rfl rfl ?_
  refine yA rfl rfl ?_
  refine yA rfl rfl ?_
  refine yA rfl rfl ?_
  refine yN ?_
  dsimp only [St.put]
  refine K13 _ ?_
  refine aq ?_
  refine ue3 rfl (eb (by constructor)) (eb (by constructor)) (eb (by constructor)) zN zS ?_ ?_ ?_
  ·rw [hL, p7, gm (show (g9 p).length ≤ k by omega)]; exact zW
  ·rw [hL, p7, gm (show (g9 p).length ≤ k by omega)]; exact zW
  rw [hL]; exact zW
 refine yR ?_
 refine yE rfl rfl rfl ?_
 try dsimp only [St.put]
 refine ae rfl (dq rfl rfl rfl (ot n p) zG (by dsimp only [St.put]; omega) ?_)
 refine yX rfl rfl rfl rfl ?_
 refine yX rfl rfl rfl rfl ?_
 try dsimp only [St.put]
 refine ae rfl (dq rfl rfl rfl (tv n p (jw p) (cc p) pt hL) zG (by dsimp only [St.put]; omega) ?_)
 refine yM rfl rfl ?_
 refine yX rfl rfl rfl rfl ?_
 refine yX rfl rfl rfl rfl ?_
 try dsimp only [St.put]
 refine ae rfl (dd rfl ?_)
 try dsimp only [St.put]
 refine ae rfl (ct rfl rfl rfl zG rfl rfl (by rfl) ?_)
 refine yA rfl rfl ?_
 refine yN ?_
 dsimp only [St.put]
 refine K2 _ ?_
 refine yS fun _ K14 => ?_
 refine yS fun _ K15 => ?_
 refine yR ?_
 refine yM rfl rfl ?_
 refine aa rfl (fu rfl rfl rfl) ?_
 refine yN ?_
 dsimp only [St.put]
 refine K15 _ ?_
 refine av rfl (fun hc => ?_) (fun hc => ?_)
 ·try replace hc := of_decide_eq_true hc
  refine yS fun _ K16 => ?_
  refine yR ?_
  refine yM rfl rfl ?_
  refine yA rfl rfl ?_
  refine yA rfl rfl ?_
  refine yA rfl rfl ?_
  refine yN ?_
  dsimp only [St.put]
  refine K16 _ ?_
  refine aq ?_
  refine ue3 rfl (eb (by constructor)) (eb (by constructor)) (eb (by constructor)) zN zS ?_ ?_ ?_
  ·rw [l9 hL]; exact zW
  ·rw [l9 hL]; exact zW
  exact zW
 exact absurd (ii hc) hL
set_option maxHeartbeats 1000000 in
theorem zg (n : Nat) (p : af) (m : Int) : ff n fb Tryd.prog 26 [val p, .v (.int .i64 m)] (.tup [lst (i0 p m), .v (.int .i64 (gw p m))]) := fun G nx hF hnx => by
 refine iv (G) (nx) Tryd.func26 rfl (.tup (bx (bp _ _) (bx .v c7))) zN (fun hlt => zH) ?_
 simp only [Tryd.ntmps26, List.length_cons, List.length_nil, Nat.reduceAdd, Nat.reduceSub]
 refine br fun hlt => ?_
 dsimp only at hlt
 refine yS fun _ K1 => ?_
 refine yR ?_
 try dsimp only [St.put]
 refine yB rfl rfl rfl ?_
 try dsimp only [St.put]
 refine yB rfl rfl rfl ?_
 refine yA rfl rfl ?_
 refine yA rfl rfl ?_
 refine yN ?_
 dsimp only [St.put]
 refine K1 _ ?_
 refine yS fun _ K2 => ?_
 refine yR ?_
 refine yE rfl rfl rfl ?_
 try dsimp only [St.put]
 refine ae rfl (dq rfl rfl rfl (ot n p) zG (by dsimp only [St.put]; omega) ?_)
 refine yM rfl rfl ?_
 refine yX rfl rfl rfl rfl ?_
 refine yX rfl rfl rfl rfl ?_
 refine yA rfl rfl ?_
 refine yA rfl rfl ?_
 refine yN ?_
 dsimp only [St.put]
 refine K2 _ ?_
 refine yS fun _ K3 => ?_
 refine yS fun _ K4 => ?_
 refine yR ?_
 refine yM rfl rfl ?_
 refine aa rfl (fu rfl rfl rfl) ?_
 refine yN ?_
 dsimp only [St.put]
 refine K4 _ ?_
 refine av rfl (fun hc => ?_) (fun hc => ?_)
 ·have h0 : cc p ≠ 0 := j8 hc
  have hE : gw p m = cc p := unq h0
  have hV : i0 p m = [] := by unfold i0; rw [hE, l9 h0]
  refine yS fun _ K5 => ?_
  refine yR ?_
  refine yM rfl rfl ?_
  refine yA rfl rfl ?_
  refine yA rfl rfl ?_
  refine yN ?_
  dsimp only [St.put]
  refine K5 _ ?_
  refine aq ?_
  refine ia rfl (eb (by constructor)) (eb (by constructor)) zN zS ?_ ?_
  ·rw [hV]; exact zW
  rw [hE]; exact zW
 have h0 : cc p = 0 := ii hc
 obtain ⟨hok, _⟩ := j9 h0
 have hnp := hok.np
 refine ay ?_
 refine K3 _ ?_
 refine yS fun _ K6 => ?_
 refine yS fun _ K7 => ?_
 refine yR ?_
 refine yL rfl rfl rfl ?_
 refine aa rfl (cn rfl rfl rfl) ?_
 refine yN ?_
 dsimp only [St.put]
 refine K7 _ ?_
 refine av rfl (fun hc => ?_) (fun hc => ?_)
 ·have hm : m < 0 := of_decide_eq_true hc
  have hE : gw p m = 2 := unp h0 hm
  have hV : i0 p m = [] := by unfold i0; rw [hE, l9 (by decide)]
  refine yS fun _ K8 => ?_
  refine yR ?_
  refine yA rfl rfl ?_
  refine yA rfl rfl ?_
  refine yN ?_
  dsimp only [St.put]
  refine K8 _ ?_
  refine aq ?_
  refine ia rfl (eb (by constructor)) (eb (by constructor)) zN zS ?_ ?_
  ·rw [hV]; exact zW
  rw [hE]; exact zW
 have hm : ¬ m < 0 := of_decide_eq_false hc
 refine ay ?_
 refine K6 _ ?_
 refine yS fun _ K9 => ?_
 by_cases hL : eo p (cc p) = 0
 ·refine yR ?_
  refine yM rfl rfl ?_
  refine yM rfl rfl ?_
  try dsimp only [St.put]
  refine ae rfl (dq rfl rfl rfl (tu n p (jw p) (cc p) pt hL) zG (by dsimp only [St.put]; omega) ?_)
  refine yM rfl rfl ?_
  refine yX rfl rfl rfl rfl ?_
  refine yX rfl rfl rfl rfl ?_
  try dsimp only [St.put]
  refine ae rfl (dd rfl ?_)
  try dsimp only [St.put]
  refine ae rfl (ct rfl rfl rfl zG rfl rfl (by rfl) ?_)
  refine yA rfl rfl ?_
  refine yN ?_
  dsimp only [St.put]
  refine K9 _ ?_
  refine fl (i := 8) rfl zG zC ?_
  dsimp only
  refine yS fun _ K10 => ?_
  refine yS fun _ K11 => ?_
  refine yR ?_
  refine yM rfl rfl ?_
  refine aa rfl (fu rfl rfl rfl) ?_
  refine yN ?_
  dsimp only [St.put]
  refine K11 _ ?_
  refine av rfl (fun hc => ?_) (fun hc => ?_)
  ·exact absurd hc (by decide)
  have hTB := (ug hL).2
  have hE : gw p m = 0 := uno h0 hm hTB
  have hV : i0 p m = m9 (n5 p m) p.pages.length := by unfold i0; rw [hE, p7]
  refine ay ?_
  refine K10 _ ?_
  refine yS fun _ K12 => ?_
  refine yR ?_
  refine yF rfl rfl rfl rfl ?_
  refine yL rfl rfl rfl ?_
  refine aa rfl (bl rfl rfl (List.length_map _)) ?_
  try dsimp only [St.put]
  refine ae rfl (ax rfl rfl rfl (ub1 p.pages.length) ?_)
  refine aa rfl (qi rfl rfl) ?_
  try dsimp only [St.put]
  refine ae rfl (dq rfl rfl rfl (ueu n p.pages.length (n5 p m) 56 [.elem (cells (f5 p (ck p) (dg p))), .elem [.v (.int .i64 m)]] hnp (ucg p _ _ _) (fun s _ => ukk p m s _ hok (by have := uc p.pages.length s; omega) (fun z hz => by obtain ⟨i, rfl, hi, _⟩ := membersL_mem.1 hz; omega))) zG (by dsimp only [St.put]; omega) ?_)
  refine yA rfl rfl ?_
  refine yA rfl rfl ?_
  refine yN ?_
  dsimp only [St.put]
  refine K12 _ ?_
  refine aq ?_
  refine ia rfl (eb (by constructor)) (eb (by constructor)) zN zS ?_ ?_
  ·rw [hV]; exact zW
  rw [hE]; exact zW
 refine yR ?_
 refine yM rfl rfl ?_
 refine yM rfl rfl ?_
 try dsimp only [St.put]
 refine ae rfl (dq rfl rfl rfl (tv n p (jw p) (cc p) pt hL) zG (by dsimp only [St.put]; omega) ?_)
 refine yM rfl rfl ?_
 refine yX rfl rfl rfl rfl ?_
 refine yX rfl rfl rfl rfl ?_
 try dsimp only [St.put]
 refine ae rfl (dd rfl ?_)
 try dsimp only [St.put]
 refine ae rfl (ct rfl rfl rfl zG rfl rfl (by rfl) ?_)
 refine yA rfl rfl ?_
 refine yN ?_
 dsimp only [St.put]
 refine K9 _ ?_
 refine fl (i := 8) rfl zG zC ?_
 dsimp only
 refine yS fun _ K13 => ?_
 refine yS fun _ K14 => ?_
 refine yR ?_
 refine yM rfl rfl ?_
 refine aa rfl (fu rfl rfl rfl) ?_
 refine yN ?_
 dsimp only [St.put]
 refine K14 _ ?_
 refine av rfl (fun hc => ?_) (fun hc => ?_)
 ·have hTB : jc p = false := by
   cases h : jc p
   ·rfl
   exact absurd (by rw [h0, qn, h]; rfl) hL
  have hE : gw p m = 8 := unr h0 hm hTB
  have hV : i0 p m = [] := by unfold i0; rw [hE, l9 (by decide)]
  have hL8 : eo p (cc p) = 8 := by rw [h0, qn, hTB]; rfl
  refine yS fun _ K15 => ?_
  refine yR ?_
  refine yM rfl rfl ?_
  refine yA rfl rfl ?_
  refine yA rfl rfl ?_
  refine yN ?_
  dsimp only [St.put]
  refine K15 _ ?_
  refine aq ?_
  refine ia rfl (eb (by constructor)) (eb (by constructor)) zN zS ?_ ?_
  ·rw [hV]; exact zW
  rw [hE, hL8]; exact zW
 exact absurd (ii hc) hL
end Go.Proofs.YtbbdginipiljdaaDoor
namespace Go.AB
open Go Go.RowKit
open Go.AB.Enc (cells)
open Go.PB (ar ai PlaceD az bf ba bj am af ci bi cy c6)
def rm (p : af) : Bool := !l3 p && decide (cc p = 0)
section
variable {P : Program} {o : Oper} {st : St} {K : St → Prop}
/-- What stands in a slot is known less well, ahead of an operation. -/
theorem e_wk (i : Nat) {c : C} (c' : C) (h0 : st.at i = c) (hw : Wk c c') (h : EStep P o { st with r := (i, c') :: st.r } K) : EStep P o st K := by
 intro E w a hs
 have hp := hs.at i
 rw [h0] at hp
 refine h E w a ⟨hs.d, hs.sz, fun j v hj => ?_, hs.g⟩
 simp only [bk]
 cases hb : Nat.beq i j
 ·exact hs.t j v hj
 have hij := Nat.eq_of_beq_eq_true hb
 subst hij
 have hv : a.tmps.getD i undef = v := by rw [Array.getD_eq_getD_getElem?, hj]; rfl
 rw [hv] at hp
 exact hw.2 _ _ _ hp
end
theorem me {α : Type} [Enc α] (l : List α) : ∀ r ∈ l.map cells, r.length = Enc.n α := fun r hr => by
 obtain ⟨y, _, rfl⟩ := List.mem_map.1 hr
 exact Enc.len y
theorem readyP_true {p : af} : rm p = true ↔ l3 p = false ∧ cc p = 0 := by simp [rm]
end Go.AB
namespace Go.Proofs.YtbbdginipiljdaaDoor
set_option maxRecDepth 10000
open Go Go.RowKit Go.AB
open Go.AB.Enc (cells)
open Go.PB (ar ai PlaceD az bf ba bj am af ci bi cy c6)
theorem wy (a : List PlaceD) : Pure Tryd.prog 18 [lst a, lst a] (.v (.bool true)) := by
 have := upb a a
 rwa [decide_eq_true rfl] at this
theorem uad (a : List Int) (ha : a.length ≤ 1000) : Pure Tryd.prog 28 [lst a, lst a] (.v (.bool true)) := by
 have := uck a a ha
 rwa [decide_eq_true rfl] at this
theorem qo (a b c : Int) : Pure Tryd.prog 65 [.v (.int .i64 a), .v (.int .i64 b), .v (.int .i64 c)] (val (⟨a, b, c⟩ : PlaceD)) := by
 refine cz Tryd.func65 rfl (fun m => (ec _ _)) fun G nx => ?_
 simp only [Tryd.ntmps65, List.length_cons, List.length_nil, Nat.reduceAdd, Nat.reduceSub]
 refine br fun hlt => ?_
 dsimp only at hlt
 refine yS fun _ K1 => ?_
 refine yR ?_
 try dsimp only [St.put]
 refine ae rfl (dd rfl ?_)
 refine yN ?_
 dsimp only [St.put]
 refine K1 _ ?_
 refine yS fun _ K2 => ?_
 refine yR ?_
 refine yM rfl rfl ?_
 refine yM rfl rfl ?_
 refine yM rfl rfl ?_
 refine aa rfl (gy rfl rfl) ?_
 try dsimp only [St.put]
 refine ae rfl (ct rfl rfl rfl zG rfl rfl (by rfl) ?_)
 refine yN ?_
 dsimp only [St.put]
 refine K2 _ ?_
 refine aq ?_
 refine pq rfl (jv rfl zG (by rfl) zC rfl) zN zS ?_
 exact zW
theorem uk (l : List PlaceD) : Pure Tryd.prog 64 [lst l] (lst l) := by
 refine cz Tryd.func64 rfl (fun m => (bp _ _)) fun G nx => ?_
 simp only [Tryd.ntmps64, List.length_cons, List.length_nil, Nat.reduceAdd, Nat.reduceSub]
 refine br fun hlt => ?_
 dsimp only at hlt
 refine yS fun _ K1 => ?_
 refine yR ?_
 refine yA rfl rfl ?_
 refine yN ?_
 dsimp only [St.put]
 refine K1 _ ?_
 refine yS fun _ K2 => ?_
 refine yR ?_
 refine yM rfl rfl ?_
 refine yA rfl rfl ?_
 refine yN ?_
 dsimp only [St.put]
 refine K2 _ ?_
 refine aq ?_
 refine bg rfl (by constructor) zN zS ?_
 rfl
theorem nz : Pure Tryd.prog 36 [] (val exPr) := by
 refine cz Tryd.func36 rfl (fun m => (ec _ _)) fun G nx => ?_
 simp only [Tryd.ntmps36, List.length_cons, List.length_nil, Nat.reduceAdd, Nat.reduceSub]
 refine br fun hlt => ?_
 dsimp only at hlt
 refine yS fun _ K1 => ?_
 refine yR ?_
 try dsimp only [St.put]
 refine ae rfl (dd rfl ?_)
 refine yN ?_
 dsimp only [St.put]
 refine K1 _ ?_
 refine yS fun _ K2 => ?_
 refine yR ?_
 try dsimp only [St.put]
 refine ae rfl (dv (rows := ([nd, jb, xIs, ne] : List ByteArray).map cells) rfl rfl rfl (by decide) (by decide) (me _) (by decide) ?_)
 try dsimp only [St.put]
 refine ae rfl (dv (rows := ([ne, nd, jb] : List ByteArray).map cells) rfl rfl rfl (by decide) (by decide) (me _) (by decide) ?_)
 try dsimp only [St.put]
 refine ae rfl (dv (rows := ([[nd, jb, xIs, ne], [ne, nd, jb]] : List (List ByteArray)).map cells) rfl rfl rfl (by decide) (by decide) (me _) (by decide) ?_)
 refine aa rfl (gy (cs := cells (⟨7, [[nd, jb, xIs, ne], [ne, nd, jb]]⟩ : ar)) rfl rfl) ?_
 try dsimp only [St.put]
 refine ae rfl (dv (rows := ([jb, sy, jb] : List ByteArray).map cells) rfl rfl rfl (by decide) (by decide) (me _) (by decide) ?_)
 try dsimp only [St.put]
 refine ae rfl (dv (rows := ([[jb, sy, jb]] : List (List ByteArray)).map cells) rfl rfl rfl (by decide) (by decide) (me _) (by decide) ?_)
 refine aa rfl (gy (cs := cells (⟨3, [[jb, sy, jb]]⟩ : ar)) rfl rfl) ?_
 try dsimp only [St.put]
 refine ae rfl (dv (rows := ([⟨7, [[nd, jb, xIs, ne], [ne, nd, jb]]⟩, ⟨3, [[jb, sy, jb]]⟩] : List ar).map cells) rfl rfl rfl (by decide) (by decide) (me _) (by decide) ?_)
 refine aa rfl (gy (cs := [lst exTx]) rfl rfl) ?_
 refine aa rfl (gy (cs := cells (⟨1, 50⟩ : bj)) rfl rfl) ?_
 refine aa rfl (gy (cs := cells (⟨2, 0⟩ : bj)) rfl rfl) ?_
 try dsimp only [St.put]
 refine ae rfl (dv (rows := ([⟨1, 50⟩, ⟨2, 0⟩] : List bj).map cells) rfl rfl rfl (by decide) (by decide) (me _) (by decide) ?_)
 refine aa rfl (gy (cs := cells (⟨3, 60⟩ : bj)) rfl rfl) ?_
 try dsimp only [St.put]
 refine ae rfl (dv (rows := ([⟨3, 60⟩] : List bj).map cells) rfl rfl rfl (by decide) (by decide) (me _) (by decide) ?_)
 try dsimp only [St.put]
 refine ae rfl (ax rfl rfl rfl (qo _ _ _) ?_)
 try dsimp only [St.put]
 refine ae rfl (dv (rows := ([⟨0, 0, 0⟩] : List PlaceD).map cells) rfl rfl rfl (by decide) (by decide) (me _) (by decide) ?_)
 try dsimp only [St.put]
 refine ae rfl (ax rfl rfl rfl (uk [⟨0, 0, 0⟩]) ?_)
 try dsimp only [St.put]
 refine ae rfl (ax rfl rfl rfl (qo _ _ _) ?_)
 try dsimp only [St.put]
 refine ae rfl (ax rfl rfl rfl (qo _ _ _) ?_)
 try dsimp only [St.put]
 refine ae rfl (dv (rows := ([⟨0, 0, 0⟩, ⟨0, 0, 3⟩] : List PlaceD).map cells) rfl rfl rfl (by decide) (by decide) (me _) (by decide) ?_)
 try dsimp only [St.put]
 refine ae rfl (ax rfl rfl rfl (uk [⟨0, 0, 0⟩, ⟨0, 0, 3⟩]) ?_)
 refine aa rfl (gy (cs := cells (⟨0, 0, 0, 0, [⟨0, 0, 0⟩], [⟨0, 0, 0⟩, ⟨0, 0, 3⟩]⟩ : am)) rfl rfl) ?_
 try dsimp only [St.put]
 refine ae rfl (ax rfl rfl rfl (qo _ _ _) ?_)
 try dsimp only [St.put]
 refine ae rfl (dv (rows := ([⟨0, 1, 1⟩] : List PlaceD).map cells) rfl rfl rfl (by decide) (by decide) (me _) (by decide) ?_)
 try dsimp only [St.put]
 refine ae rfl (ax rfl rfl rfl (uk [⟨0, 1, 1⟩]) ?_)
 refine aa rfl (gy (cs := [.v (.int .i64 1), .v (.int .i64 2), .v (.int .i64 0), .v (.int .i64 (-1)), lst ([⟨0, 1, 1⟩] : List PlaceD), .list [] .nil]) rfl rfl) ?_
 try dsimp only [St.put]
 refine ae rfl (e_wk 26 (val (⟨1, 2, 0, -1, [⟨0, 1, 1⟩], []⟩ : am)) rfl (by show Wk _ (.agg _); exact zW) ?_)
 dsimp only
 refine dv (rows := ([⟨0, 0, 0, 0, [⟨0, 0, 0⟩], [⟨0, 0, 0⟩, ⟨0, 0, 3⟩]⟩, ⟨1, 2, 0, -1, [⟨0, 1, 1⟩], []⟩] : List am).map cells) rfl rfl rfl (by decide) (by decide) (me _) (by decide) ?_
 refine aa rfl (gy (cs := [lst exTx, lst exPr.firsts, lst exPr.seconds, lst exPr.pages]) rfl rfl) ?_
 try dsimp only [St.put]
 refine ae rfl (ct rfl rfl rfl zG rfl rfl (by rfl) ?_)
 refine yN ?_
 dsimp only [St.put]
 refine K2 _ ?_
 refine aq ?_
 refine pq rfl (jv rfl zG (by rfl) zC rfl) zN zS ?_
 exact zW
theorem umb (n : Nat) (b : Bool) (r want : Int) : ff n fb Tryd.prog 34 [.v (.bool b), .v (.int .i64 r), .v (.int .i64 want)] (.v (.bool (decide (kx exPr b r = 0) && decide (o5 exPr b r = want)))) := fun G nx hF hnx => by
 refine iv (G) (nx) Tryd.func34 rfl (.v) zN (fun hlt => zH) ?_
 simp only [Tryd.ntmps34, List.length_cons, List.length_nil, Nat.reduceAdd, Nat.reduceSub]
 refine br fun hlt => ?_
 dsimp only at hlt
 refine yS fun _ K1 => ?_
 refine yR ?_
 refine yA rfl rfl ?_
 refine yN ?_
 dsimp only [St.put]
 refine K1 _ ?_
 refine yS fun _ K2 => ?_
 refine yR ?_
 try dsimp only [St.put]
 refine ae rfl (ax rfl rfl rfl (nz) ?_)
 refine yM rfl rfl ?_
 refine yM rfl rfl ?_
 try dsimp only [St.put]
 refine ae rfl (dq rfl rfl rfl (ukl n exPr b r) zG (by dsimp only [St.put]; omega) ?_)
 refine yM rfl rfl ?_
 refine yX rfl rfl rfl rfl ?_
 refine yX rfl rfl rfl rfl ?_
 refine yA rfl rfl ?_
 refine yA rfl rfl ?_
 refine yN ?_
 dsimp only [St.put]
 refine K2 _ ?_
 refine yS fun _ K3 => ?_
 refine yR ?_
 refine yM rfl rfl ?_
 refine aa rfl (fj rfl rfl rfl) ?_
 refine eu (fun hs => ?_) (fun hs => ?_)
 ·have h1 : decide (kx exPr b r = 0) = true := hs
  refine yM rfl rfl ?_
  refine yM rfl rfl ?_
  refine yM rfl rfl ?_
  refine aa rfl (fj rfl rfl rfl) ?_
  refine aa rfl (bu rfl rfl (by constructor)) ?_
  refine yA rfl rfl ?_
  refine yN ?_
  dsimp only [St.put]
  refine K3 _ ?_
  refine aq ?_
  refine bg rfl (by constructor) zN zS ?_
  exact vb (by rw [h1]; rfl)
 have h1 : decide (kx exPr b r = 0) = false := hs
 refine yM rfl rfl ?_
 refine yK rfl ?_
 refine yK rfl ?_
 refine yK rfl ?_
 refine aa rfl (cm rfl rfl (by constructor)) ?_
 refine yA rfl rfl ?_
 refine yN ?_
 dsimp only [St.put]
 refine K3 _ ?_
 refine aq ?_
 refine bg rfl (by constructor) zN zS ?_
 exact vb (by rw [h1]; rfl)
theorem uma (n : Nat) (m : Int) (want : List Int) : ff n fb Tryd.prog 35 [.v (.int .i64 m), lst want] (.v (.bool (decide (gw exPr m = 0) && decide (i0 exPr m = want)))) := fun G nx hF hnx => by
 refine iv (G) (nx) Tryd.func35 rfl (.v) zN (fun hlt => zH) ?_
 simp only [Tryd.ntmps35, List.length_cons, List.length_nil, Nat.reduceAdd, Nat.reduceSub]
 refine br fun hlt => ?_
 dsimp only at hlt
 have hcl : (i0 exPr m).length ≤ 1000 := by
  unfold i0 atE
  cases decide (gw exPr m = 0)
  ·exact Nat.zero_le _
  have := uay (n5 exPr m) exPr.pages.length
  have e : exPr.pages.length = 2 := rfl
  show (m9 (n5 exPr m) exPr.pages.length).length ≤ 1000
  omega
 refine yS fun _ K1 => ?_
 refine yR ?_
 refine yA rfl rfl ?_
 refine yN ?_
 dsimp only [St.put]
 refine K1 _ ?_
 refine yS fun _ K2 => ?_
 refine yR ?_
 try dsimp only [St.put]
 refine ae rfl (ax rfl rfl rfl (nz) ?_)
 refine yM rfl rfl ?_
 try dsimp only [St.put]
 refine ae rfl (dq rfl rfl rfl (zg n exPr m) zG (by dsimp only [St.put]; omega) ?_)
 refine yM rfl rfl ?_
 refine yX rfl rfl rfl rfl ?_
 refine yX rfl rfl rfl rfl ?_
 refine yA rfl rfl ?_
 refine yA rfl rfl ?_
 refine yN ?_
 dsimp only [St.put]
 refine K2 _ ?_
 refine yS fun _ K3 => ?_
 refine yR ?_
 refine yM rfl rfl ?_
 refine aa rfl (fj rfl rfl rfl) ?_
 refine eu (fun hs => ?_) (fun hs => ?_)
 ·have h1 : decide (gw exPr m = 0) = true := hs
  refine yM rfl rfl ?_
  refine yM rfl rfl ?_
  refine yM rfl rfl ?_
  try dsimp only [St.put]
  refine ae rfl (ax rfl rfl rfl (uck (i0 exPr m) want hcl) ?_)
  refine aa rfl (bu rfl rfl (by constructor)) ?_
  refine yA rfl rfl ?_
  refine yN ?_
  dsimp only [St.put]
  refine K3 _ ?_
  refine aq ?_
  refine bg rfl (by constructor) zN zS ?_
  exact vb (by rw [h1]; rfl)
 have h1 : decide (gw exPr m = 0) = false := hs
 refine yM rfl rfl ?_
 refine yK rfl ?_
 refine yK rfl ?_
 refine yK rfl ?_
 refine aa rfl (cm rfl rfl (by constructor)) ?_
 refine yA rfl rfl ?_
 refine yN ?_
 dsimp only [St.put]
 refine K3 _ ?_
 refine aq ?_
 refine bg rfl (by constructor) zN zS ?_
 exact vb (by rw [h1]; rfl)
theorem uow (n : Nat) : ff n fb Tryd.prog 12 [val exPr, .v (.int .i64 1)] (.tup [.v (.int .i64 6), .v (.int .i64 0)]) := by
 have := uj9 n exPr 1
 rwa [xp_words.1, xp_words.2.1] at this
theorem uo0 (n : Nat) : ff n fb Tryd.prog 14 [val exPr, .v (.int .i64 0)] (.tup [lst ([⟨0, 0, 0⟩, ⟨0, 0, 3⟩] : List PlaceD), .v (.int .i64 0)]) := by
 have := uc0 n exPr 0
 rwa [xp_found.1, xp_words.2.2.2] at this
theorem uo3 (n : Nat) : ff n fb Tryd.prog 19 [val exPr, .v (.int .i64 0)] (.tup [lst ([⟨0, 0, 0⟩] : List PlaceD), .v (.int .i64 0)]) := by
 have := uc1 n exPr 0
 rwa [xp_found.2, xp_words.2.2.2] at this
theorem uoz (n : Nat) : ff n fb Tryd.prog 23 [val exPr, .v (.int .i64 0)] (.tup [val (⟨2, 2⟩ : bi), .v (.int .i64 0)]) := by
 have := zf n exPr 0
 rwa [xp_guess.1, xp_guess.2] at this
theorem uoy (n : Nat) : ff n fb Tryd.prog 32 [val exPr, .v (.int .i64 1)] (.tup [val (⟨0, 1⟩ : bi), .v (.int .i64 0)]) := by
 have := zd n exPr 1
 rwa [xp_remain.1, xp_remain.2.1] at this
theorem uox (n : Nat) : ff n fb Tryd.prog 31 [val exPr] (.tup [val (⟨0, 1⟩ : bi), .v (.int .i64 0)]) := by
 have := zc n exPr
 rwa [ugu, ve] at this
theorem uov (n : Nat) : ff n fb Tryd.prog 37 [val exPr] (.tup [lst ([1, 0] : List Int), .v (.int .i64 0)]) := by
 have := uj8 n exPr
 rwa [ugt, ve] at this
theorem alWhy (n : Nat) : ff n fb Tryd.prog 38 [val exPr] (.tup [lst ([0] : List Int), lst ([] : List Int), .v (.int .i64 0)]) := by
 have := ukc n exPr
 rwa [ve, p7, p7, xp_why.1, xp_why.2] at this
theorem uo2 (n : Nat) : ff n fb Tryd.prog 34 [.v (.bool false), .v (.int .i64 0), .v (.int .i64 4)] (.v (.bool true)) := by
 have := umb n false 0 4
 rwa [xp_bound.1, xp_bound.2.1] at this
theorem uo1 (n : Nat) : ff n fb Tryd.prog 35 [.v (.int .i64 0), lst ([0, 1] : List Int)] (.v (.bool true)) := by
 have := uma n 0 [0, 1]
 rwa [xp_chief.1, xp_chief.2.1] at this
set_option maxHeartbeats 4000000 in
theorem uou (n : Nat) : ff n fb Tryd.prog 29 [] (.v (.bool true)) := fun G nx hF hnx => by
 refine iv (G) (nx) Tryd.func29 rfl (.v) zN (fun hlt => zH) ?_
 simp only [Tryd.ntmps29, List.length_cons, List.length_nil, Nat.reduceAdd, Nat.reduceSub]
 refine br fun hlt => ?_
 dsimp only at hlt
 refine yS fun _ K1 => ?_
 refine yR ?_
 refine yA rfl rfl ?_
 refine yN ?_
 dsimp only [St.put]
 refine K1 _ ?_
 refine yS fun _ K2 => ?_
 refine yR ?_
 try dsimp only [St.put]
 refine ae rfl (ax rfl rfl rfl (nz) ?_)
 try dsimp only [St.put]
 refine ae rfl ((dq rfl rfl rfl ((uow n)) zG (by dsimp only [St.put]; omega) ?_))
 refine yM rfl rfl ?_
 refine yX rfl rfl rfl rfl ?_
 refine yX rfl rfl rfl rfl ?_
 refine yA rfl rfl ?_
 refine yA rfl rfl ?_
 refine yN ?_
 dsimp only [St.put]
 refine K2 _ ?_
 refine yS fun _ K3 => ?_
 refine yR ?_
 try dsimp only [St.put]
 refine ae rfl (ax rfl rfl rfl (nz) ?_)
 try dsimp only [St.put]
 refine ae rfl ((dq rfl rfl rfl ((uo0 n)) zG (by dsimp only [St.put]; omega) ?_))
 refine yM rfl rfl ?_
 refine yX rfl rfl rfl rfl ?_
 refine yX rfl rfl rfl rfl ?_
 refine yA rfl rfl ?_
 refine yA rfl rfl ?_
 refine yN ?_
 dsimp only [St.put]
 refine K3 _ ?_
 refine yS fun _ K4 => ?_
 refine yR ?_
 try dsimp only [St.put]
 refine ae rfl (ax rfl rfl rfl (nz) ?_)
 try dsimp only [St.put]
 refine ae rfl ((dq rfl rfl rfl ((uo3 n)) zG (by dsimp only [St.put]; omega) ?_))
 refine yM rfl rfl ?_
 refine yX rfl rfl rfl rfl ?_
 refine yX rfl rfl rfl rfl ?_
 refine yA rfl rfl ?_
 refine yA rfl rfl ?_
 refine yN ?_
 dsimp only [St.put]
 refine K4 _ ?_
 refine yS fun _ K5 => ?_
 refine yR ?_
 try dsimp only [St.put]
 refine ae rfl (ax rfl rfl rfl (nz) ?_)
 try dsimp only [St.put]
 refine ae rfl ((dq rfl rfl rfl ((uoz n)) zG (by dsimp only [St.put]; omega) ?_))
 refine yM rfl rfl ?_
 refine yX rfl rfl rfl rfl ?_
 refine yX rfl rfl rfl rfl ?_
 try dsimp only [St.put]
 refine ae rfl (dd rfl ?_)
 try dsimp only [St.put]
 refine ae rfl (ct rfl rfl rfl zG rfl rfl (by rfl) ?_)
 refine yA rfl rfl ?_
 refine yN ?_
 dsimp only [St.put]
 refine K5 _ ?_
 refine fl (i := 7) rfl zG zC ?_
 dsimp only
 refine yS fun _ K6 => ?_
 refine yR ?_
 try dsimp only [St.put]
 refine ae rfl (ax rfl rfl rfl (nz) ?_)
 try dsimp only [St.put]
 refine ae rfl ((dq rfl rfl rfl ((uoy n)) zG (by dsimp only [St.put]; omega) ?_))
 refine yM rfl rfl ?_
 refine yX rfl rfl rfl rfl ?_
 refine yX rfl rfl rfl rfl ?_
 try dsimp only [St.put]
 refine ae rfl (dd rfl ?_)
 try dsimp only [St.put]
 refine ae rfl (ct rfl rfl rfl zG rfl rfl (by rfl) ?_)
 refine yA rfl rfl ?_
 refine yN ?_
 dsimp only [St.put]
 refine K6 _ ?_
 refine fl (i := 9) rfl zG zC ?_
 dsimp only
 refine yS fun _ K7 => ?_
 refine yR ?_
 try dsimp only [St.put]
 refine ae rfl (ax rfl rfl rfl (nz) ?_)
 try dsimp only [St.put]
 refine ae rfl ((dq rfl rfl rfl ((uox n)) zG (by dsimp only [St.put]; omega) ?_))
 refine yM rfl rfl ?_
 refine yX rfl rfl rfl rfl ?_
 refine yX rfl rfl rfl rfl ?_
 try dsimp only [St.put]
 refine ae rfl (dd rfl ?_)
 try dsimp only [St.put]
 refine ae rfl (ct rfl rfl rfl zG rfl rfl (by rfl) ?_)
 refine yA rfl rfl ?_
 refine yN ?_
 dsimp only [St.put]
 refine K7 _ ?_
 refine fl (i := 11) rfl zG zC ?_
 dsimp only
 refine yS fun _ K8 => ?_
 refine yR ?_
 try dsimp only [St.put]
 refine ae rfl (ax rfl rfl rfl (nz) ?_)
 try dsimp only [St.put]
 refine ae rfl ((dq rfl rfl rfl ((uov n)) zG (by dsimp only [St.put]; omega) ?_))
 refine yM rfl rfl ?_
 refine yX rfl rfl rfl rfl ?_
 refine yX rfl rfl rfl rfl ?_
 refine yA rfl rfl ?_
 refine yA rfl rfl ?_
 refine yN ?_
 dsimp only [St.put]
 refine K8 _ ?_
 refine yS fun _ K9 => ?_
 refine yR ?_
 try dsimp only [St.put]
 refine ae rfl (ax rfl rfl rfl (nz) ?_)
 try dsimp only [St.put]
 refine ae rfl ((dq rfl rfl rfl ((alWhy n)) zG (by dsimp only [St.put]; omega) ?_))
 refine yM rfl rfl ?_
 refine yX rfl rfl rfl rfl ?_
 refine yX rfl rfl rfl rfl ?_
 refine yX rfl rfl rfl rfl ?_
 refine yA rfl rfl ?_
 refine yA rfl rfl ?_
 refine yA rfl rfl ?_
 refine yN ?_
 dsimp only [St.put]
 refine K9 _ ?_
 refine yS fun _ K10 => ?_
 refine cr 18 ?_
 refine zQ ?_
 refine dl G zX ?_
 dsimp only
 refine yR ?_
 refine yM rfl rfl ?_
 refine aa rfl (eh (fj rfl rfl rfl) (decide_eq_true (by omega))) ?_
 refine yM rfl rfl ?_
 refine yM rfl rfl ?_
 ((first | refine aa rfl ((eh (c := true) (fj rfl rfl rfl) (decide_eq_true rfl))) ?_ | refine ah rfl rfl rfl rfl ((eh (c := true) (fj rfl rfl rfl) (decide_eq_true rfl))) ?_ | refine dz rfl rfl rfl rfl ((eh (c := true) (fj rfl rfl rfl) (decide_eq_true rfl))) ?_ | refine u6 rfl rfl rfl ((eh (c := true) (fj rfl rfl rfl) (decide_eq_true rfl))) ?_))
 refine aa rfl (bu rfl rfl (by constructor)) ?_
 refine yM rfl rfl ?_
 refine yM rfl rfl ?_
 refine aa rfl (eh (fj rfl rfl rfl) (decide_eq_true (by omega))) ?_
 refine aa rfl (bu rfl rfl (by constructor)) ?_
 refine yM rfl rfl ?_
 refine yM rfl rfl ?_
 try dsimp only [St.put]
 refine ae rfl (ax rfl rfl rfl (qo _ _ _) ?_)
 try dsimp only [St.put]
 refine ae rfl (ax rfl rfl rfl (qo _ _ _) ?_)
 try dsimp only [St.put]
 refine ae rfl (dv rfl rfl rfl (by decide) (by decide) zR (by decide) ?_)
 try dsimp only [St.put]
 refine ae rfl (ax rfl rfl rfl (uk [⟨0, 0, 0⟩, ⟨0, 0, 3⟩]) ?_)
 try dsimp only [St.put]
 refine ae rfl (ax rfl rfl rfl (wy [⟨0, 0, 0⟩, ⟨0, 0, 3⟩]) ?_)
 refine aa rfl (bu rfl rfl (by constructor)) ?_
 refine yM rfl rfl ?_
 refine yM rfl rfl ?_
 refine aa rfl (eh (fj rfl rfl rfl) (decide_eq_true (by omega))) ?_
 refine aa rfl (bu rfl rfl (by constructor)) ?_
 refine yM rfl rfl ?_
 refine yM rfl rfl ?_
 try dsimp only [St.put]
 refine ae rfl (ax rfl rfl rfl (qo _ _ _) ?_)
 try dsimp only [St.put]
 refine ae rfl (dv rfl rfl rfl (by decide) (by decide) zR (by decide) ?_)
 try dsimp only [St.put]
 refine ae rfl (ax rfl rfl rfl (uk [⟨0, 0, 0⟩]) ?_)
 try dsimp only [St.put]
 refine ae rfl (ax rfl rfl rfl (wy [⟨0, 0, 0⟩]) ?_)
 refine aa rfl (bu rfl rfl (by constructor)) ?_
 refine yM rfl rfl ?_
 try dsimp only [St.put]
 refine ae rfl ((dq rfl rfl rfl ((uo2 n)) zG (by dsimp only [St.put]; omega) ?_))
 refine aa rfl (bu rfl rfl (by constructor)) ?_
 refine yM rfl rfl ?_
 refine yM rfl rfl ?_
 refine aa rfl (eh (fj rfl rfl rfl) (decide_eq_true (by omega))) ?_
 refine aa rfl (bu rfl rfl (by constructor)) ?_
 refine yM rfl rfl ?_
 refine yE rfl rfl rfl ?_
 refine aa rfl (gy rfl rfl) ?_
 ((first | refine aa rfl ((eh (c := true) (kd (x := (⟨2, 2⟩ : bi)) (y := (⟨2, 2⟩ : bi)) rfl rfl rfl) (decide_eq_true rfl))) ?_ | refine ah rfl rfl rfl rfl ((eh (c := true) (kd (x := (⟨2, 2⟩ : bi)) (y := (⟨2, 2⟩ : bi)) rfl rfl rfl) (decide_eq_true rfl))) ?_ | refine dz rfl rfl rfl rfl ((eh (c := true) (kd (x := (⟨2, 2⟩ : bi)) (y := (⟨2, 2⟩ : bi)) rfl rfl rfl) (decide_eq_true rfl))) ?_ | refine u6 rfl rfl rfl ((eh (c := true) (kd (x := (⟨2, 2⟩ : bi)) (y := (⟨2, 2⟩ : bi)) rfl rfl rfl) (decide_eq_true rfl))) ?_))
 refine aa rfl (bu rfl rfl (by constructor)) ?_
 refine yM rfl rfl ?_
 refine yM rfl rfl ?_
 refine aa rfl (eh (fj rfl rfl rfl) (decide_eq_true (by omega))) ?_
 refine aa rfl (bu rfl rfl (by constructor)) ?_
 refine yM rfl rfl ?_
 refine yE rfl rfl rfl ?_
 refine aa rfl (gy rfl rfl) ?_
 ((first | refine aa rfl ((eh (c := true) (kd (x := (⟨0, 1⟩ : bi)) (y := (⟨0, 1⟩ : bi)) rfl rfl rfl) (decide_eq_true rfl))) ?_ | refine ah rfl rfl rfl rfl ((eh (c := true) (kd (x := (⟨0, 1⟩ : bi)) (y := (⟨0, 1⟩ : bi)) rfl rfl rfl) (decide_eq_true rfl))) ?_ | refine dz rfl rfl rfl rfl ((eh (c := true) (kd (x := (⟨0, 1⟩ : bi)) (y := (⟨0, 1⟩ : bi)) rfl rfl rfl) (decide_eq_true rfl))) ?_ | refine u6 rfl rfl rfl ((eh (c := true) (kd (x := (⟨0, 1⟩ : bi)) (y := (⟨0, 1⟩ : bi)) rfl rfl rfl) (decide_eq_true rfl))) ?_))
 refine aa rfl (bu rfl rfl (by constructor)) ?_
 refine yM rfl rfl ?_
 refine yM rfl rfl ?_
 refine aa rfl (eh (fj rfl rfl rfl) (decide_eq_true (by omega))) ?_
 refine aa rfl (bu rfl rfl (by constructor)) ?_
 refine yM rfl rfl ?_
 refine yE rfl rfl rfl ?_
 refine aa rfl (gy rfl rfl) ?_
 ((first | refine aa rfl ((eh (c := true) (kd (x := (⟨0, 1⟩ : bi)) (y := (⟨0, 1⟩ : bi)) rfl rfl rfl) (decide_eq_true rfl))) ?_ | refine ah rfl rfl rfl rfl ((eh (c := true) (kd (x := (⟨0, 1⟩ : bi)) (y := (⟨0, 1⟩ : bi)) rfl rfl rfl) (decide_eq_true rfl))) ?_ | refine dz rfl rfl rfl rfl ((eh (c := true) (kd (x := (⟨0, 1⟩ : bi)) (y := (⟨0, 1⟩ : bi)) rfl rfl rfl) (decide_eq_true rfl))) ?_ | refine u6 rfl rfl rfl ((eh (c := true) (kd (x := (⟨0, 1⟩ : bi)) (y := (⟨0, 1⟩ : bi)) rfl rfl rfl) (decide_eq_true rfl))) ?_))
 refine aa rfl (bu rfl rfl (by constructor)) ?_
 refine yM rfl rfl ?_
 refine yM rfl rfl ?_
 refine aa rfl (eh (fj rfl rfl rfl) (decide_eq_true (by omega))) ?_
 refine aa rfl (bu rfl rfl (by constructor)) ?_
 refine yM rfl rfl ?_
 refine yM rfl rfl ?_
 try dsimp only [St.put]
 refine ae rfl (dv rfl rfl rfl (by decide) (by decide) zR (by decide) ?_)
 try dsimp only [St.put]
 refine ae rfl (ax rfl rfl rfl (uad [1, 0] (by decide)) ?_)
 refine aa rfl (bu rfl rfl (by constructor)) ?_
 refine yM rfl rfl ?_
 refine yM rfl rfl ?_
 refine aa rfl (eh (fj rfl rfl rfl) (decide_eq_true (by omega))) ?_
 refine aa rfl (bu rfl rfl (by constructor)) ?_
 refine yM rfl rfl ?_
 refine yM rfl rfl ?_
 try dsimp only [St.put]
 refine ae rfl (dv rfl rfl rfl (by decide) (by decide) zR (by decide) ?_)
 try dsimp only [St.put]
 refine ae rfl (ax rfl rfl rfl (uad [0] (by decide)) ?_)
 refine aa rfl (bu rfl rfl (by constructor)) ?_
 refine yM rfl rfl ?_
 refine yM rfl rfl ?_
 refine aa rfl (bl rfl rfl (List.length_map _)) ?_
 ((first | refine aa rfl ((eh (c := true) (fj rfl rfl rfl) (decide_eq_true rfl))) ?_ | refine ah rfl rfl rfl rfl ((eh (c := true) (fj rfl rfl rfl) (decide_eq_true rfl))) ?_ | refine dz rfl rfl rfl rfl ((eh (c := true) (fj rfl rfl rfl) (decide_eq_true rfl))) ?_ | refine u6 rfl rfl rfl ((eh (c := true) (fj rfl rfl rfl) (decide_eq_true rfl))) ?_))
 refine aa rfl (bu rfl rfl (by constructor)) ?_
 refine yM rfl rfl ?_
 try dsimp only [St.put]
 refine ae rfl (dv rfl rfl rfl (by decide) (by decide) zR (by decide) ?_)
 try dsimp only [St.put]
 refine ae rfl ((dq rfl rfl rfl ((uo1 n)) zG (by dsimp only [St.put]; omega) ?_))
 refine aa rfl (bu rfl rfl (by constructor)) ?_
 refine yA rfl rfl ?_
 refine yN ?_
 dsimp only [St.put]
 refine K10 _ ?_
 refine aq ?_
 refine bg rfl (by constructor) zN zS ?_
 rfl
theorem ul9 (p : af) : Pure Tryd.prog 30 [val p] (.v (.bool (rm p))) := by
 refine cz Tryd.func30 rfl (fun m => .v) fun G nx => ?_
 simp only [Tryd.ntmps30, List.length_cons, List.length_nil, Nat.reduceAdd, Nat.reduceSub]
 refine br fun hlt => ?_
 dsimp only at hlt
 refine yS fun _ K1 => ?_
 refine yR ?_
 try dsimp only [St.put]
 refine yB rfl rfl rfl ?_
 refine yA rfl rfl ?_
 refine yN ?_
 dsimp only [St.put]
 refine K1 _ ?_
 refine yS fun _ K2 => ?_
 refine yR ?_
 refine yE rfl rfl rfl ?_
 try dsimp only [St.put]
 refine ae rfl (ax rfl rfl rfl (uju p) ?_)
 refine aa rfl (d7 rfl rfl) ?_
 refine yM rfl rfl ?_
 refine eu (fun hs => ?_) (fun hs => ?_)
 ·have h1 : l3 p = false := by simpa using hs
  refine yE rfl rfl rfl ?_
  try dsimp only [St.put]
  refine ae rfl (ax rfl rfl rfl (ujv p) ?_)
  refine aa rfl (fj rfl rfl rfl) ?_
  refine aa rfl (bu rfl rfl (by constructor)) ?_
  refine yA rfl rfl ?_
  refine yN ?_
  dsimp only [St.put]
  refine K2 _ ?_
  refine aq ?_
  refine bg rfl (by constructor) zN zS ?_
  exact vb (by simp [rm, h1])
 have h1 : l3 p = true := by simpa using hs
 refine yK rfl ?_
 refine yK rfl ?_
 refine yK rfl ?_
 refine aa rfl (cm rfl rfl (by constructor)) ?_
 refine yA rfl rfl ?_
 refine yN ?_
 dsimp only [St.put]
 refine K2 _ ?_
 refine aq ?_
 refine bg rfl (by constructor) zN zS ?_
 exact vb (by simp [rm, h1])
end Go.Proofs.YtbbdginipiljdaaDoor
namespace Go.AB
open Go Go.RowKit
open Go.AB.Enc (cells)
open Go.PB (ar ai PlaceD az bf ba bj am af ci bi)
end Go.AB
namespace Go.AB
open Go Go.RowKit
open Go.AB.Enc (cells)
open Go.PB (ar ai PlaceD az bf ba bj am af ci bi cy c6)
theorem zt {P : Program} {o : Oper} {st : St} {xt yt : TypeId} {x y : Operand} {m n r : Int} (hr : m % n = r) (ho : o.op = .binOp .rem xt x y yt) (hx : evC st x = .v (.int .i64 m)) (hy : evC st y = .v (.int .i64 n)) (hm : 0 ≤ m ∧ m ≤ 9223372036854775807) (hn : 0 < n) : NStep P o st (.v (.int .i64 r)) := hr ▸ n_rem ho hx hy hm hn
theorem uj3 {α : Type} {l : List α} {a : Int} (ha : 0 ≤ a) (h : l.length ≠ 0) : ∃ (i : Nat) (x : α), a % (l.length : Int) = (i : Int) ∧ l[i]? = some x := by
 have h2 := Int.emod_nonneg a (show (l.length : Int) ≠ 0 by omega)
 have h3 := Int.emod_lt_of_pos a (show (0 : Int) < (l.length : Int) by omega)
 have hlt : (a % (l.length : Int)).toNat < l.length := by omega
 exact ⟨_, l[(a % (l.length : Int)).toNat], by omega, List.getElem?_eq_getElem hlt⟩
section
variable {p : af} {i : Nat} {x : am}
theorem p8 (h : cc p = 0) (hx : p.pages[i]? = some x) : d9 p (i : Int) = 0 := by
 have := (List.getElem?_eq_some_iff.1 hx).1
 unfold d9
 rw [decide_eq_true h, cond_true, inB_true.2 (by omega)]
 rfl
theorem ro (hx : p.pages[i]? = some x) : mq p (i : Int) = x := by
 unfold mq
 rw [Int.toNat_natCast, hx]; rfl
end
end Go.AB
namespace Go.Proofs.YtbbdginipiljdaaDoor
set_option maxRecDepth 10000
open Go Go.RowKit Go.AB
open Go.AB.Enc (cells)
open Go.PB (ar ai PlaceD az bf ba bj am af ci bi cy c6)
section
variable {p : af} {i : Nat} {x : am}
theorem ud9 (n : Nat) (h : cc p = 0) (hx : p.pages[i]? = some x) : ff n fb Tryd.prog 14 [val p, .v (.int .i64 (i : Int))] (.tup [lst (d8 p.text x), .v (.int .i64 0)]) := by
 have := uc0 n p (i : Int)
 rwa [p8 h hx, show po p (i : Int) = d8 p.text x by unfold po; rw [p8 h hx, ro hx]; rfl] at this
theorem uea (n : Nat) (h : cc p = 0) (hx : p.pages[i]? = some x) : ff n fb Tryd.prog 19 [val p, .v (.int .i64 (i : Int))] (.tup [lst (da p.text x), .v (.int .i64 0)]) := by
 have := uc1 n p (i : Int)
 rwa [p8 h hx, show px p (i : Int) = da p.text x by unfold px; rw [p8 h hx, ro hx]; rfl] at this
end
end Go.Proofs.YtbbdginipiljdaaDoor
namespace Go.AB
open Go Go.RowKit
open Go.AB.Enc (cells)
open Go.PB (ar ai PlaceD az bf ba bj am af ci bi cy c6)
end Go.AB
namespace Go.Proofs.YtbbdginipiljdaaDoor
set_option maxRecDepth 10000
open Go Go.RowKit Go.AB
open Go.AB.Enc (cells)
open Go.PB (ar ai PlaceD az bf ba bj am af ci bi cy c6)
end Go.Proofs.YtbbdginipiljdaaDoor
namespace Go.AB
open Go Go.RowKit
open Go.AB.Enc (cells)
open Go.PB (ar ai PlaceD az bf ba bj am af ci bi)
def twD (i : Nat) : Bool := [3, 5, 6, 7, 8, 9, 10, 11, 12, 13, 14, 15, 16, 17, 18, 19, 20].contains i
structure TwS (p : af) (eR eP : TypeId) (G0 : Nat → Option GObj) (n0 nn df : Nat) (l0 : List C) (A0 : Nat → C) (b2 b3 b6 b7 b10 b11 b14 b15 b16 b17 : Bool) (st : St) (a b c d va vb vc : Nat) : Prop where
 n : st.n = nn
 df : st.df = df
 l : st.l = l0
 nx : st.nx = n0 + b3.toNat + b7.toNat + b11.toNat + b16.toNat
 s : ∀ i, twD i = false → bk st.l st.r i = A0 i
 x10 : bk st.l st.r 10 = lst p.firsts
 x14 : bk st.l st.r 14 = lst p.seconds
 x18 : bk st.l st.r 18 = lst p.pages
 x6 : bk st.l st.r 6 = gl p.text
 f2 : b2 = true → bk st.l st.r 7 = gl p.text
 f3 : b3 = true → bk st.l st.r 8 = .own a 0 0
 r3 : b3 = true → n0 ≤ a ∧ a < st.nx
 g3 : b3 = true → b6 = false → st.G a = some (.arr 0 0 eR 2 0 [])
 f6 : b6 = true → bk st.l st.r 11 = .own a va p.firsts.length
 g6 : b6 = true → st.G a = some (.arr va 0 eR 2 p.firsts.length (bv p.firsts))
 f7 : b7 = true → bk st.l st.r 12 = .own b 0 0
 r7 : b7 = true → n0 ≤ b ∧ b < st.nx
 g7 : b7 = true → b10 = false → st.G b = some (.arr 0 0 eR 2 0 [])
 f10 : b10 = true → bk st.l st.r 15 = .own b vb p.seconds.length
 g10 : b10 = true → st.G b = some (.arr vb 0 eR 2 p.seconds.length (bv p.seconds))
 f11 : b11 = true → bk st.l st.r 16 = .own c 0 0
 r11 : b11 = true → n0 ≤ c ∧ c < st.nx
 g11 : b11 = true → b14 = false → st.G c = some (.arr 0 0 eP 6 0 [])
 f14 : b14 = true → bk st.l st.r 19 = .own c vc p.pages.length
 g14 : b14 = true → st.G c = some (.arr vc 0 eP 6 p.pages.length (bv p.pages))
 f15 : b15 = true → bk st.l st.r 20 = .agg [lst p.text, .own a va p.firsts.length, .own b vb p.seconds.length, .own c vc p.pages.length]
 f16 : b16 = true → bk st.l st.r 3 = .box d 0 0
 r16 : b16 = true → n0 ≤ d ∧ d < st.nx
 g16 : b16 = true → b17 = false → st.G d = some (.box 0 [.list [] .nil, .list [] .nil, .list [] .nil, .list [] .nil])
 f17 : b17 = true → st.G d = some (.box 1 [lst p.text, .own a va p.firsts.length, .own b vb p.seconds.length, .own c vc p.pages.length])
 ab : b3 = true → b7 = true → a ≠ b
 ac : b3 = true → b11 = true → a ≠ c
 ad : b3 = true → b16 = true → a ≠ d
 bc : b7 = true → b11 = true → b ≠ c
 bd : b7 = true → b16 = true → b ≠ d
 cd : b11 = true → b16 = true → c ≠ d
 G : ∀ m, (b3 = true → m ≠ a) → (b7 = true → m ≠ b) → (b11 = true → m ≠ c) → (b16 = true → m ≠ d) → st.G m = G0 m
 e6 : b6 = true → b3 = true
 e10 : b10 = true → b7 = true
 e14 : b14 = true → b11 = true
 e17 : b17 = true → b16 = true
 e18 : b17 = true → b15 = true
 q2 : b15 = true → b2 = true
 q6 : b15 = true → b6 = true
 q10 : b15 = true → b10 = true
 q14 : b15 = true → b14 = true
section
variable {p : af} {eR eP : TypeId} {G0 : Nat → Option GObj} {n0 nn df : Nat} {l0 : List C} {A0 : Nat → C} {b2 b3 b6 b7 b10 b11 b14 b15 b16 b17 : Bool} {st : St} {a b c d va vb vc : Nat}
theorem og {i j : Nat} (h : twD i = false) (k : twD j = true) : Nat.beq j i = false := by
 cases e : Nat.beq j i
 ·rfl
 ·rw [Nat.eq_of_beq_eq_true e, h] at k; cases k
theorem TwS.step2 (h : TwS p eR eP G0 n0 nn df l0 A0 false b3 b6 b7 b10 b11 b14 b15 b16 b17 st a b c d va vb vc) : TwS p eR eP G0 n0 nn df l0 A0 true b3 b6 b7 b10 b11 b14 b15 b16 b17 (st.put (some 7) (gl p.text)) a b c d va vb vc := by
 exact {
  n := h.n
  df := h.df
  l := h.l
  nx := h.nx
  s := fun i hi => by show (bif Nat.beq 7 i then _ else bk st.l st.r i) = _; rw [og hi rfl]; exact h.s i hi
  x10 := h.x10
  x14 := h.x14
  x18 := h.x18
  x6 := h.x6
  f2 := fun _ => rfl
  f3 := h.f3
  r3 := h.r3
  g3 := h.g3
  f6 := h.f6
  g6 := h.g6
  f7 := h.f7
  r7 := h.r7
  g7 := h.g7
  f10 := h.f10
  g10 := h.g10
  f11 := h.f11
  r11 := h.r11
  g11 := h.g11
  f14 := h.f14
  g14 := h.g14
  f15 := h.f15
  f16 := h.f16
  r16 := h.r16
  g16 := h.g16
  f17 := h.f17
  ab := h.ab
  ac := h.ac
  ad := h.ad
  bc := h.bc
  bd := h.bd
  cd := h.cd
  G := h.G
  e6 := h.e6
  e10 := h.e10
  e14 := h.e14
  e17 := h.e17
  e18 := h.e18
  q2 := fun _ => rfl
  q6 := h.q6
  q10 := h.q10
  q14 := h.q14 }
theorem TwS.step3 (h : TwS p eR eP G0 n0 nn df l0 A0 b2 false b6 b7 b10 b11 b14 b15 b16 b17 st a b c d va vb vc) (k : b6 = false) (k15 : b15 = false) : TwS p eR eP G0 n0 nn df l0 A0 b2 true b6 b7 b10 b11 b14 b15 b16 b17 (St.put { st with G := aj st.G st.nx (.arr 0 0 eR 2 0 []), nx := st.nx + 1 } (some 8) (.own st.nx 0 0)) st.nx b c d va vb vc := by
 have hnx := h.nx
 subst k
 subst k15
 exact {
  n := h.n
  df := h.df
  l := h.l
  nx := by show st.nx + 1 = _; rw [hnx]; simp only [Bool.toNat_true, Bool.toNat_false] <;> omega
  s := fun i hi => by show (bif Nat.beq 8 i then _ else bk st.l st.r i) = _; rw [og hi rfl]; exact h.s i hi
  x10 := h.x10
  x14 := h.x14
  x18 := h.x18
  x6 := h.x6
  f2 := h.f2
  f3 := fun _ => rfl
  r3 := fun _ => ⟨by omega, Nat.lt_succ_self _⟩
  g3 := fun _ _ => jt _ _ _
  f6 := fun e => nomatch e
  g6 := fun e => nomatch e
  f7 := h.f7
  r7 := fun e => ⟨(h.r7 e).1, Nat.lt_succ_of_lt (h.r7 e).2⟩
  g7 := fun e f => (cp (Nat.ne_of_lt (h.r7 e).2)).trans (h.g7 e f)
  f10 := h.f10
  g10 := fun f => have e := h.e10 f; (cp (Nat.ne_of_lt (h.r7 e).2)).trans (h.g10 f)
  f11 := h.f11
  r11 := fun e => ⟨(h.r11 e).1, Nat.lt_succ_of_lt (h.r11 e).2⟩
  g11 := fun e f => (cp (Nat.ne_of_lt (h.r11 e).2)).trans (h.g11 e f)
  f14 := h.f14
  g14 := fun f => have e := h.e14 f; (cp (Nat.ne_of_lt (h.r11 e).2)).trans (h.g14 f)
  f15 := fun e => nomatch e
  f16 := h.f16
  r16 := fun e => ⟨(h.r16 e).1, Nat.lt_succ_of_lt (h.r16 e).2⟩
  g16 := fun e f => (cp (Nat.ne_of_lt (h.r16 e).2)).trans (h.g16 e f)
  f17 := fun f => nomatch h.e18 f
  ab := fun _ e => (Nat.ne_of_lt (h.r7 e).2).symm
  ac := fun _ e => (Nat.ne_of_lt (h.r11 e).2).symm
  ad := fun _ e => (Nat.ne_of_lt (h.r16 e).2).symm
  bc := h.bc
  bd := h.bd
  cd := h.cd
  G := fun m h1 h2 h3 h4 => (cp (h1 rfl)).trans (h.G m (fun e => nomatch e) h2 h3 h4)
  e6 := fun e => nomatch e
  e10 := h.e10
  e14 := h.e14
  e17 := h.e17
  e18 := h.e18
  q2 := h.q2
  q6 := h.q6
  q10 := h.q10
  q14 := h.q14 }
theorem TwS.step6 (h : TwS p eR eP G0 n0 nn df l0 A0 b2 true false b7 b10 b11 b14 b15 b16 b17 st a b c d va vb vc) (k15 : b15 = false) (w : Nat) : TwS p eR eP G0 n0 nn df l0 A0 b2 true true b7 b10 b11 b14 b15 b16 b17 (St.put { st with G := aj st.G a (.arr w 0 eR 2 p.firsts.length (bv p.firsts)) } (some 11) (.own a w p.firsts.length)) a b c d w vb vc := by
 subst k15
 exact {
  n := h.n
  df := h.df
  l := h.l
  nx := h.nx
  s := fun i hi => by show (bif Nat.beq 11 i then _ else bk st.l st.r i) = _; rw [og hi rfl]; exact h.s i hi
  x10 := h.x10
  x14 := h.x14
  x18 := h.x18
  x6 := h.x6
  f2 := h.f2
  f3 := h.f3
  r3 := h.r3
  g3 := fun _ e => nomatch e
  f6 := fun _ => rfl
  g6 := fun _ => jt _ _ _
  f7 := h.f7
  r7 := h.r7
  g7 := fun e f => (cp (h.ab rfl e).symm).trans (h.g7 e f)
  f10 := h.f10
  g10 := fun f => have e := h.e10 f; (cp (h.ab rfl e).symm).trans (h.g10 f)
  f11 := h.f11
  r11 := h.r11
  g11 := fun e f => (cp (h.ac rfl e).symm).trans (h.g11 e f)
  f14 := h.f14
  g14 := fun f => have e := h.e14 f; (cp (h.ac rfl e).symm).trans (h.g14 f)
  f15 := fun e => nomatch e
  f16 := h.f16
  r16 := h.r16
  g16 := fun e f => (cp (h.ad rfl e).symm).trans (h.g16 e f)
  f17 := fun f => nomatch h.e18 f
  ab := h.ab
  ac := h.ac
  ad := h.ad
  bc := h.bc
  bd := h.bd
  cd := h.cd
  G := fun m h1 h2 h3 h4 => (cp (h1 rfl)).trans (h.G m h1 h2 h3 h4)
  e6 := fun _ => rfl
  e10 := h.e10
  e14 := h.e14
  e17 := h.e17
  e18 := h.e18
  q2 := h.q2
  q6 := fun _ => rfl
  q10 := h.q10
  q14 := h.q14 }
theorem TwS.step7 (h : TwS p eR eP G0 n0 nn df l0 A0 b2 b3 b6 false b10 b11 b14 b15 b16 b17 st a b c d va vb vc) (k : b10 = false) (k15 : b15 = false) : TwS p eR eP G0 n0 nn df l0 A0 b2 b3 b6 true b10 b11 b14 b15 b16 b17 (St.put { st with G := aj st.G st.nx (.arr 0 0 eR 2 0 []), nx := st.nx + 1 } (some 12) (.own st.nx 0 0)) a st.nx c d va vb vc := by
 have hnx := h.nx
 subst k
 subst k15
 exact {
  n := h.n
  df := h.df
  l := h.l
  nx := by show st.nx + 1 = _; rw [hnx]; simp only [Bool.toNat_true, Bool.toNat_false] <;> omega
  s := fun i hi => by show (bif Nat.beq 12 i then _ else bk st.l st.r i) = _; rw [og hi rfl]; exact h.s i hi
  x10 := h.x10
  x14 := h.x14
  x18 := h.x18
  x6 := h.x6
  f2 := h.f2
  f3 := h.f3
  r3 := fun e => ⟨(h.r3 e).1, Nat.lt_succ_of_lt (h.r3 e).2⟩
  g3 := fun e f => (cp (Nat.ne_of_lt (h.r3 e).2)).trans (h.g3 e f)
  f6 := h.f6
  g6 := fun f => have e := h.e6 f; (cp (Nat.ne_of_lt (h.r3 e).2)).trans (h.g6 f)
  f7 := fun _ => rfl
  r7 := fun _ => ⟨by omega, Nat.lt_succ_self _⟩
  g7 := fun _ _ => jt _ _ _
  f10 := fun e => nomatch e
  g10 := fun e => nomatch e
  f11 := h.f11
  r11 := fun e => ⟨(h.r11 e).1, Nat.lt_succ_of_lt (h.r11 e).2⟩
  g11 := fun e f => (cp (Nat.ne_of_lt (h.r11 e).2)).trans (h.g11 e f)
  f14 := h.f14
  g14 := fun f => have e := h.e14 f; (cp (Nat.ne_of_lt (h.r11 e).2)).trans (h.g14 f)
  f15 := fun e => nomatch e
  f16 := h.f16
  r16 := fun e => ⟨(h.r16 e).1, Nat.lt_succ_of_lt (h.r16 e).2⟩
  g16 := fun e f => (cp (Nat.ne_of_lt (h.r16 e).2)).trans (h.g16 e f)
  f17 := fun f => nomatch h.e18 f
  ab := fun e _ => Nat.ne_of_lt (h.r3 e).2
  ac := h.ac
  ad := h.ad
  bc := fun _ e => (Nat.ne_of_lt (h.r11 e).2).symm
  bd := fun _ e => (Nat.ne_of_lt (h.r16 e).2).symm
  cd := h.cd
  G := fun m h1 h2 h3 h4 => (cp (h2 rfl)).trans (h.G m h1 (fun e => nomatch e) h3 h4)
  e6 := h.e6
  e10 := fun e => nomatch e
  e14 := h.e14
  e17 := h.e17
  e18 := h.e18
  q2 := h.q2
  q6 := h.q6
  q10 := h.q10
  q14 := h.q14 }
theorem TwS.step10 (h : TwS p eR eP G0 n0 nn df l0 A0 b2 b3 b6 true false b11 b14 b15 b16 b17 st a b c d va vb vc) (k15 : b15 = false) (w : Nat) : TwS p eR eP G0 n0 nn df l0 A0 b2 b3 b6 true true b11 b14 b15 b16 b17 (St.put { st with G := aj st.G b (.arr w 0 eR 2 p.seconds.length (bv p.seconds)) } (some 15) (.own b w p.seconds.length)) a b c d va w vc := by
 subst k15
 exact {
  n := h.n
  df := h.df
  l := h.l
  nx := h.nx
  s := fun i hi => by show (bif Nat.beq 15 i then _ else bk st.l st.r i) = _; rw [og hi rfl]; exact h.s i hi
  x10 := h.x10
  x14 := h.x14
  x18 := h.x18
  x6 := h.x6
  f2 := h.f2
  f3 := h.f3
  r3 := h.r3
  g3 := fun e f => (cp (h.ab e rfl)).trans (h.g3 e f)
  f6 := h.f6
  g6 := fun f => have e := h.e6 f; (cp (h.ab e rfl)).trans (h.g6 f)
  f7 := h.f7
  r7 := h.r7
  g7 := fun _ e => nomatch e
  f10 := fun _ => rfl
  g10 := fun _ => jt _ _ _
  f11 := h.f11
  r11 := h.r11
  g11 := fun e f => (cp (h.bc rfl e).symm).trans (h.g11 e f)
  f14 := h.f14
  g14 := fun f => have e := h.e14 f; (cp (h.bc rfl e).symm).trans (h.g14 f)
  f15 := fun e => nomatch e
  f16 := h.f16
  r16 := h.r16
  g16 := fun e f => (cp (h.bd rfl e).symm).trans (h.g16 e f)
  f17 := fun f => nomatch h.e18 f
  ab := h.ab
  ac := h.ac
  ad := h.ad
  bc := h.bc
  bd := h.bd
  cd := h.cd
  G := fun m h1 h2 h3 h4 => (cp (h2 rfl)).trans (h.G m h1 h2 h3 h4)
  e6 := h.e6
  e10 := fun _ => rfl
  e14 := h.e14
  e17 := h.e17
  e18 := h.e18
  q2 := h.q2
  q6 := h.q6
  q10 := fun _ => rfl
  q14 := h.q14 }
theorem TwS.step11 (h : TwS p eR eP G0 n0 nn df l0 A0 b2 b3 b6 b7 b10 false b14 b15 b16 b17 st a b c d va vb vc) (k : b14 = false) (k15 : b15 = false) : TwS p eR eP G0 n0 nn df l0 A0 b2 b3 b6 b7 b10 true b14 b15 b16 b17 (St.put { st with G := aj st.G st.nx (.arr 0 0 eP 6 0 []), nx := st.nx + 1 } (some 16) (.own st.nx 0 0)) a b st.nx d va vb vc := by
 have hnx := h.nx
 subst k
 subst k15
 exact {
  n := h.n
  df := h.df
  l := h.l
  nx := by show st.nx + 1 = _; rw [hnx]; simp only [Bool.toNat_true, Bool.toNat_false] <;> omega
  s := fun i hi => by show (bif Nat.beq 16 i then _ else bk st.l st.r i) = _; rw [og hi rfl]; exact h.s i hi
  x10 := h.x10
  x14 := h.x14
  x18 := h.x18
  x6 := h.x6
  f2 := h.f2
  f3 := h.f3
  r3 := fun e => ⟨(h.r3 e).1, Nat.lt_succ_of_lt (h.r3 e).2⟩
  g3 := fun e f => (cp (Nat.ne_of_lt (h.r3 e).2)).trans (h.g3 e f)
  f6 := h.f6
  g6 := fun f => have e := h.e6 f; (cp (Nat.ne_of_lt (h.r3 e).2)).trans (h.g6 f)
  f7 := h.f7
  r7 := fun e => ⟨(h.r7 e).1, Nat.lt_succ_of_lt (h.r7 e).2⟩
  g7 := fun e f => (cp (Nat.ne_of_lt (h.r7 e).2)).trans (h.g7 e f)
  f10 := h.f10
  g10 := fun f => have e := h.e10 f; (cp (Nat.ne_of_lt (h.r7 e).2)).trans (h.g10 f)
  f11 := fun _ => rfl
  r11 := fun _ => ⟨by omega, Nat.lt_succ_self _⟩
  g11 := fun _ _ => jt _ _ _
  f14 := fun e => nomatch e
  g14 := fun e => nomatch e
  f15 := fun e => nomatch e
  f16 := h.f16
  r16 := fun e => ⟨(h.r16 e).1, Nat.lt_succ_of_lt (h.r16 e).2⟩
  g16 := fun e f => (cp (Nat.ne_of_lt (h.r16 e).2)).trans (h.g16 e f)
  f17 := fun f => nomatch h.e18 f
  ab := h.ab
  ac := fun e _ => Nat.ne_of_lt (h.r3 e).2
  ad := h.ad
  bc := fun e _ => Nat.ne_of_lt (h.r7 e).2
  bd := h.bd
  cd := fun _ e => (Nat.ne_of_lt (h.r16 e).2).symm
  G := fun m h1 h2 h3 h4 => (cp (h3 rfl)).trans (h.G m h1 h2 (fun e => nomatch e) h4)
  e6 := h.e6
  e10 := h.e10
  e14 := fun e => nomatch e
  e17 := h.e17
  e18 := h.e18
  q2 := h.q2
  q6 := h.q6
  q10 := h.q10
  q14 := h.q14 }
theorem TwS.step14 (h : TwS p eR eP G0 n0 nn df l0 A0 b2 b3 b6 b7 b10 true false b15 b16 b17 st a b c d va vb vc) (k15 : b15 = false) (w : Nat) : TwS p eR eP G0 n0 nn df l0 A0 b2 b3 b6 b7 b10 true true b15 b16 b17 (St.put { st with G := aj st.G c (.arr w 0 eP 6 p.pages.length (bv p.pages)) } (some 19) (.own c w p.pages.length)) a b c d va vb w := by
 subst k15
 exact {
  n := h.n
  df := h.df
  l := h.l
  nx := h.nx
  s := fun i hi => by show (bif Nat.beq 19 i then _ else bk st.l st.r i) = _; rw [og hi rfl]; exact h.s i hi
  x10 := h.x10
  x14 := h.x14
  x18 := h.x18
  x6 := h.x6
  f2 := h.f2
  f3 := h.f3
  r3 := h.r3
  g3 := fun e f => (cp (h.ac e rfl)).trans (h.g3 e f)
  f6 := h.f6
  g6 := fun f => have e := h.e6 f; (cp (h.ac e rfl)).trans (h.g6 f)
  f7 := h.f7
  r7 := h.r7
  g7 := fun e f => (cp (h.bc e rfl)).trans (h.g7 e f)
  f10 := h.f10
  g10 := fun f => have e := h.e10 f; (cp (h.bc e rfl)).trans (h.g10 f)
  f11 := h.f11
  r11 := h.r11
  g11 := fun _ e => nomatch e
  f14 := fun _ => rfl
  g14 := fun _ => jt _ _ _
  f15 := fun e => nomatch e
  f16 := h.f16
  r16 := h.r16
  g16 := fun e f => (cp (h.cd rfl e).symm).trans (h.g16 e f)
  f17 := fun f => nomatch h.e18 f
  ab := h.ab
  ac := h.ac
  ad := h.ad
  bc := h.bc
  bd := h.bd
  cd := h.cd
  G := fun m h1 h2 h3 h4 => (cp (h3 rfl)).trans (h.G m h1 h2 h3 h4)
  e6 := h.e6
  e10 := h.e10
  e14 := fun _ => rfl
  e17 := h.e17
  e18 := h.e18
  q2 := h.q2
  q6 := h.q6
  q10 := h.q10
  q14 := fun _ => rfl }
theorem TwS.step15 (h : TwS p eR eP G0 n0 nn df l0 A0 true b3 true b7 true b11 true false b16 b17 st a b c d va vb vc) : TwS p eR eP G0 n0 nn df l0 A0 true b3 true b7 true b11 true true b16 b17 (st.put (some 20) (.agg [lst p.text, .own a va p.firsts.length, .own b vb p.seconds.length, .own c vc p.pages.length])) a b c d va vb vc := by
 exact {
  n := h.n
  df := h.df
  l := h.l
  nx := h.nx
  s := fun i hi => by show (bif Nat.beq 20 i then _ else bk st.l st.r i) = _; rw [og hi rfl]; exact h.s i hi
  x10 := h.x10
  x14 := h.x14
  x18 := h.x18
  x6 := h.x6
  f2 := h.f2
  f3 := h.f3
  r3 := h.r3
  g3 := h.g3
  f6 := h.f6
  g6 := h.g6
  f7 := h.f7
  r7 := h.r7
  g7 := h.g7
  f10 := h.f10
  g10 := h.g10
  f11 := h.f11
  r11 := h.r11
  g11 := h.g11
  f14 := h.f14
  g14 := h.g14
  f15 := fun _ => rfl
  f16 := h.f16
  r16 := h.r16
  g16 := h.g16
  f17 := h.f17
  ab := h.ab
  ac := h.ac
  ad := h.ad
  bc := h.bc
  bd := h.bd
  cd := h.cd
  G := h.G
  e6 := h.e6
  e10 := h.e10
  e14 := h.e14
  e17 := h.e17
  e18 := fun _ => rfl
  q2 := fun _ => rfl
  q6 := fun _ => rfl
  q10 := fun _ => rfl
  q14 := fun _ => rfl }
theorem TwS.step16 (h : TwS p eR eP G0 n0 nn df l0 A0 b2 b3 b6 b7 b10 b11 b14 b15 false b17 st a b c d va vb vc) (k : b17 = false) : TwS p eR eP G0 n0 nn df l0 A0 b2 b3 b6 b7 b10 b11 b14 b15 true b17 (St.put { st with G := aj st.G st.nx (.box 0 [.list [] .nil, .list [] .nil, .list [] .nil, .list [] .nil]), nx := st.nx + 1 } (some 3) (.box st.nx 0 0)) a b c st.nx va vb vc := by
 have hnx := h.nx
 subst k
 exact {
  n := h.n
  df := h.df
  l := h.l
  nx := by show st.nx + 1 = _; rw [hnx]; simp only [Bool.toNat_true, Bool.toNat_false] <;> omega
  s := fun i hi => by show (bif Nat.beq 3 i then _ else bk st.l st.r i) = _; rw [og hi rfl]; exact h.s i hi
  x10 := h.x10
  x14 := h.x14
  x18 := h.x18
  x6 := h.x6
  f2 := h.f2
  f3 := h.f3
  r3 := fun e => ⟨(h.r3 e).1, Nat.lt_succ_of_lt (h.r3 e).2⟩
  g3 := fun e f => (cp (Nat.ne_of_lt (h.r3 e).2)).trans (h.g3 e f)
  f6 := h.f6
  g6 := fun f => have e := h.e6 f; (cp (Nat.ne_of_lt (h.r3 e).2)).trans (h.g6 f)
  f7 := h.f7
  r7 := fun e => ⟨(h.r7 e).1, Nat.lt_succ_of_lt (h.r7 e).2⟩
  g7 := fun e f => (cp (Nat.ne_of_lt (h.r7 e).2)).trans (h.g7 e f)
  f10 := h.f10
  g10 := fun f => have e := h.e10 f; (cp (Nat.ne_of_lt (h.r7 e).2)).trans (h.g10 f)
  f11 := h.f11
  r11 := fun e => ⟨(h.r11 e).1, Nat.lt_succ_of_lt (h.r11 e).2⟩
  g11 := fun e f => (cp (Nat.ne_of_lt (h.r11 e).2)).trans (h.g11 e f)
  f14 := h.f14
  g14 := fun f => have e := h.e14 f; (cp (Nat.ne_of_lt (h.r11 e).2)).trans (h.g14 f)
  f15 := h.f15
  f16 := fun _ => rfl
  r16 := fun _ => ⟨by omega, Nat.lt_succ_self _⟩
  g16 := fun _ _ => jt _ _ _
  f17 := fun e => nomatch e
  ab := h.ab
  ac := h.ac
  ad := fun e _ => Nat.ne_of_lt (h.r3 e).2
  bc := h.bc
  bd := fun e _ => Nat.ne_of_lt (h.r7 e).2
  cd := fun e _ => Nat.ne_of_lt (h.r11 e).2
  G := fun m h1 h2 h3 h4 => (cp (h4 rfl)).trans (h.G m h1 h2 h3 (fun e => nomatch e))
  e6 := h.e6
  e10 := h.e10
  e14 := h.e14
  e17 := fun e => nomatch e
  e18 := fun e => nomatch e
  q2 := h.q2
  q6 := h.q6
  q10 := h.q10
  q14 := h.q14 }
theorem TwS.step17 (h : TwS p eR eP G0 n0 nn df l0 A0 b2 b3 b6 b7 b10 b11 b14 true true false st a b c d va vb vc) : TwS p eR eP G0 n0 nn df l0 A0 b2 b3 b6 b7 b10 b11 b14 true true true { st with G := aj st.G d (.box 1 [lst p.text, .own a va p.firsts.length, .own b vb p.seconds.length, .own c vc p.pages.length]) } a b c d va vb vc := by
 exact {
  n := h.n
  df := h.df
  l := h.l
  nx := h.nx
  s := h.s
  x10 := h.x10
  x14 := h.x14
  x18 := h.x18
  x6 := h.x6
  f2 := h.f2
  f3 := h.f3
  r3 := h.r3
  g3 := fun e f => (cp (h.ad e rfl)).trans (h.g3 e f)
  f6 := h.f6
  g6 := fun f => have e := h.e6 f; (cp (h.ad e rfl)).trans (h.g6 f)
  f7 := h.f7
  r7 := h.r7
  g7 := fun e f => (cp (h.bd e rfl)).trans (h.g7 e f)
  f10 := h.f10
  g10 := fun f => have e := h.e10 f; (cp (h.bd e rfl)).trans (h.g10 f)
  f11 := h.f11
  r11 := h.r11
  g11 := fun e f => (cp (h.cd e rfl)).trans (h.g11 e f)
  f14 := h.f14
  g14 := fun f => have e := h.e14 f; (cp (h.cd e rfl)).trans (h.g14 f)
  f15 := h.f15
  f16 := h.f16
  r16 := h.r16
  g16 := fun _ e => nomatch e
  f17 := fun _ => jt _ _ _
  ab := h.ab
  ac := h.ac
  ad := h.ad
  bc := h.bc
  bd := h.bd
  cd := h.cd
  G := fun m h1 h2 h3 h4 => (cp (h4 rfl)).trans (h.G m h1 h2 h3 h4)
  e6 := h.e6
  e10 := h.e10
  e14 := h.e14
  e17 := fun _ => rfl
  e18 := fun _ => rfl
  q2 := h.q2
  q6 := h.q6
  q10 := h.q10
  q14 := h.q14 }
end
end Go.AB
namespace Go.AB
open Go Go.RowKit
theorem n1 {ops : Array Oper} {st : St} {o : Oper} (h1 : r6 o.op = false) (h2 : o.guard = none) : ei ops st o = some true := by
 unfold ei um
 rw [h1, h2]; rfl
theorem l8 {st : St} {i n : Nat} {c : C} (hn : st.n = n) (hi : Nat.blt i n = true) (h : bk st.l st.r i = c) : st.at i = c := by
 unfold St.at
 rw [hn, hi]; exact h
theorem nt {a b : Bool} (h : a = true → b = true) (hb : b = false) : a = false := by
 cases a
 ·rfl
 rw [h rfl] at hb; cases hb
end Go.AB
namespace Go.Proofs.YtbbdginipiljdaaDoor
set_option maxRecDepth 10000
open Go Go.RowKit Go.AB
open Go.AB.Enc (cells)
open Go.PB (ar ai PlaceD az bf ba bj am af ci bi cy c6)
theorem ueh {p : af} (h : l3 p = false) : li p.text = false ∧ p.firsts.length ≤ 6 ∧ p.seconds.length ≤ 6 ∧ p.pages.length ≤ 12 ∧ ∀ x ∈ p.pages, x.found.length ≤ 200 ∧ x.well.length ≤ 200 := by
 unfold l3 at h
 simp only [Bool.or_eq_false_iff, decide_eq_false_iff_not, List.any_eq_false] at h
 obtain ⟨⟨⟨⟨h1, h2⟩, h3⟩, h4⟩, h5⟩ := h
 refine ⟨h1, by omega, by omega, by omega, fun x hx => ?_⟩
 have := h5 x hx
 simp only [kh, Bool.or_eq_true, decide_eq_true_eq, not_or] at this
 omega
abbrev TwI (p : af) (G0 : Nat → Option GObj) (n0 df : Nat) (l0 : List C) (A0 : Nat → C) (l : List Bool) (st : St) : Prop :=
 ∃ b2 b3 b6 b7 b10 b11 b14 b15 b16 b17 a b c d va vb vc, l = [true, true, b2, b3, true, true, b6, b7, true, true, b10, b11, true, true, b14, b15, b16, b17] ∧ TwS p 66 70 G0 n0 55 df l0 A0 b2 b3 b6 b7 b10 b11 b14 b15 b16 b17 st a b c d va vb vc
set_option maxHeartbeats 1000000 in
theorem uhm (p : af) (hg : l3 p = false) {ol : List Oper} {K : St → Prop} {late : Nat → Bool} (st0 : St) (hlen : ol.length = 18) (hf : uo ol = true) (hgd : ∀ o ∈ ol, o.guard = none)
  (hd : ol.map mz = [[], [0], [1], [], [], [4], [3, 5, 2], [], [], [8], [7, 9, 6], [], [], [12], [11, 13, 10], [2, 6, 10, 14], [], [16, 15, 14, 0, 1, 2, 3, 4, 5, 6, 7, 8, 9, 10, 11, 12, 13, 14, 15, 16]])
  (hq : ol.map (·.dst) = [some 5, some 6, some 7, some 8, some 9, some 10, some 11, some 12, some 13, some 14, some 15, some 16, some 17, some 18, some 19, some 20, some 3, none])
  (ho : (ol.map (·.op)).drop 2 = [.call { callee := .value (.func 40), args := #[.tmp 6], argTypes := #[24] }, .buildSlice 25 0 #[], .fieldAddr 28 (.tmp 1) 1, .load 25 (.tmp 9),
   .call { callee := .builtin .append, args := #[.tmp 8, .tmp 10], argTypes := #[25, 25] }, .buildSlice 25 0 #[], .fieldAddr 28 (.tmp 1) 2, .load 25 (.tmp 13),
   .call { callee := .builtin .append, args := #[.tmp 12, .tmp 14], argTypes := #[25, 25] }, .buildSlice 26 0 #[], .fieldAddr 28 (.tmp 1) 3, .load 26 (.tmp 17),
   .call { callee := .builtin .append, args := #[.tmp 16, .tmp 18], argTypes := #[26, 26] }, .build 28 #[(0, .tmp 7), (1, .tmp 11), (2, .tmp 15), (3, .tmp 19)], .alloc 28, .store 28 (.tmp 3) (.tmp 20)])
  (hn : st0.n = 55) (h6 : bk st0.l st0.r 6 = gl p.text) (h10 : bk st0.l st0.r 10 = lst p.firsts) (h14 : bk st0.l st0.r 14 = lst p.seconds) (h18 : bk st0.l st0.r 18 = lst p.pages)
  (hK : ∀ st a b c d va vb vc, TwS p 66 70 st0.G st0.nx 55 st0.df st0.l (bk st0.l st0.r) true true true true true true true true true true st a b c d va vb vc → K st) :
  ma Tryd.prog ol K late 10 (rl [2, 2, 2, 2, 2, 2, 2, 4]) st0 := by
 obtain ⟨g1, g2, g3, g4, g5⟩ := ueh hg
 have hop : ∀ {i : Nat} {o : Oper}, ol[i]? = some o → ∀ {q : Op}, (ol.map (·.op))[i]? = some q → o.op = q := fun {i o} h {q} k => by
  rw [List.getElem?_map, h] at k; exact Option.some.inj k
 have hdst : ∀ {i : Nat} {o : Oper}, ol[i]? = some o → ∀ {q : Option Tmp}, (ol.map (·.dst))[i]? = some q → o.dst = q := fun {i o} h {q} k => by
  rw [List.getElem?_map, h] at k; exact Option.some.inj k
 have hdep : ∀ {i : Nat} {o : Oper}, ol[i]? = some o → ∀ {q : List Nat}, (ol.map mz)[i]? = some q → mz o = q := fun {i o} h {q} k => by
  rw [List.getElem?_map, h] at k; exact Option.some.inj k
 have hop2 : ∀ {i : Nat} {o : Oper}, ol[i + 2]? = some o → ∀ {q : Op}, ((ol.map (·.op)).drop 2)[i]? = some q → o.op = q := fun {i o} h {q} k => by
  rw [List.getElem?_drop, Nat.add_comm] at k
  exact hop h k
 refine ua4 (TwI p st0.G st0.nx st0.df st0.l (bk st0.l st0.r)) hf ?_ ?_ ?_ 10 _ st0 ?_ rfl
 ·rintro l st ⟨b2, b3, b6, b7, b10, b11, b14, b15, b16, b17, a, b, c, d, va, vb, vc, rfl, h⟩
  rw [hlen]; rfl
 ·rintro l st i o ⟨b2, b3, b6, b7, b10, b11, b14, b15, b16, b17, a, b, c, d, va, vb, vc, rfl, h⟩ hi hoff hdeps
  have hlt := (List.getElem?_eq_some_iff.1 hi).1
  have hgo := hgd o (List.mem_of_getElem? hi)
  rw [hlen] at hlt
  refine ⟨o, hi, .inl ?_⟩
  have hcase : i = 0 ∨ i = 1 ∨ i = 2 ∨ i = 3 ∨ i = 4 ∨ i = 5 ∨ i = 6 ∨ i = 7 ∨ i = 8 ∨ i = 9 ∨ i = 10 ∨ i = 11 ∨ i = 12 ∨ i = 13 ∨ i = 14 ∨ i = 15 ∨ i = 16 ∨ i = 17 := by omega
  rcases hcase with rfl | rfl | rfl | rfl | rfl | rfl | rfl | rfl | rfl | rfl | rfl | rfl | rfl | rfl | rfl | rfl | rfl | rfl
  ·cases hoff
  ·cases hoff
  ·-- the text
   have e1 := hop2 (i := 0) hi (by rw [ho]; rfl)
   have e2 := hdst hi (by rw [hq]; rfl)
   obtain rfl : b2 = false := Option.some.inj hoff
   refine ⟨n1 (by rw [e1]; rfl) hgo, ax (caps := []) (args := [.tmp 6]) e1 rfl (congrArg (fun c => [c]) (l8 h.n rfl h.x6)) (uo9 p.text g1) ?_⟩
   rw [e2]
   exact ⟨true, b3, b6, b7, b10, b11, b14, b15, b16, b17, a, b, c, d, va, vb, vc, rfl, h.step2⟩
  ·have e1 := hop2 (i := 1) hi (by rw [ho]; rfl)
   have e2 := hdst hi (by rw [hq]; rfl)
   obtain rfl : b3 = false := Option.some.inj hoff
   refine ⟨n1 (by rw [e1]; rfl) hgo, ux e1 (by decide) ?_⟩
   rw [e2]
   exact ⟨b2, true, b6, b7, b10, b11, b14, b15, b16, b17, st.nx, b, c, d, va, vb, vc, rfl, h.step3 (nt h.e6 rfl) (nt (fun e => h.e6 (h.q6 e)) rfl)⟩
  ·cases hoff
  ·cases hoff
  ·have e1 := hop2 (i := 4) hi (by rw [ho]; rfl)
   have e2 := hdst hi (by rw [hq]; rfl)
   have e3 := hdep hi (by rw [hd]; rfl)
   obtain rfl : b6 = false := Option.some.inj hoff
   obtain rfl : b3 = true := Option.some.inj (hdeps 3 (by rw [e3]; simp))
   refine ⟨n1 (by rw [e1]; rfl) hgo, o1 (xs := ([] : List bj)) p.firsts e1 (l8 h.n rfl (h.f3 rfl)) (h.g3 rfl rfl) rfl rfl (l8 h.n rfl h.x10) rfl (by simp only [List.length_nil]; omega) (by simp only [List.length_nil]; omega) (fun v => ?_)⟩
   rw [e2]
   exact ⟨b2, true, true, b7, b10, b11, b14, b15, b16, b17, a, b, c, d, v, vb, vc, rfl, h.step6 (nt h.q6 rfl) v⟩
  ·have e1 := hop2 (i := 5) hi (by rw [ho]; rfl)
   have e2 := hdst hi (by rw [hq]; rfl)
   obtain rfl : b7 = false := Option.some.inj hoff
   refine ⟨n1 (by rw [e1]; rfl) hgo, ux e1 (by decide) ?_⟩
   rw [e2]
   exact ⟨b2, b3, b6, true, b10, b11, b14, b15, b16, b17, a, st.nx, c, d, va, vb, vc, rfl, h.step7 (nt h.e10 rfl) (nt (fun e => h.e10 (h.q10 e)) rfl)⟩
  ·cases hoff
  ·cases hoff
  ·have e1 := hop2 (i := 8) hi (by rw [ho]; rfl)
   have e2 := hdst hi (by rw [hq]; rfl)
   have e3 := hdep hi (by rw [hd]; rfl)
   obtain rfl : b10 = false := Option.some.inj hoff
   obtain rfl : b7 = true := Option.some.inj (hdeps 7 (by rw [e3]; simp))
   refine ⟨n1 (by rw [e1]; rfl) hgo, o1 (xs := ([] : List bj)) p.seconds e1 (l8 h.n rfl (h.f7 rfl)) (h.g7 rfl rfl) rfl rfl (l8 h.n rfl h.x14) rfl (by simp only [List.length_nil]; omega) (by simp only [List.length_nil]; omega) (fun v => ?_)⟩
   rw [e2]
   exact ⟨b2, b3, b6, true, true, b11, b14, b15, b16, b17, a, b, c, d, va, v, vc, rfl, h.step10 (nt h.q10 rfl) v⟩
  ·have e1 := hop2 (i := 9) hi (by rw [ho]; rfl)
   have e2 := hdst hi (by rw [hq]; rfl)
   obtain rfl : b11 = false := Option.some.inj hoff
   refine ⟨n1 (by rw [e1]; rfl) hgo, ux e1 (by decide) ?_⟩
   rw [e2]
   exact ⟨b2, b3, b6, b7, b10, true, b14, b15, b16, b17, a, b, st.nx, d, va, vb, vc, rfl, h.step11 (nt h.e14 rfl) (nt (fun e => h.e14 (h.q14 e)) rfl)⟩
  ·cases hoff
  ·cases hoff
  ·have e1 := hop2 (i := 12) hi (by rw [ho]; rfl)
   have e2 := hdst hi (by rw [hq]; rfl)
   have e3 := hdep hi (by rw [hd]; rfl)
   obtain rfl : b14 = false := Option.some.inj hoff
   obtain rfl : b11 = true := Option.some.inj (hdeps 11 (by rw [e3]; simp))
   refine ⟨n1 (by rw [e1]; rfl) hgo, o1 (xs := ([] : List am)) p.pages e1 (l8 h.n rfl (h.f11 rfl)) (h.g11 rfl rfl) rfl rfl (l8 h.n rfl h.x18) rfl (by simp only [List.length_nil]; omega) (by simp only [List.length_nil]; omega) (fun v => ?_)⟩
   rw [e2]
   exact ⟨b2, b3, b6, b7, b10, true, true, b15, b16, b17, a, b, c, d, va, vb, v, rfl, h.step14 (nt h.q14 rfl) v⟩
  ·-- the whole
   have e1 := hop2 (i := 13) hi (by rw [ho]; rfl)
   have e2 := hdst hi (by rw [hq]; rfl)
   have e3 := hdep hi (by rw [hd]; rfl)
   obtain rfl : b15 = false := Option.some.inj hoff
   obtain rfl : b2 = true := Option.some.inj (hdeps 2 (by rw [e3]; simp))
   obtain rfl : b6 = true := Option.some.inj (hdeps 6 (by rw [e3]; simp))
   obtain rfl : b10 = true := Option.some.inj (hdeps 10 (by rw [e3]; simp))
   obtain rfl : b14 = true := Option.some.inj (hdeps 14 (by rw [e3]; simp))
   refine ⟨n1 (by rw [e1]; rfl) hgo, EStep.mono (SStep.e (D := fun _ => True) (NStep.s (gy (cs := [lst p.text, .own a va p.firsts.length, .own b vb p.seconds.length, .own c vc p.pages.length]) (parts := [(0, .tmp 7), (1, .tmp 11), (2, .tmp 15), (3, .tmp 19)]) e1 ?_))) fun st' hst' => ?_⟩
   ·show sf _ _ [(0, st.at 7), (1, st.at 11), (2, st.at 15), (3, st.at 19)] = _
    rw [l8 h.n rfl (h.f2 rfl), l8 h.n rfl (h.f6 rfl), l8 h.n rfl (h.f10 rfl), l8 h.n rfl (h.f14 rfl)]
    rfl
   subst hst'
   rw [e2]
   exact ⟨true, b3, true, b7, true, b11, true, true, b16, b17, a, b, c, d, va, vb, vc, rfl, h.step15⟩
  ·have e1 := hop2 (i := 14) hi (by rw [ho]; rfl)
   have e2 := hdst hi (by rw [hq]; rfl)
   obtain rfl : b16 = false := Option.some.inj hoff
   refine ⟨n1 (by rw [e1]; rfl) hgo, dd (cs := [.list [] .nil, .list [] .nil, .list [] .nil, .list [] .nil]) e1 ?_⟩
   rw [e2]
   exact ⟨b2, b3, b6, b7, b10, b11, b14, b15, true, b17, a, b, c, st.nx, va, vb, vc, rfl, h.step16 (nt h.e17 rfl)⟩
  have e1 := hop2 (i := 15) hi (by rw [ho]; rfl)
  have e2 := hdst hi (by rw [hq]; rfl)
  have e3 := hdep hi (by rw [hd]; rfl)
  obtain rfl : b17 = false := Option.some.inj hoff
  obtain rfl : b15 = true := Option.some.inj (hdeps 15 (by rw [e3]; simp))
  obtain rfl : b16 = true := Option.some.inj (hdeps 16 (by rw [e3]; simp))
  refine ⟨n1 (by rw [e1]; rfl) hgo, ct (new := [lst p.text, .own a va p.firsts.length, .own b vb p.seconds.length, .own c vc p.pages.length]) e1 e2 (l8 h.n rfl (h.f16 rfl)) (h.g16 rfl rfl) (by rw [show evC st (.tmp 20) = _ from l8 h.n rfl (h.f15 rfl)]; rfl) rfl rfl ?_⟩
  exact ⟨b2, b3, b6, b7, b10, b11, b14, true, true, true, a, b, c, d, va, vb, vc, rfl, h.step17⟩
 ·rintro l st ⟨b2, b3, b6, b7, b10, b11, b14, b15, b16, b17, a, b, c, d, va, vb, vc, rfl, h⟩ hall
  rw [hlen] at hall
  obtain rfl : b2 = true := Option.some.inj (hall 2 (by omega))
  obtain rfl : b3 = true := Option.some.inj (hall 3 (by omega))
  obtain rfl : b6 = true := Option.some.inj (hall 6 (by omega))
  obtain rfl : b7 = true := Option.some.inj (hall 7 (by omega))
  obtain rfl : b10 = true := Option.some.inj (hall 10 (by omega))
  obtain rfl : b11 = true := Option.some.inj (hall 11 (by omega))
  obtain rfl : b14 = true := Option.some.inj (hall 14 (by omega))
  obtain rfl : b15 = true := Option.some.inj (hall 15 (by omega))
  obtain rfl : b16 = true := Option.some.inj (hall 16 (by omega))
  obtain rfl : b17 = true := Option.some.inj (hall 17 (by omega))
  exact hK st a b c d va vb vc h
 refine ⟨false, false, false, false, false, false, false, false, false, false, 0, 0, 0, 0, 0, 0, 0, rfl, ?_⟩
 exact { n := hn, df := rfl, l := rfl, nx := rfl, s := fun _ _ => rfl, x10 := h10, x14 := h14, x18 := h18, x6 := h6, f2 := (fun e => nomatch e), f3 := (fun e => nomatch e), r3 := (fun e => nomatch e), g3 := (fun e => nomatch e), f6 := (fun e => nomatch e), g6 := (fun e => nomatch e), f7 := (fun e => nomatch e), r7 := (fun e => nomatch e), g7 := (fun e => nomatch e), f10 := (fun e => nomatch e), g10 := (fun e => nomatch e), f11 := (fun e => nomatch e), r11 := (fun e => nomatch e), g11 := (fun e => nomatch e), f14 := (fun e => nomatch e), g14 := (fun e => nomatch e), f15 := (fun e => nomatch e), f16 := (fun e => nomatch e), r16 := (fun e => nomatch e), g16 := (fun e => nomatch e), f17 := (fun e => nomatch e), ab := (fun e => nomatch e), ac := (fun e => nomatch e), ad := (fun e => nomatch e), bc := (fun e => nomatch e), bd := (fun e => nomatch e), cd := (fun e => nomatch e), G := fun _ _ _ _ _ => rfl, e6 := (fun e => nomatch e), e10 := (fun e => nomatch e), e14 := (fun e => nomatch e), e17 := (fun e => nomatch e), e18 := (fun e => nomatch e), q2 := (fun e => nomatch e), q6 := (fun e => nomatch e), q10 := (fun e => nomatch e), q14 := (fun e => nomatch e) }
theorem uco {cs : List C} {i : Nat} {c c0 : C} (h : cs[i]? = some c0) : (putAt cs i [c])[i]? = some c := by
 show (cs.set i c)[i]? = some c
 rw [List.getElem?_set_self (List.getElem?_eq_some_iff.1 h).1]
theorem uj5 {l : List am} {k : Nat} {x : am} (h : l[k]? = some x) : (bv l)[k * 6 + 4]? = some (lst x.found) ∧ (bv l)[k * 6 + 5]? = some (lst x.well) := by
 have h1 : (bv l)[k * Enc.n am + 4]? = some (lst x.found) := l4 h rfl
 have h2 : (bv l)[k * Enc.n am + 5]? = some (lst x.well) := l4 h rfl
 exact ⟨h1, h2⟩
end Go.Proofs.YtbbdginipiljdaaDoor
namespace Go.AB
open Go Go.RowKit
section
theorem uj1 {Y : Type} {P : Program} {f : FuncId} {fn : Func} {c : Code} {args : List C} {G : Nat → Option GObj} {nx : Nat} (r : Y → C) (g : Y → Nat → Option GObj) (m : Y → Nat) (S : Y → Prop) (hf : P.funcs[f]? = some fn) (hb : fn.body = some c) (hl : ∀ y, S y → (r y).low (m y)) (hm : ∀ y, S y → nx ≤ m y) (hg : (∀ n o, G n = some o → n < nx) → ∀ y, S y → ∀ n o, g y n = some o → G n = some o ∨ (n < m y ∧ o.low (m y)))
  (h : AW none P c (fun e st => ∃ y, S y ∧ n9 P fn (r y) (g y) (m y) e st) { n := args.length + (fn.ntmps - args.length), l := args, r := [], G := G, nx := nx }) : PC P f args G nx fun r' G' nx' => ∃ y, S y ∧ r' = r y ∧ G' = g y ∧ nx' = m y := by
 intro E w vs hr hg0
 have key := y9 (K := fun r' G' nx' => ∃ y, S y ∧ r' = r y ∧ m y ≤ nx' ∧ ∀ n o, g y n = some o → G' n = some o) hf hb (AW.mono h fun e st hq => by
  obtain ⟨y, hs, hq⟩ := hq
  cases e with
  | normal => exact ⟨r y, hq.1, y, hs, rfl, hq.2.1, hq.2.2⟩
  | ret => exact ⟨r y, hq.1, y, hs, rfl, hq.2.1, hq.2.2⟩
  | _ => exact hq)
 refine (key E w vs hr hg0).mono ?_
 rintro e w' ⟨r', v, E', G', nx', e1, e2, e3, e4, y, hS, rfl, e5, e6⟩
 have hnx := hg0.nx
 have hm0 := hm y hS
 refine ⟨r y, v, E'.drop (m y), g y, m y, e1, e2.drop (by omega), e3.drop (hl y hS), ?_, y, hS, rfl, rfl, rfl⟩
 refine (e4.weak e6).drop fun n o ho => ?_
 rcases hg (fun n o ho => (hg0.lowG ho).1) y hS n o ho with h1 | h1
 ·have := hg0.lowG h1
  exact ⟨by omega, GObj.low_mono this.2 hm0⟩
 ·exact h1
theorem um9 {Y : Type} {P : Program} {o : Oper} {st : St} {K : St → Prop} {f : FuncId} [Fun P f] {fv : Operand} {args : List Operand} {ats : Array TypeId} {caps as0 : List C} {r : Y → C} {g : Y → Nat → Option GObj} {m : Y → Nat} {S : Y → Prop} (ho : o.op = .call { callee := .value fv, args := args.toArray, argTypes := ats }) (hf : evC st fv = .fn (.func f) caps) (has : args.map (evC st) ++ caps = as0)
  (hp : PC P f as0 st.G st.nx fun r' G' nx' => ∃ y, S y ∧ r' = r y ∧ G' = g y ∧ nx' = m y) (h : ∀ y, S y → K (St.put { st with G := g y, nx := m y } o.dst (r y))) : EStep P o st K :=
 xi ho hf has (hp.mono fun r' G' nx' ⟨y, hs, e1, e2, e3⟩ => by subst e1; subst e2; subst e3; exact h y hs)
end
end Go.AB
namespace Go.Proofs.YtbbdginipiljdaaDoor
set_option maxRecDepth 10000
open Go Go.RowKit Go.AB
open Go.AB.Enc (cells)
open Go.PB (ar ai PlaceD az bf ba bj am af ci bi cy c6)
set_option maxHeartbeats 2000000 in
theorem ujs (p : af) (hg : l3 p = false) (G : Nat → Option GObj) (nx : Nat) : PC Tryd.prog 11 [val p] G nx fun r' G' nx' => ∃ y : Nat × Nat × Nat × Nat × Nat × Nat, ((nx ≤ y.1 ∧ nx ≤ y.2.1 ∧ nx ≤ y.2.2.1) ∧ (y.1 < nx + 5 ∧ y.2.1 < nx + 5 ∧ y.2.2.1 < nx + 5) ∧ y.1 ≠ y.2.1 ∧ y.1 ≠ y.2.2.1 ∧ y.2.1 ≠ y.2.2.1) ∧ r' = (.agg [lst p.text, .own y.1 y.2.2.2.1 p.firsts.length, .own y.2.1 y.2.2.2.2.1 p.seconds.length, .own y.2.2.1 y.2.2.2.2.2 p.pages.length]) ∧ G' = (aj (aj (aj G y.1 (.arr y.2.2.2.1 0 66 2 p.firsts.length (bv p.firsts))) y.2.1 (.arr y.2.2.2.2.1 0 66 2 p.seconds.length (bv p.seconds))) y.2.2.1 (.arr y.2.2.2.2.2 (2 * p.pages.length) 70 6 p.pages.length (bv p.pages))) ∧ nx' = nx + 5 := by
 refine uj1 (fun y : Nat × Nat × Nat × Nat × Nat × Nat => (.agg [lst p.text, .own y.1 y.2.2.2.1 p.firsts.length, .own y.2.1 y.2.2.2.2.1 p.seconds.length, .own y.2.2.1 y.2.2.2.2.2 p.pages.length])) (fun y => (aj (aj (aj G y.1 (.arr y.2.2.2.1 0 66 2 p.firsts.length (bv p.firsts))) y.2.1 (.arr y.2.2.2.2.1 0 66 2 p.seconds.length (bv p.seconds))) y.2.2.1 (.arr y.2.2.2.2.2 (2 * p.pages.length) 70 6 p.pages.length (bv p.pages)))) (fun _ => nx + 5) (fun y => (nx ≤ y.1 ∧ nx ≤ y.2.1 ∧ nx ≤ y.2.2.1) ∧ (y.1 < nx + 5 ∧ y.2.1 < nx + 5 ∧ y.2.2.1 < nx + 5) ∧ y.1 ≠ y.2.1 ∧ y.1 ≠ y.2.2.1 ∧ y.2.1 ≠ y.2.2.1) Tryd.func11 rfl (fun y hS => .agg (bx (bp _ _) (bx (.own hS.2.1.1) (bx (.own hS.2.1.2.1) (bx (.own hS.2.1.2.2) c7))))) (fun y hS => zN) (fun hlt y hS => (by (repeat' (refine k8 ?_ (by (try dsimp only); omega) ?_)); all_goals (first | exact ld zS | (repeat' (first | exact trivial | refine ⟨?_, ?_⟩ | exact .v | exact .any | refine .elem ?_ | exact bp _ _ | exact fe _ _ | exact ec _ _ | exact fk _ (by (try dsimp only); omega) | exact .box (by (try dsimp only); omega) | exact ey | exact c7 | exact el _ | refine fm ?_ ?_ | exact .arr (by (try dsimp only); omega) | exact .own (by (try dsimp only); omega) | exact .map (by (try dsimp only); omega) | exact el _ | refine bx ?_ ?_ | exact bp _ _))))) ?_
 simp only [Tryd.ntmps11, List.length_cons, List.length_nil, Nat.reduceAdd, Nat.reduceSub]
 refine br fun hlt => ?_
 dsimp only at hlt
 obtain ⟨g1, g2, g3, g4, g5⟩ := ueh hg
 refine yS fun _ K1 => ?_
 refine yR ?_
 try dsimp only [St.put]
 refine yB rfl rfl rfl ?_
 try dsimp only [St.put]
 refine ae rfl (dd rfl ?_)
 refine yN ?_
 dsimp only [St.put]
 refine K1 _ ?_
 refine cr 4 ?_
 refine zQ ?_
 refine uod (X := Nat × Nat × Nat × Nat × Nat × Nat × Nat) (fun y => (nx + 1 ≤ y.1 ∧ nx + 1 ≤ y.2.1 ∧ nx + 1 ≤ y.2.2.1 ∧ nx + 1 ≤ y.2.2.2.1) ∧ (y.1 < nx + 5 ∧ y.2.1 < nx + 5 ∧ y.2.2.1 < nx + 5 ∧ y.2.2.2.1 < nx + 5) ∧ (y.1 ≠ y.2.1 ∧ y.1 ≠ y.2.2.1 ∧ y.1 ≠ y.2.2.2.1 ∧ y.2.1 ≠ y.2.2.1 ∧ y.2.1 ≠ y.2.2.2.1 ∧ y.2.2.1 ≠ y.2.2.2.1)) (fun y => [(3, .box y.2.2.2.1 0 0)]) (fun y G' => (aj (aj (aj (aj (aj G nx (.box 0 [.list [] .nil, .list [] .nil, .list [] .nil, .list [] .nil])) y.1 (.arr y.2.2.2.2.1 0 66 2 p.firsts.length (bv p.firsts))) y.2.1 (.arr y.2.2.2.2.2.1 0 66 2 p.seconds.length (bv p.seconds))) y.2.2.1 (.arr y.2.2.2.2.2.2 (0) 70 6 p.pages.length (bv p.pages))) y.2.2.2.1 (.box 1 [lst p.text, .own y.1 y.2.2.2.2.1 p.firsts.length, .own y.2.1 y.2.2.2.2.2.1 p.seconds.length, .own y.2.2.1 y.2.2.2.2.2.2 p.pages.length]))) (fun _ => nx + 5) rfl ?_ ?_ ?_ ?_ ?_
 ·rintro ⟨a, b, q, d, va, vb, vq⟩ hI
  dsimp only at hI ⊢
  omega
 ·rintro ⟨a, b, q, d, va, vb, vq⟩ hI
  dsimp only at hI ⊢
  obtain ⟨⟨i1, i2, i3, i4⟩, ⟨j1, j2, j3, j4⟩, k1, k2, k3, k4, k5, k6⟩ := hI
  exact zL
 ·rintro ⟨a, b, q, d, va, vb, vq⟩ hI
  dsimp only at hI ⊢
  obtain ⟨⟨i1, i2, i3, i4⟩, ⟨j1, j2, j3, j4⟩, k1, k2, k3, k4, k5, k6⟩ := hI
  exact zH
 ·refine qv [(0, none), (1, none), (4, none), (5, none), (8, none), (9, none), (12, none), (13, none)] (fun _ => false) (fun i => [0, 4, 8, 12].contains i) 10 (rl [2, 2, 2, 2, 2, 2, 2, 4]) (by kernel_rfl) (by kernel_rfl) ?_
  refine ah rfl rfl rfl rfl (cj rfl rfl rfl) ?_
  try dsimp only [St.put]
  refine aw rfl rfl rfl rfl (c := gl p.text) (ju (cs := cells p) rfl rfl (show 1 ≤ 4 by decide)) ?_
  refine ah rfl rfl rfl rfl (cj rfl rfl rfl) ?_
  try dsimp only [St.put]
  refine aw rfl rfl rfl rfl (ca rfl rfl) ?_
  refine ah rfl rfl rfl rfl (cj rfl rfl rfl) ?_
  try dsimp only [St.put]
  refine aw rfl rfl rfl rfl (ca rfl rfl) ?_
  refine ah rfl rfl rfl rfl (cj rfl rfl rfl) ?_
  try dsimp only [St.put]
  refine aw rfl rfl rfl rfl (ca rfl rfl) ?_
  refine cg ?_
  refine uhm p hg _ rfl (by kernel_rfl) (by simp) rfl rfl rfl rfl rfl rfl rfl rfl fun st a b q d va vb vq h => ?_
  have hnx : st.nx = (nx + 1) + true.toNat + true.toNat + true.toNat + true.toNat := h.nx
  simp only [Bool.toNat_true] at hnx
  have r1 : nx + 1 ≤ a ∧ a < st.nx := h.r3 rfl
  have r2 : nx + 1 ≤ b ∧ b < st.nx := h.r7 rfl
  have r3 : nx + 1 ≤ q ∧ q < st.nx := h.r11 rfl
  have r4 : nx + 1 ≤ d ∧ d < st.nx := h.r16 rfl
  have t1 : a < nx + 5 := by omega
  have t2 : b < nx + 5 := by omega
  have t3 : q < nx + 5 := by omega
  have t4 : d < nx + 5 := by omega
  refine ⟨(a, b, q, d, va, vb, vq), ⟨⟨r1.1, r2.1, r3.1, r4.1⟩, ⟨t1, t2, t3, t4⟩, h.ab rfl rfl, h.ac rfl rfl, h.ad rfl rfl, h.bc rfl rfl, h.bd rfl rfl, h.cd rfl rfl⟩, ⟨h.n, h.df⟩, ⟨.inr (h.s 0 rfl), .inr (h.s 1 rfl), .inr (h.s 2 rfl), .inr (h.f16 rfl), trivial⟩, .inl rfl, by dsimp only; omega, ?_⟩
  refine te (h.f17 rfl) (te (h.g14 rfl) (te (h.g10 rfl) (te (h.g6 rfl) ?_)))
  intro m o hm
  have hml : m < nx + 1 := by
   by_cases e : m = nx
   ·omega
   rw [cp e] at hm
   have := hlt m o hm
   omega
  exact (h.G m (fun _ => by omega) (fun _ => by omega) (fun _ => by omega) (fun _ => by omega)).trans hm
 rintro ⟨a, b, q, d, va, vb, vq⟩ hI
 dsimp only at hI ⊢
 obtain ⟨⟨i1, i2, i3, i4⟩, ⟨j1, j2, j3, j4⟩, k1, k2, k3, k4, k5, k6⟩ := hI
 refine yS fun _ K3 => ?_
 refine yS fun _ K4 => ?_
 refine yR ?_
 refine yA rfl rfl ?_
 refine yN ?_
 dsimp only [St.put]
 refine K4 _ ?_
 refine bh ?_
 refine cr 5 ?_
 refine zQ ?_
 refine dl ((aj (aj (aj (aj (aj G nx (.box 0 [.list [] .nil, .list [] .nil, .list [] .nil, .list [] .nil])) a (.arr va 0 66 2 p.firsts.length (bv p.firsts))) b (.arr vb 0 66 2 p.seconds.length (bv p.seconds))) q (.arr vq (0) 70 6 p.pages.length (bv p.pages))) d (.box 1 [lst p.text, .own a va p.firsts.length, .own b vb p.seconds.length, .own q vq p.pages.length]))) zX ?_
 dsimp only
 refine dj (X := Nat) (fun k => k ≤ p.pages.length) (fun k => p.pages.length - k) (fun k => [(4, .v (.int .i64 (k : Int)))]) (fun k G' => (aj (aj (aj (aj (aj G nx (.box 0 [.list [] .nil, .list [] .nil, .list [] .nil, .list [] .nil])) a (.arr va 0 66 2 p.firsts.length (bv p.firsts))) b (.arr vb 0 66 2 p.seconds.length (bv p.seconds))) q (.arr vq ((2 * k)) 70 6 p.pages.length (bv p.pages))) d (.box 1 [lst p.text, .own a va p.firsts.length, .own b vb p.seconds.length, .own q vq p.pages.length]))) 0 rfl ?_ ?_ ?_ ?_ ?_ ?_
 ·exact Nat.zero_le _
 ·exact zF
 ·exact zX
 ·rintro k hI
  exact zL
 ·rintro k hI
  exact zH
 rintro k hI
 dsimp only at hI ⊢
 refine yS fun _ K5 => ?_
 refine yS fun _ K6 => ?_
 refine yR ?_
 refine yM rfl rfl ?_
 refine aa rfl (cx rfl rfl) ?_
 try dsimp only [St.put]
 refine bq rfl (eg rfl rfl zG trivial (by first | rfl | assumption)) ?_
 refine aa rfl (zw rfl rfl) ?_
 refine aa rfl (cn rfl rfl rfl) ?_
 refine yN ?_
 dsimp only [St.put]
 refine K6 _ ?_
 refine av rfl (fun hc => ?_) (fun hc => ?_)
 ·replace hc := of_decide_eq_true hc
  have hkl : k < p.pages.length := by omega
  obtain ⟨x, hx⟩ : ∃ x, p.pages[k]? = some x := dm hkl
  obtain ⟨hc4, hc5⟩ := uj5 hx
  have hxl := g5 x (fw hx)
  refine ay ?_
  refine K5 _ ?_
  refine yS fun _ K7 => ?_
  refine bh ?_
  refine yS fun _ K8 => ?_
  refine gt [(0, none), (1, none), (2, none), (4, none), (5, none), (6, none), (7, none), (8, none), (9, none), (3, none), (10, none), (11, none), (12, none), (13, none)] (fun i => [13].contains i) (fun i => [3, 10, 13].contains i) (fun i => [0, 2, 4, 6, 7, 8, 11, 12].contains i) [d, q] (by kernel_rfl) (by kernel_rfl) ?_
  refine ah rfl rfl rfl rfl (cx rfl rfl) ?_
  try dsimp only [St.put]
  refine aw rfl rfl rfl rfl (eg rfl rfl zG (by simp) (by first | rfl | assumption)) ?_
  refine xM rfl rfl rfl rfl rfl ?_
  refine ah rfl rfl rfl rfl (cx rfl rfl) ?_
  try dsimp only [St.put]
  refine aw rfl rfl rfl rfl (eg rfl rfl zG (by simp) (by first | rfl | assumption)) ?_
  refine xM rfl rfl rfl rfl rfl ?_
  try dsimp only [St.put]
  refine ah rfl rfl rfl rfl (ou rfl rfl zG rfl rfl hkl) ?_
  refine ah rfl rfl rfl rfl (cx rfl rfl) ?_
  try dsimp only [St.put]
  refine aw rfl rfl rfl rfl (jg rfl rfl zG (by simp) hc4) ?_
  refine ja ?_
  try dsimp only [St.put]
  refine i9 rfl rfl rfl (ux rfl (by decide) ⟨zD, ?_⟩)
  try dsimp only [St.put]
  refine i9 rfl rfl rfl (o1 (xs := ([] : List PlaceD)) x.found rfl rfl zG rfl rfl rfl rfl zA zA (fun w1 => ⟨zD, ?_⟩))
  try dsimp only [St.put]
  refine dz rfl rfl rfl rfl (ou rfl rfl zG rfl rfl hkl) ?_
  refine dz rfl rfl rfl rfl (cx rfl rfl) ?_
  try dsimp only [St.put]
  refine gd rfl rfl rfl rfl (uap (sz := 1) rfl rfl rfl zG rfl rfl (by rw [ut]; show k * 6 + 4 + 1 ≤ p.pages.length * 6; omega) (by decide) ?_)
  refine i7 ?_
  dsimp only [St.put]
  refine K8 _ ?_
  refine uf9 q (k * 6 + 4) x.found zG (uco hc4) zG (by omega) rfl rfl rfl ?_
  rw [ucn hc4]
  refine gt [(0, none), (1, none), (2, none), (4, none), (5, none), (6, none), (7, none), (8, none), (9, none), (3, none), (10, none), (11, none), (12, none), (13, none)] (fun i => [13].contains i) (fun i => [3, 10, 13].contains i) (fun i => [0, 2, 4, 6, 7, 8, 11, 12].contains i) [d, q] (by kernel_rfl) (by kernel_rfl) ?_
  refine ah rfl rfl rfl rfl (cx rfl rfl) ?_
  try dsimp only [St.put]
  refine aw rfl rfl rfl rfl (eg rfl rfl zG (by simp) (by first | rfl | assumption)) ?_
  refine xM rfl rfl rfl rfl rfl ?_
  refine ah rfl rfl rfl rfl (cx rfl rfl) ?_
  try dsimp only [St.put]
  refine aw rfl rfl rfl rfl (eg rfl rfl zG (by simp) (by first | rfl | assumption)) ?_
  refine xM rfl rfl rfl rfl rfl ?_
  try dsimp only [St.put]
  refine ah rfl rfl rfl rfl (ou rfl rfl zG rfl rfl hkl) ?_
  refine ah rfl rfl rfl rfl (cx rfl rfl) ?_
  try dsimp only [St.put]
  refine aw rfl rfl rfl rfl (jg rfl rfl zG (by simp) hc5) ?_
  refine ja ?_
  try dsimp only [St.put]
  refine i9 rfl rfl rfl (ux rfl (by decide) ⟨zD, ?_⟩)
  try dsimp only [St.put]
  refine i9 rfl rfl rfl (o1 (xs := ([] : List PlaceD)) x.well rfl rfl zG rfl rfl rfl rfl zA zA (fun w2 => ⟨zD, ?_⟩))
  try dsimp only [St.put]
  refine dz rfl rfl rfl rfl (ou rfl rfl zG rfl rfl hkl) ?_
  refine dz rfl rfl rfl rfl (cx rfl rfl) ?_
  try dsimp only [St.put]
  refine gd rfl rfl rfl rfl (uap (sz := 1) rfl rfl rfl zG rfl rfl (by rw [ut]; show k * 6 + 5 + 1 ≤ p.pages.length * 6; omega) (by decide) ?_)
  refine i7 ?_
  dsimp only [St.put]
  refine K7 _ ?_
  refine uf9 q (k * 6 + 5) x.well zG (uco hc5) zG (by omega) rfl rfl rfl ?_
  rw [ucn hc5]
  refine yR ?_
  refine yM rfl rfl ?_
  refine aa rfl (ce rfl rfl rfl (by omega)) ?_
  refine yA rfl rfl ?_
  refine yN ?_
  dsimp only [St.put]
  exact ⟨k + 1, by omega, by omega, ⟨⟨rfl, rfl⟩, zF, zB, zN, zX⟩⟩
 replace hc := of_decide_eq_false hc
 obtain rfl : k = p.pages.length := by omega
 refine dh ?_
 refine K3 _ ?_
 refine yS fun _ K9 => ?_
 refine yR ?_
 try dsimp only [St.put]
 refine bq rfl (ig rfl rfl zG trivial (by rfl)) ?_
 try dsimp only [St.put]
 refine ae rfl (ct rfl rfl rfl zG rfl rfl (by rfl) ?_)
 refine yN ?_
 dsimp only [St.put]
 refine K9 _ ?_
 refine aq ?_
 refine ⟨(a, b, q, va, vb, vq), ⟨⟨Nat.le_of_succ_le i1, Nat.le_of_succ_le i2, Nat.le_of_succ_le i3⟩, ⟨j1, j2, j3⟩, k1, k2, k4⟩, ?_⟩
 refine pq rfl (jv rfl zG (by rfl) zC rfl) zN zX ?_
 exact zW
end Go.Proofs.YtbbdginipiljdaaDoor
namespace Go.AB
open Go Go.RowKit
open Go.AB.Enc (cells)
open Go.PB (ar ai PlaceD az bf ba bj am af ci bi cy c6)
theorem ujj {p : af} (h : cc p = 0) {i : Nat} {x : am} (hx : p.pages[i]? = some x) : mf (cv p) (i : Int) = mf p (i : Int) ∧ eo (cv p) (d9 (cv p) (i : Int)) = eo p (d9 p (i : Int)) := by
 have hxq : (cv p).pages[i]? = some (em x) := by show (p.pages.map em)[i]? = _; rw [List.getElem?_map, hx]; rfl
 have e1 := p8 h hx
 have e2 := p8 (qr h) hxq
 have e3 : eo (cv p) (d9 (cv p) (i : Int)) = eo p (d9 p (i : Int)) := by rw [e1, e2, qn, qn, yc]
 refine ⟨?_, e3⟩
 unfold mf
 rw [e3, Int.toNat_natCast, uoi h (List.getElem?_eq_some_iff.1 hx).1]
theorem umk {p : af} (h : cc p = 0) {i : Nat} {x : am} (hx : p.pages[i]? = some x) : lh (cv p) (i : Int) = lh p (i : Int) ∧ kg (cv p) (i : Int) = kg p (i : Int) := by
 have hxq : (cv p).pages[i]? = some (em x) := by show (p.pages.map em)[i]? = _; rw [List.getElem?_map, hx]; rfl
 have e1 := p8 h hx
 have e2 := p8 (qr h) hxq
 have b1 : da (cv p).text (em x) = da p.text x := ufu p.text x
 have e3 : kg (cv p) (i : Int) = kg p (i : Int) := by
  unfold kg
  rw [e1, e2, ro hx, ro hxq, b1]
 refine ⟨?_, e3⟩
 unfold lh
 rw [e3, ro hx, ro hxq, b1]
 have : r9 (em x) (da p.text x).length = r9 x (da p.text x).length := by
  unfold r9
  show (⟨((x.well.length * x.found.length / _ : Nat) : Int), (((x.well.length * x.found.length + _ - 1) / _ : Nat) : Int)⟩ : bi) = _
  rw [Nat.mul_comm x.well.length]
 rw [this]
/-- the first pages turned -/
def ir (l : List am) (k : Nat) : List am := (l.take k).map em ++ l.drop k
theorem uhn (l : List am) : ir l 0 = l := by simp [ir]
theorem uhq (l : List am) : ir l l.length = l.map em := by simp [ir]
theorem ubi (l : List am) (k : Nat) : (ir l k).length = l.length := by simp [ir]; omega
theorem uhp {l : List am} {k : Nat} {x : am} (h : l[k]? = some x) : (ir l k)[k]? = some x := by
 have hk := (List.getElem?_eq_some_iff.1 h).1
 unfold ir
 rw [List.getElem?_append_right (by rw [List.length_map, List.length_take]; omega), List.length_map, List.length_take, List.getElem?_drop]
 rw [show k + (k - min k l.length) = k by omega]
 exact h
theorem uho {l : List am} {k : Nat} {x : am} (h : l[k]? = some x) : (ir l k).set k (em x) = ir l (k + 1) := by
 have hk := (List.getElem?_eq_some_iff.1 h).1
 apply List.ext_getElem?
 intro j
 have hl : ((l.take k).map em).length = k := by rw [List.length_map, List.length_take]; omega
 have hl2 : ((l.take (k + 1)).map em).length = k + 1 := by rw [List.length_map, List.length_take]; omega
 rw [List.getElem?_set]
 by_cases e : k = j
 ·subst e
  rw [if_pos rfl, if_pos (by rw [ubi]; exact hk)]
  unfold ir
  rw [List.getElem?_append_left (by omega), List.getElem?_map, List.getElem?_take, if_pos (Nat.lt_succ_self k), h]; rfl
 rw [if_neg e]
 unfold ir
 by_cases q : j < k
 ·rw [List.getElem?_append_left (by omega), List.getElem?_append_left (by omega), List.getElem?_map, List.getElem?_map, List.getElem?_take, List.getElem?_take, if_pos q, if_pos (by omega)]
 rw [List.getElem?_append_right (by omega), List.getElem?_append_right (by omega), hl, hl2, List.getElem?_drop, List.getElem?_drop, show k + (j - k) = j by omega, show k + 1 + (j - (k + 1)) = j by omega]
theorem yu {α : Type} {l : List α} {k : Nat} {x y : α} (h : l[k]? = some x) : (l.set k y)[k]? = some y := by rw [List.getElem?_set_self (List.getElem?_eq_some_iff.1 h).1]
theorem uj4 {l : List am} {k : Nat} {x : am} (h : l[k]? = some x) : (bv l)[k * 6 + 2]? = some (.v (.int .i64 x.fst)) ∧ (bv l)[k * 6 + 3]? = some (.v (.int .i64 x.snd)) ∧ (bv l)[k * 6 + 4]? = some (lst x.found) ∧ (bv l)[k * 6 + 5]? = some (lst x.well) :=
 ⟨l4 (j := 2) h rfl, l4 (j := 3) h rfl, l4 (j := 4) h rfl, l4 (j := 5) h rfl⟩
end Go.AB
namespace Go.Proofs.YtbbdginipiljdaaDoor
set_option maxRecDepth 10000
open Go Go.RowKit Go.AB
open Go.AB.Enc (cells)
open Go.PB (ar ai PlaceD az bf ba bj am af ci bi cy c6)
set_option maxHeartbeats 8000000 in
theorem uii (p : af) (a b : Int) : ff 0 fb Tryd.prog 7 [val p, .v (.int .u8 a), .v (.int .u8 b)] (.v (.bool true)) := fun G nx hF hnx => by
 refine iv (G) (nx) Tryd.func7 rfl (.v) zN (fun hlt => zH) ?_
 simp only [Tryd.ntmps7, List.length_cons, List.length_nil, Nat.reduceAdd, Nat.reduceSub]
 refine br fun hlt => ?_
 dsimp only at hlt
 refine kp 1 (fun hfa => ?_)
 replace hfa := ubg hfa
 refine kp 2 (fun hfb => ?_)
 replace hfb := ubg hfb
 obtain ⟨m, hm⟩ : ∃ m, b % 9 = m := ⟨_, rfl⟩
 refine yS fun _ K1 => ?_
 refine yR ?_
 try dsimp only [St.put]
 refine yB rfl rfl rfl ?_
 refine yA rfl rfl ?_
 refine yN ?_
 dsimp only [St.put]
 refine K1 _ ?_
 refine yS fun _ K2 => ?_
 refine yR ?_
 try dsimp only [St.put]
 refine ae rfl ((dq rfl rfl rfl ((uou 0)) zG (by dsimp only [St.put]; omega) ?_))
 refine yA rfl rfl ?_
 refine yN ?_
 dsimp only [St.put]
 refine K2 _ ?_
 refine yS fun _ K3 => ?_
 refine yS fun _ K4 => ?_
 refine yR ?_
 refine yE rfl rfl rfl ?_
 try dsimp only [St.put]
 refine ae rfl (ax rfl rfl rfl (ul9 p) ?_)
 refine aa rfl (d7 rfl rfl) ?_
 refine eu (fun hs => ?_) (fun hs => ?_)
 ·skip
  refine yM rfl rfl ?_
  refine yK rfl ?_
  refine yK rfl ?_
  refine yK rfl ?_
  refine yK rfl ?_
  refine aa rfl (bu rfl rfl (by constructor)) ?_
  refine yM rfl rfl ?_
  refine yK rfl ?_
  refine yK rfl ?_
  refine aa rfl (bu rfl rfl (by constructor)) ?_
  refine yN ?_
  dsimp only [St.put]
  refine K4 _ ?_
  refine av rfl (fun _ => ?_) (fun h => by cases h)
  refine yS fun _ K5 => ?_
  refine yR ?_
  refine yM rfl rfl ?_
  refine yA rfl rfl ?_
  refine yN ?_
  dsimp only [St.put]
  refine K5 _ ?_
  refine aq ?_
  refine bg rfl (by constructor) zN zS ?_
  rfl
 have hrd : rm p = true := by simpa using hs
 have hC := (readyP_true.1 hrd).2
 have hg := (readyP_true.1 hrd).1
 obtain ⟨hok, _⟩ := j9 hC
 have hnp := hok.np
 refine yM rfl rfl ?_
 refine yF rfl rfl rfl rfl ?_
 refine yL rfl rfl rfl ?_
 refine aa rfl (bl rfl rfl (List.length_map _)) ?_
 refine aa rfl (fj rfl rfl rfl) ?_
 refine eu (fun hs => ?_) (fun hs => ?_)
 ·skip
  refine aa rfl (cm rfl rfl (by constructor)) ?_
  refine yM rfl rfl ?_
  refine yK rfl ?_
  refine yK rfl ?_
  refine aa rfl (bu rfl rfl (by constructor)) ?_
  refine yN ?_
  dsimp only [St.put]
  refine K4 _ ?_
  refine av rfl (fun _ => ?_) (fun h => by cases h)
  refine yS fun _ K6 => ?_
  refine yR ?_
  refine yM rfl rfl ?_
  refine yA rfl rfl ?_
  refine yN ?_
  dsimp only [St.put]
  refine K6 _ ?_
  refine aq ?_
  refine bg rfl (by constructor) zN zS ?_
  rfl
 have hne : p.pages.length ≠ 0 := by have := of_decide_eq_false hs; omega
 obtain ⟨i, x, hi, hx⟩ := uj3 hfa.1 hne
 have hpt : (0 : Int) < (p.pages.length : Int) := by omega
 refine aa rfl (cm rfl rfl (by constructor)) ?_
 refine yM rfl rfl ?_
 refine yM rfl rfl ?_
 refine aa rfl (d7 rfl rfl) ?_
 refine aa rfl (cm rfl rfl (by constructor)) ?_
 refine yN ?_
 dsimp only [St.put]
 refine K4 _ ?_
 refine av rfl (fun h => by cases h) (fun _ => ?_)
 refine ay ?_
 refine K3 _ ?_
 refine yS fun _ K7 => ?_
 refine yR ?_
 refine yE rfl rfl rfl ?_
 try dsimp only [St.put]
 refine ae rfl (um9 rfl rfl rfl (ujs p hg _ _) (fun ⟨ya, yb, yq, va, vb, vq⟩ ⟨⟨i1, i2, i3⟩, ⟨j1, j2, j3⟩, k1, k2, k4⟩ => ?_))
 try dsimp only [St.put]
 refine ae rfl (dd rfl ?_)
 try dsimp only [St.put]
 refine ae rfl (ct rfl rfl rfl zG rfl rfl (by rfl) ?_)
 refine yN ?_
 dsimp only [St.put]
 dsimp only at i1 i2 i3 j1 j2 j3 k1 k2 k4
 refine K7 _ ?_
 refine yS fun _ K8 => ?_
 refine yR ?_
 refine aa rfl (cx rfl rfl) ?_
 try dsimp only [St.put]
 refine bq rfl (eg rfl rfl zG trivial (by first | rfl | assumption)) ?_
 refine aa rfl (cx rfl rfl) ?_
 try dsimp only [St.put]
 refine bq rfl (eg rfl rfl zG trivial (by first | rfl | assumption)) ?_
 refine aa rfl (cx rfl rfl) ?_
 try dsimp only [St.put]
 refine ae rfl (jy rfl rfl rfl zG (by constructor) rfl (by show 0 + 1 < 4; decide) ?_)
 refine aa rfl (cx rfl rfl) ?_
 try dsimp only [St.put]
 refine ae rfl (jy rfl rfl rfl zG (by constructor) rfl (by show 0 + 2 < 4; decide) ?_)
 refine yN ?_
 dsimp only [St.put]
 dsimp only [List.set_cons_zero, List.set_cons_succ]
 rw [show bv p.pages = bv (ir p.pages 0) by rw [uhn]]
 refine K8 _ ?_
 refine yS fun _ K9 => ?_
 refine yS fun _ K10 => ?_
 refine yR ?_
 refine aa rfl (cx rfl rfl) ?_
 try dsimp only [St.put]
 refine bq rfl (eg rfl rfl zG trivial (by first | rfl | assumption)) ?_
 refine aa rfl (zw rfl rfl) ?_
 refine yM rfl rfl ?_
 refine yN ?_
 dsimp only [St.put]
 refine K10 _ ?_
 refine bh ?_
 refine cr 59 ?_
 refine zQ ?_
 refine dl ((aj (aj (aj (aj G ya (.arr va 0 66 2 p.firsts.length (bv p.firsts))) yb (.arr vb 0 66 2 p.seconds.length (bv p.seconds))) yq (.arr vq ((2 * p.pages.length)) 70 6 p.pages.length (bv (ir p.pages (0))))) (nx + 5) (.box 3 [lst p.text, .own yb vb p.seconds.length, .own ya va p.firsts.length, .own yq vq p.pages.length]))) zX ?_
 dsimp only
 refine dj (X := Nat) (fun k => k ≤ p.pages.length) (fun k => p.pages.length - k) (fun k => [(9, .any), (10, .any), (58, .v (.int .i64 (k : Int)))]) (fun k G' => (aj (aj (aj (aj G ya (.arr va 0 66 2 p.firsts.length (bv p.firsts))) yb (.arr vb 0 66 2 p.seconds.length (bv p.seconds))) yq (.arr vq ((2 * p.pages.length + 4 * k)) 70 6 p.pages.length (bv (ir p.pages (k))))) (nx + 5) (.box 3 [lst p.text, .own yb vb p.seconds.length, .own ya va p.firsts.length, .own yq vq p.pages.length]))) 0 rfl ?_ ?_ ?_ ?_ ?_ ?_
 ·exact Nat.zero_le _
 ·exact zF
 ·exact zX
 ·rintro k hI
  exact zL
 ·rintro k hI
  exact zH
 rintro k hI
 dsimp only at hI ⊢
 refine yS fun _ K11 => ?_
 refine yR ?_
 refine aa rfl (cn rfl rfl rfl) ?_
 refine yN ?_
 dsimp only [St.put]
 refine K11 _ ?_
 refine yS fun _ K12 => ?_
 refine av rfl (fun hc => ?_) (fun hc => ?_)
 ·replace hc := of_decide_eq_true hc
  have hkl : k < p.pages.length := by omega
  obtain ⟨y, hy⟩ : ∃ y, p.pages[k]? = some y := dm hkl
  have hy0 := uhp hy
  obtain ⟨c2, c3, c4, c5⟩ := uj4 hy0
  have hset : ((((ir p.pages k).set k ⟨y.fr, y.to, y.snd, y.snd, y.found, y.well⟩).set k ⟨y.fr, y.to, y.snd, y.fst, y.found, y.well⟩).set k ⟨y.fr, y.to, y.snd, y.fst, y.well, y.well⟩).set k ⟨y.fr, y.to, y.snd, y.fst, y.well, y.found⟩ = ir p.pages (k + 1) := by
   rw [List.set_set, List.set_set, List.set_set]
   exact uho hy
  have hy1 := yu (y := (⟨y.fr, y.to, y.snd, y.snd, y.found, y.well⟩ : am)) hy0
  have hy2 := yu (y := (⟨y.fr, y.to, y.snd, y.fst, y.found, y.well⟩ : am)) hy1
  have hy3 := yu (y := (⟨y.fr, y.to, y.snd, y.fst, y.well, y.well⟩ : am)) hy2
  refine ay ?_
  refine K12 _ ?_
  refine yS fun _ K13 => ?_
  refine bh ?_
  refine yS fun _ K14 => ?_
  refine yR ?_
  refine yM rfl rfl ?_
  refine yA rfl rfl ?_
  refine yN ?_
  dsimp only [St.put]
  refine K14 _ ?_
  refine yS fun _ K15 => ?_
  refine yR ?_
  refine aa rfl (cx rfl rfl) ?_
  try dsimp only [St.put]
  refine bq rfl (eg rfl rfl zG trivial (by first | rfl | assumption)) ?_
  refine yM rfl rfl ?_
  try dsimp only [St.put]
  refine aa rfl ((ou rfl rfl zG rfl rfl hkl)) ?_
  refine yA rfl rfl ?_
  refine yN ?_
  dsimp only [St.put]
  refine K15 _ ?_
  refine gt [(0, none), (1, none), (2, none), (3, none), (4, none), (5, none), (6, none), (7, none), (8, none), (9, none), (10, none), (11, none), (12, none), (13, none), (14, none), (15, none), (16, none), (17, none), (18, none), (19, none), (20, none), (21, none), (22, none), (23, none), (24, none), (25, none), (26, none), (27, none), (28, none), (29, none), (30, none), (31, none)] (fun i => [22, 25, 28, 31].contains i) (fun i => [22, 25, 28, 31].contains i) (fun i => [0, 1, 2, 3, 4, 5, 6, 8, 9, 10, 12, 13, 14, 16, 17, 18, 20, 21, 23, 24, 26, 27, 29, 30].contains i) [yq] (by kernel_rfl) (by kernel_rfl) ?_
  refine xM rfl rfl rfl rfl rfl ?_
  refine xM rfl rfl rfl rfl rfl ?_
  refine xM rfl rfl rfl rfl rfl ?_
  refine xM rfl rfl rfl rfl rfl ?_
  refine xM rfl rfl rfl rfl rfl ?_
  refine ah rfl rfl rfl rfl (ix rfl rfl) ?_
  refine ah rfl rfl rfl rfl (cx rfl rfl) ?_
  try dsimp only [St.put]
  refine aw rfl rfl rfl rfl ((jg rfl rfl zG (by simp) c3)) ?_
  refine xM rfl rfl rfl rfl rfl ?_
  refine ah rfl rfl rfl rfl (ix rfl rfl) ?_
  refine ah rfl rfl rfl rfl (cx rfl rfl) ?_
  try dsimp only [St.put]
  refine aw rfl rfl rfl rfl ((jg rfl rfl zG (by simp) c2)) ?_
  refine xM rfl rfl rfl rfl rfl ?_
  refine ah rfl rfl rfl rfl (ix rfl rfl) ?_
  refine ah rfl rfl rfl rfl (cx rfl rfl) ?_
  try dsimp only [St.put]
  refine aw rfl rfl rfl rfl ((jg rfl rfl zG (by simp) c5)) ?_
  refine xM rfl rfl rfl rfl rfl ?_
  refine ah rfl rfl rfl rfl (ix rfl rfl) ?_
  refine ah rfl rfl rfl rfl (cx rfl rfl) ?_
  try dsimp only [St.put]
  refine aw rfl rfl rfl rfl ((jg rfl rfl zG (by simp) c4)) ?_
  refine ah rfl rfl rfl rfl (ix rfl rfl) ?_
  refine ah rfl rfl rfl rfl (cx rfl rfl) ?_
  refine ja ?_
  try dsimp only [St.put]
  refine gd rfl rfl rfl rfl (qq (xs := ir p.pages k) (k := k) (j := 2) (z := y) (z' := ⟨y.fr, y.to, y.snd, y.snd, y.found, y.well⟩) rfl rfl rfl zG rfl rfl hy0 rfl (by decide) rfl ?_)
  refine dz rfl rfl rfl rfl (ix rfl rfl) ?_
  refine dz rfl rfl rfl rfl (cx rfl rfl) ?_
  try dsimp only [St.put]
  refine gd rfl rfl rfl rfl (qq (xs := (ir p.pages k).set k ⟨y.fr, y.to, y.snd, y.snd, y.found, y.well⟩) (k := k) (j := 3) (z := (⟨y.fr, y.to, y.snd, y.snd, y.found, y.well⟩ : am)) (z' := ⟨y.fr, y.to, y.snd, y.fst, y.found, y.well⟩) rfl rfl rfl zG rfl rfl hy1 rfl (by decide) rfl ?_)
  refine dz rfl rfl rfl rfl (ix rfl rfl) ?_
  refine dz rfl rfl rfl rfl (cx rfl rfl) ?_
  try dsimp only [St.put]
  refine gd rfl rfl rfl rfl (qq (xs := ((ir p.pages k).set k ⟨y.fr, y.to, y.snd, y.snd, y.found, y.well⟩).set k ⟨y.fr, y.to, y.snd, y.fst, y.found, y.well⟩) (k := k) (j := 4) (z := (⟨y.fr, y.to, y.snd, y.fst, y.found, y.well⟩ : am)) (z' := ⟨y.fr, y.to, y.snd, y.fst, y.well, y.well⟩) rfl rfl rfl zG rfl rfl hy2 rfl (by decide) rfl ?_)
  refine dz rfl rfl rfl rfl (ix rfl rfl) ?_
  refine dz rfl rfl rfl rfl (cx rfl rfl) ?_
  try dsimp only [St.put]
  refine gd rfl rfl rfl rfl (qq (xs := (((ir p.pages k).set k ⟨y.fr, y.to, y.snd, y.snd, y.found, y.well⟩).set k ⟨y.fr, y.to, y.snd, y.fst, y.found, y.well⟩).set k ⟨y.fr, y.to, y.snd, y.fst, y.well, y.well⟩) (k := k) (j := 5) (z := (⟨y.fr, y.to, y.snd, y.fst, y.well, y.well⟩ : am)) (z' := ⟨y.fr, y.to, y.snd, y.fst, y.well, y.found⟩) rfl rfl rfl zG rfl rfl hy3 rfl (by decide) rfl ?_)
  refine i7 ?_
  dsimp only [St.put]
  refine K13 _ ?_
  refine yR ?_
  refine aa rfl (ce rfl rfl rfl (by omega)) ?_
  refine yM rfl rfl ?_
  refine yN ?_
  dsimp only [St.put]
  rw [hset]
  exact ⟨k + 1, by omega, by omega, ⟨⟨rfl, rfl⟩, zF, zB, zN, zX⟩⟩
 replace hc := of_decide_eq_false hc
 obtain rfl : k = p.pages.length := by omega
 refine si (nx + 5) 1 p.seconds zG rfl zG (by omega) rfl rfl rfl ?_
 refine si (nx + 5) 2 p.firsts zG rfl zG (by omega) rfl rfl rfl ?_
 refine si (nx + 5) 3 (ir p.pages p.pages.length) zG rfl zG (by omega) rfl rfl (ubi _ _).symm ?_
 dsimp only [List.set_cons_zero, List.set_cons_succ]
 rw [uhq]
 have hCq := qr hC
 have hxq : (cv p).pages[i]? = some (em x) := by show (p.pages.map em)[i]? = _; rw [List.getElem?_map, hx]; rfl
 have hF2 := ud9 0 hCq hxq
 have hB2 := uea 0 hCq hxq
 rw [show d8 (cv p).text (em x) = d8 p.text x from uam p.text x] at hF2
 rw [show da (cv p).text (em x) = da p.text x from ufu p.text x] at hB2
 have hR2 := zd 0 (cv p) (i : Int)
 have ht1 := ujj hC hx
 rw [ht1.1, ht1.2] at hR2
 have hT2 := zc 0 (cv p)
 have ht2 := uhs hC
 rw [ht2.1, ht2.2] at hT2
 have hC2 := zg 0 (cv p) m
 have ht3 := unn hC m
 rw [ht3.1, ht3.2] at hC2
 have hG2 := zf 0 (cv p) (i : Int)
 have ht4 := umk hC hx
 rw [ht4.1, ht4.2] at hG2
 have hcq : [lst p.text, lst p.seconds, lst p.firsts, lst (p.pages.map em)] = cells (cv p) := rfl
 rw [hcq]
 obtain ⟨q, hq⟩ : ∃ q, cv p = q := ⟨_, rfl⟩
 rw [hq] at hF2 hB2 hR2 hT2 hC2 hG2 ⊢
 clear hq hcq hCq hxq ht1 ht2 ht3 ht4
 refine fl (i := 8) rfl zG (by rw [Ne, ← List.length_eq_zero_iff, Enc.len]; decide) ?_
 dsimp only
 have hchl : (i0 p m).length ≤ 1000 := by
  have := uay (n5 p m) p.pages.length
  unfold i0 atE
  cases decide (gw p m = 0)
  ·exact Nat.zero_le _
  show (m9 (n5 p m) p.pages.length).length ≤ 1000
  omega
 refine dh ?_
 refine K9 _ ?_
 refine yS fun _ K16 => ?_
 refine yR ?_
 refine yM rfl rfl ?_
 refine aa rfl ((zy rfl rfl rfl rfl (by omega))) ?_
 refine yF rfl rfl rfl rfl ?_
 refine yL rfl rfl rfl ?_
 refine aa rfl (bl rfl rfl (List.length_map _)) ?_
 refine aa rfl ((zt hi rfl rfl rfl (by omega) hpt)) ?_
 refine yA rfl rfl ?_
 refine yN ?_
 dsimp only [St.put]
 refine K16 _ ?_
 refine yS fun _ K17 => ?_
 refine yR ?_
 refine yE rfl rfl rfl ?_
 refine yM rfl rfl ?_
 try dsimp only [St.put]
 refine ae rfl ((dq rfl rfl rfl ((ud9 0 hC hx)) zG (by dsimp only [St.put]; omega) ?_))
 refine yM rfl rfl ?_
 refine yX rfl rfl rfl rfl ?_
 refine yX rfl rfl rfl rfl ?_
 refine yA rfl rfl ?_
 refine yA rfl rfl ?_
 refine yN ?_
 dsimp only [St.put]
 refine K17 _ ?_
 refine yS fun _ K18 => ?_
 refine yR ?_
 refine yE rfl rfl rfl ?_
 refine yM rfl rfl ?_
 try dsimp only [St.put]
 refine ae rfl ((dq rfl rfl rfl (hF2) zG (by dsimp only [St.put]; omega) ?_))
 refine yM rfl rfl ?_
 refine yX rfl rfl rfl rfl ?_
 refine yX rfl rfl rfl rfl ?_
 refine yA rfl rfl ?_
 refine yA rfl rfl ?_
 refine yN ?_
 dsimp only [St.put]
 refine K18 _ ?_
 refine yS fun _ K19 => ?_
 refine yR ?_
 refine yE rfl rfl rfl ?_
 refine yM rfl rfl ?_
 try dsimp only [St.put]
 refine ae rfl ((dq rfl rfl rfl ((uea 0 hC hx)) zG (by dsimp only [St.put]; omega) ?_))
 refine yM rfl rfl ?_
 refine yX rfl rfl rfl rfl ?_
 refine yX rfl rfl rfl rfl ?_
 refine yA rfl rfl ?_
 refine yA rfl rfl ?_
 refine yN ?_
 dsimp only [St.put]
 refine K19 _ ?_
 refine yS fun _ K20 => ?_
 refine yR ?_
 refine yE rfl rfl rfl ?_
 refine yM rfl rfl ?_
 try dsimp only [St.put]
 refine ae rfl ((dq rfl rfl rfl (hB2) zG (by dsimp only [St.put]; omega) ?_))
 refine yM rfl rfl ?_
 refine yX rfl rfl rfl rfl ?_
 refine yX rfl rfl rfl rfl ?_
 refine yA rfl rfl ?_
 refine yA rfl rfl ?_
 refine yN ?_
 dsimp only [St.put]
 refine K20 _ ?_
 refine yS fun _ K21 => ?_
 refine yS fun _ K22 => ?_
 refine yR ?_
 refine yM rfl rfl ?_
 refine aa rfl ((eh (c := false) (fu rfl rfl rfl) (wo rfl))) ?_
 refine yM rfl rfl ?_
 refine yM rfl rfl ?_
 refine aa rfl ((eh (c := false) (fu rfl rfl rfl) (wo rfl))) ?_
 refine aa rfl (cm rfl rfl (by constructor)) ?_
 refine yM rfl rfl ?_
 refine yM rfl rfl ?_
 refine aa rfl ((eh (c := false) (fu rfl rfl rfl) (wo rfl))) ?_
 refine aa rfl (cm rfl rfl (by constructor)) ?_
 refine yM rfl rfl ?_
 refine yM rfl rfl ?_
 refine aa rfl ((eh (c := false) (fu rfl rfl rfl) (wo rfl))) ?_
 refine aa rfl (cm rfl rfl (by constructor)) ?_
 refine yM rfl rfl ?_
 refine yM rfl rfl ?_
 refine yM rfl rfl ?_
 try dsimp only [St.put]
 refine ae rfl (ax rfl rfl rfl (wy (d8 p.text x)) ?_)
 refine aa rfl (d7 rfl rfl) ?_
 refine aa rfl (cm rfl rfl (by constructor)) ?_
 refine yM rfl rfl ?_
 refine yM rfl rfl ?_
 refine yM rfl rfl ?_
 try dsimp only [St.put]
 refine ae rfl (ax rfl rfl rfl (wy (da p.text x)) ?_)
 refine aa rfl (d7 rfl rfl) ?_
 refine aa rfl (cm rfl rfl (by constructor)) ?_
 refine yN ?_
 dsimp only [St.put]
 refine K22 _ ?_
 refine av rfl (fun h => by cases h) (fun _ => ?_)
 refine ay ?_
 refine K21 _ ?_
 refine yS fun _ K23 => ?_
 refine yR ?_
 refine yE rfl rfl rfl ?_
 refine yM rfl rfl ?_
 try dsimp only [St.put]
 refine ae rfl ((dq rfl rfl rfl ((zd 0 p (i : Int))) zG (by dsimp only [St.put]; omega) ?_))
 refine yM rfl rfl ?_
 refine yX rfl rfl rfl rfl ?_
 refine yX rfl rfl rfl rfl ?_
 try dsimp only [St.put]
 refine ae rfl (dd rfl ?_)
 try dsimp only [St.put]
 refine ae rfl (ct rfl rfl rfl zG rfl rfl (by rfl) ?_)
 refine yA rfl rfl ?_
 refine yN ?_
 dsimp only [St.put]
 refine K23 _ ?_
 refine fl (i := 20) rfl zG zC ?_
 dsimp only
 refine yS fun _ K24 => ?_
 refine yR ?_
 refine yE rfl rfl rfl ?_
 refine yM rfl rfl ?_
 try dsimp only [St.put]
 refine ae rfl ((dq rfl rfl rfl (hR2) zG (by dsimp only [St.put]; omega) ?_))
 refine yM rfl rfl ?_
 refine yX rfl rfl rfl rfl ?_
 refine yX rfl rfl rfl rfl ?_
 try dsimp only [St.put]
 refine ae rfl (dd rfl ?_)
 try dsimp only [St.put]
 refine ae rfl (ct rfl rfl rfl zG rfl rfl (by rfl) ?_)
 refine yA rfl rfl ?_
 refine yN ?_
 dsimp only [St.put]
 refine K24 _ ?_
 refine fl (i := 21) rfl zG zC ?_
 dsimp only
 refine yS fun _ K25 => ?_
 refine yR ?_
 refine yE rfl rfl rfl ?_
 try dsimp only [St.put]
 refine ae rfl ((dq rfl rfl rfl ((zc 0 p)) zG (by dsimp only [St.put]; omega) ?_))
 refine yM rfl rfl ?_
 refine yX rfl rfl rfl rfl ?_
 refine yX rfl rfl rfl rfl ?_
 try dsimp only [St.put]
 refine ae rfl (dd rfl ?_)
 try dsimp only [St.put]
 refine ae rfl (ct rfl rfl rfl zG rfl rfl (by rfl) ?_)
 refine yA rfl rfl ?_
 refine yN ?_
 dsimp only [St.put]
 refine K25 _ ?_
 refine fl (i := 22) rfl zG zC ?_
 dsimp only
 refine yS fun _ K26 => ?_
 refine yR ?_
 refine yE rfl rfl rfl ?_
 try dsimp only [St.put]
 refine ae rfl ((dq rfl rfl rfl (hT2) zG (by dsimp only [St.put]; omega) ?_))
 refine yM rfl rfl ?_
 refine yX rfl rfl rfl rfl ?_
 refine yX rfl rfl rfl rfl ?_
 try dsimp only [St.put]
 refine ae rfl (dd rfl ?_)
 try dsimp only [St.put]
 refine ae rfl (ct rfl rfl rfl zG rfl rfl (by rfl) ?_)
 refine yA rfl rfl ?_
 refine yN ?_
 dsimp only [St.put]
 refine K26 _ ?_
 refine fl (i := 23) rfl zG zC ?_
 dsimp only
 refine yS fun _ K27 => ?_
 refine yR ?_
 refine yE rfl rfl rfl ?_
 refine yM rfl rfl ?_
 refine aa rfl ((zy rfl rfl rfl rfl (by omega))) ?_
 refine aa rfl ((zt hm rfl rfl rfl (by omega) (by omega))) ?_
 try dsimp only [St.put]
 refine ae rfl ((dq rfl rfl rfl ((zg 0 p m)) zG (by dsimp only [St.put]; omega) ?_))
 refine yM rfl rfl ?_
 refine yX rfl rfl rfl rfl ?_
 refine yX rfl rfl rfl rfl ?_
 refine yA rfl rfl ?_
 refine yA rfl rfl ?_
 refine yN ?_
 dsimp only [St.put]
 refine K27 _ ?_
 refine yS fun _ K28 => ?_
 refine yR ?_
 refine yE rfl rfl rfl ?_
 refine yM rfl rfl ?_
 refine aa rfl ((zy rfl rfl rfl rfl (by omega))) ?_
 refine aa rfl ((zt hm rfl rfl rfl (by omega) (by omega))) ?_
 try dsimp only [St.put]
 refine ae rfl ((dq rfl rfl rfl (hC2) zG (by dsimp only [St.put]; omega) ?_))
 refine yM rfl rfl ?_
 refine yX rfl rfl rfl rfl ?_
 refine yX rfl rfl rfl rfl ?_
 refine yA rfl rfl ?_
 refine yA rfl rfl ?_
 refine yN ?_
 dsimp only [St.put]
 refine K28 _ ?_
 refine yS fun _ K29 => ?_
 refine yR ?_
 refine yE rfl rfl rfl ?_
 refine yM rfl rfl ?_
 try dsimp only [St.put]
 refine ae rfl ((dq rfl rfl rfl ((zf 0 p (i : Int))) zG (by dsimp only [St.put]; omega) ?_))
 refine yM rfl rfl ?_
 refine yX rfl rfl rfl rfl ?_
 refine yX rfl rfl rfl rfl ?_
 try dsimp only [St.put]
 refine ae rfl (dd rfl ?_)
 try dsimp only [St.put]
 refine ae rfl (ct rfl rfl rfl zG rfl rfl (by rfl) ?_)
 refine yA rfl rfl ?_
 refine yN ?_
 dsimp only [St.put]
 refine K29 _ ?_
 refine fl (i := 28) rfl zG zC ?_
 dsimp only
 refine yS fun _ K30 => ?_
 refine yR ?_
 refine yE rfl rfl rfl ?_
 refine yM rfl rfl ?_
 try dsimp only [St.put]
 refine ae rfl ((dq rfl rfl rfl (hG2) zG (by dsimp only [St.put]; omega) ?_))
 refine yM rfl rfl ?_
 refine yX rfl rfl rfl rfl ?_
 refine yX rfl rfl rfl rfl ?_
 try dsimp only [St.put]
 refine ae rfl (dd rfl ?_)
 try dsimp only [St.put]
 refine ae rfl (ct rfl rfl rfl zG rfl rfl (by rfl) ?_)
 refine yA rfl rfl ?_
 refine yN ?_
 dsimp only [St.put]
 refine K30 _ ?_
 refine fl (i := 30) rfl zG zC ?_
 dsimp only
 refine yS fun _ K31 => ?_
 refine yR ?_
 refine yM rfl rfl ?_
 refine yM rfl rfl ?_
 refine yE rfl rfl rfl ?_
 refine yE rfl rfl rfl ?_
 refine aa rfl ((eh (c := true) (kd (x := mf p (i : Int)) (y := mf p (i : Int)) rfl rfl rfl) (decide_eq_true rfl))) ?_
 refine aa rfl (bu rfl rfl (by constructor)) ?_
 refine yM rfl rfl ?_
 refine yM rfl rfl ?_
 refine yM rfl rfl ?_
 refine aa rfl ((eh (c := true) (fj rfl rfl rfl) (decide_eq_true rfl))) ?_
 refine aa rfl (bu rfl rfl (by constructor)) ?_
 refine yM rfl rfl ?_
 refine yE rfl rfl rfl ?_
 refine yE rfl rfl rfl ?_
 refine aa rfl ((eh (c := true) (kd (x := mn p) (y := mn p) rfl rfl rfl) (decide_eq_true rfl))) ?_
 refine aa rfl (bu rfl rfl (by constructor)) ?_
 refine yM rfl rfl ?_
 refine yM rfl rfl ?_
 refine yM rfl rfl ?_
 refine aa rfl ((eh (c := true) (fj rfl rfl rfl) (decide_eq_true rfl))) ?_
 refine aa rfl (bu rfl rfl (by constructor)) ?_
 refine yM rfl rfl ?_
 refine yM rfl rfl ?_
 refine yM rfl rfl ?_
 try dsimp only [St.put]
 refine ae rfl (ax rfl rfl rfl (uad (i0 p m) hchl) ?_)
 refine aa rfl (bu rfl rfl (by constructor)) ?_
 refine yM rfl rfl ?_
 refine yM rfl rfl ?_
 refine yM rfl rfl ?_
 refine aa rfl ((eh (c := true) (fj rfl rfl rfl) (decide_eq_true rfl))) ?_
 refine aa rfl (bu rfl rfl (by constructor)) ?_
 refine yM rfl rfl ?_
 refine yE rfl rfl rfl ?_
 refine yE rfl rfl rfl ?_
 refine aa rfl ((eh (c := true) (kd (x := lh p (i : Int)) (y := lh p (i : Int)) rfl rfl rfl) (decide_eq_true rfl))) ?_
 refine aa rfl (bu rfl rfl (by constructor)) ?_
 refine yM rfl rfl ?_
 refine yM rfl rfl ?_
 refine yM rfl rfl ?_
 refine aa rfl ((eh (c := true) (fj rfl rfl rfl) (decide_eq_true rfl))) ?_
 refine aa rfl (bu rfl rfl (by constructor)) ?_
 refine yA rfl rfl ?_
 refine yN ?_
 dsimp only [St.put]
 refine K31 _ ?_
 refine aq ?_
 refine bg rfl (by constructor) zN zS ?_
 rfl
end Go.Proofs.YtbbdginipiljdaaDoor
namespace Go.AB
open Go Go.RowKit Go.ChangeShapes Go.WideShapes
end Go.AB
namespace Go.Proofs.YtbbdginipiljdaaDoor
set_option maxRecDepth 10000
open Go.ChangeShapes Go.WideShapes Go.ChangeAt Go.RowKit Go.AB
open Go.AB.Enc (cells)
open Go.PB (ar ai PlaceD az bf ba)
instance : OpensE Tryd.prog 3 Int := .int (by kernel_rfl)
instance : OpensE Tryd.prog 9 ByteArray := .str (by kernel_rfl)
instance : OpensE Tryd.prog 124 (List ByteArray) := .slice (e := 9) (by kernel_rfl) (by decide)
instance : OpensE Tryd.prog 125 (List (List ByteArray)) := .slice (e := 124) (by kernel_rfl) (by decide)
instance : OpensE Tryd.prog 127 ar := .chap (tI := 3) (tL := 125) (by kernel_rfl)
instance : OpensE Tryd.prog 22 (List ar) := .slice (e := 127) (by kernel_rfl) (by decide)
theorem uhv : jr Tryd.prog 24 [(0, 22, 1)] 1 = true := by kernel_rfl
instance : OpensE Tryd.prog 24 (List ar) := .one (e := 22) uhv
theorem ujx : jr Tryd.prog 54 [(0, 3, 1), (1, 3, 1), (2, 3, 1)] 3 = true := by kernel_rfl
instance : OpensE Tryd.prog 54 PlaceD := .place (tI := 3) ujx
theorem un4 : Tryd.prog.underlying 4 = some .bool := by kernel_rfl
theorem ownZ : ownKnob Tryd.prog.godebug = none := by kernel_rfl
end Go.Proofs.YtbbdginipiljdaaDoor
namespace Go.AB
open Go Go.RowKit Go.ChangeShapes Go.WideShapes
open Go.AB.Enc (cells)
open Go.PB (ar ai PlaceD az bf ba bj am af ci bi)
theorem OpensE.reader {P : Program} {t tI : TypeId} [oI : OpensE P tI Int] (h : jr P t [(0, tI, 1), (1, tI, 1)] 2 = true) : OpensE P t bj :=
 .struct (α := bj) h fun w cs hl hp => by
  obtain ⟨a, ha⟩ := hp (0, tI, 1) (by simp) Int inferInstance oI
  obtain ⟨b, hb⟩ := hp (1, tI, 1) (by simp) Int inferInstance oI
  match cs, hl with
  | [u, v], _ => exact ⟨⟨a, b⟩, Rs.cons (Rs.single_inv ha) hb⟩
theorem OpensE.page {P : Program} {t tI tL : TypeId} [oI : OpensE P tI Int] [oL : OpensE P tL (List PlaceD)] (h : jr P t [(0, tI, 1), (1, tI, 1), (2, tI, 1), (3, tI, 1), (4, tL, 1), (5, tL, 1)] 6 = true) : OpensE P t am :=
 .struct (α := am) h fun w cs hl hp => by
  obtain ⟨a, ha⟩ := hp (0, tI, 1) (by simp) Int inferInstance oI
  obtain ⟨b, hb⟩ := hp (1, tI, 1) (by simp) Int inferInstance oI
  obtain ⟨c, hc⟩ := hp (2, tI, 1) (by simp) Int inferInstance oI
  obtain ⟨d, hd⟩ := hp (3, tI, 1) (by simp) Int inferInstance oI
  obtain ⟨e, he⟩ := hp (4, tL, 1) (by simp) (List PlaceD) inferInstance oL
  obtain ⟨f, hf⟩ := hp (5, tL, 1) (by simp) (List PlaceD) inferInstance oL
  match cs, hl with
  | [u0, u1, u2, u3, u4, u5], _ => exact ⟨⟨a, b, c, d, e, f⟩, Rs.cons (Rs.single_inv ha) (Rs.cons (Rs.single_inv hb) (Rs.cons (Rs.single_inv hc) (Rs.cons (Rs.single_inv hd) (Rs.cons (Rs.single_inv he) hf))))⟩
theorem OpensE.proofs {P : Program} {t tT tR tP : TypeId} [oT : OpensE P tT (List ar)] [oR : OpensE P tR (List bj)] [oP : OpensE P tP (List am)] (h : jr P t [(0, tT, 1), (1, tR, 1), (2, tR, 1), (3, tP, 1)] 4 = true) : OpensE P t af :=
 .struct (α := af) h fun w cs hl hp => by
  obtain ⟨a, ha⟩ := hp (0, tT, 1) (by simp) (List ar) inferInstance oT
  obtain ⟨b, hb⟩ := hp (1, tR, 1) (by simp) (List bj) inferInstance oR
  obtain ⟨c, hc⟩ := hp (2, tR, 1) (by simp) (List bj) inferInstance oR
  obtain ⟨d, hd⟩ := hp (3, tP, 1) (by simp) (List am) inferInstance oP
  match cs, hl with
  | [u0, u1, u2, u3], _ => exact ⟨⟨a, b, c, d⟩, Rs.cons (Rs.single_inv ha) (Rs.cons (Rs.single_inv hb) (Rs.cons (Rs.single_inv hc) hd))⟩
end Go.AB
namespace Go.AB
open Go Go.RowKit Go.ChangeShapes Go.WideShapes
open Go.AB.Enc (cells)
open Go.PB (ar ai PlaceD bj am af ci bi)
def ueo (P : Program) (t : TypeId) : Bool := match P.underlying t with | some (.func _ _ _) => true | _ => false
theorem uan {P : Program} {t : TypeId} (h : ueo P t = true) : ∃ ps rs va, P.underlying t = some (.func ps rs va) := by
 unfold ueo at h
 split at h
 ·rename_i ps rs va he; exact ⟨ps, rs, va, he⟩
 ·cases h
/-- Functions that lie in a variable's cells. -/
theorem um3 {W : World} {b : Nat} {cs : List C} (hne : cs ≠ []) (hone : ∀ c ∈ cs, c.one = true) (us : Nat → Value) (hc : ∀ j, j < cs.length → W.cell? ⟨b, j, none⟩ = some (us j)) (hr : ∀ j c, cs[j]? = some c → R (j0 W) W c (us j)) : R (j0 W) W (.elem cs) (.pointer (some ⟨b, 0, none⟩)) := by
 have hl : 0 < cs.length := List.length_pos_iff.2 hne
 refine .elem hne hone (.inr ⟨b, 0, rfl, ?_, fun j hj => by rw [Nat.zero_add]; exact hc j hj⟩) hr
 have := ufn (hc (cs.length - 1) (by omega))
 show 0 + cs.length ≤ qs W b
 omega
theorem ul6 {P : Program} {f : FuncId} {cs : List C} {v gv : Value} {gc : C} (hp : ff 0 (.fact gv gc) P f cs (.v v)) {w : World} {args : List Value} (hK : R (j0 w) w gc gv) (hr : Rs (j0 w) w cs args) :
  Calls P f args.toArray w fun e w' => e = .returned v ∧ Below w.heap.size w w' :=
 ul7 (fun G nx hG => by
  intro E w' as' hrs hsg
  exact hp G nx hG (by obtain ⟨t, _⟩ := hsg.obj 0 _ hG; have := hsg.lt 0 _ t; rw [hsg.nx] at this; exact this) E w' as' hrs hsg) hK hr
/-- a cell of a function's type, as it reads -/
theorem se {P : Program} {W : World} {t : TypeId} {ps rs : Array TypeId} {va : Bool} {v : Value} {b : UInt8} {r : List UInt8} {f0 : FuncId} (hu : P.underlying t = some (.func ps rs va)) (hv : IsFunc v) (hd : veil (funcToken P) t v = .held (b :: r))
  (hone : ((List.range P.funcs.size).filter fun f => (P.funcs[f]?).any (·.name.toUTF8.data.toList == b :: r)) = [f0]) : v = .func (.func f0) #[] #[] :=
 Go.func_of_trod (w := W) (base := 0) (sp := fun _ => true) (fuel := 1) (q := []) hu hone (by
  have := trod_func (enc := funcToken P) hu (W := W) (base := 0) (sp := fun _ => true) hv 0
  rw [hd] at this
  exact this)
end Go.AB
namespace Go.Proofs.YtbbdginipiljdaaDoor
set_option maxRecDepth 10000
open Go.ChangeShapes Go.WideShapes Go.ChangeAt Go.RowKit Go.AB
open Go.AB.Enc (cells)
open Go.PB (ar ai PlaceD bj am af ci bi)
instance : OpensE Tryd.prog 66 bj := .reader (tI := 3) (by kernel_rfl)
instance : OpensE Tryd.prog 25 (List bj) := .slice (e := 66) (by kernel_rfl) (by decide)
instance : OpensE Tryd.prog 36 (List PlaceD) := .slice (e := 54) (by kernel_rfl) (by decide)
instance : OpensE Tryd.prog 70 am := .page (tI := 3) (tL := 36) (by kernel_rfl)
instance : OpensE Tryd.prog 26 (List am) := .slice (e := 70) (by kernel_rfl) (by decide)
theorem ucq : jr Tryd.prog 28 [(0, 24, 1), (1, 25, 1), (2, 25, 1), (3, 26, 1)] 4 = true := by kernel_rfl
instance : OpensE Tryd.prog 28 af := .proofs (tT := 24) (tR := 25) (tP := 26) ucq
theorem ubh : ul Tryd.prog 5 .u8 = true := by kernel_rfl
theorem gSides : Tryd.prog.globalNamed "postil/proof.sides" = some 0 := by kernel_rfl
theorem tSides : (Tryd.prog.globals[0]?).map (·.type) = some 97 := by kernel_rfl
theorem uhk : Tryd.prog.underlying 97 = some (.array 2 96) := by kernel_rfl
theorem un1 : Tryd.prog.cellsOf 97 = 6 := by kernel_rfl
theorem ufp : Tryd.prog.cellsOf 96 = 3 := by kernel_rfl
theorem ub6 : jr Tryd.prog 96 [(0, 92, 1), (1, 93, 1), (2, 94, 1)] 3 = true := by kernel_rfl
theorem uey : ∃ ps rs va, Tryd.prog.underlying 92 = some (.func ps rs va) := uan (by kernel_rfl)
theorem ue0 : ∃ ps rs va, Tryd.prog.underlying 93 = some (.func ps rs va) := uan (by kernel_rfl)
theorem uez : ∃ ps rs va, Tryd.prog.underlying 94 = some (.func ps rs va) := uan (by kernel_rfl)
theorem ub0 {W : World} {m : Nat} {cs : List Value} {y : DataW (List UInt8) × List MemPlace} {d0 d1 d2 : DataW (List UInt8)} (hy : y.1 = .agg [d0, d1, d2])
  (h : DataW.trod (funcToken Tryd.prog) Tryd.prog W 0 (fun _ => true) true m 96 cs = some y) : ∃ v0 v1 v2, cs = [v0, v1, v2] ∧ (IsFunc v0 ∧ veil (funcToken Tryd.prog) 92 v0 = d0) ∧ (IsFunc v1 ∧ veil (funcToken Tryd.prog) 93 v1 = d1) ∧ (IsFunc v2 ∧ veil (funcToken Tryd.prog) 94 v2 = d2) := by
 obtain ⟨_, fs, he⟩ := vn ub6
 obtain ⟨xs, m', _, e1, hl, hlen, hf⟩ := DataW.trod_struct he h
 rw [ufp] at hl
 have hfs : fs.toList.map (fun f => (f.offset, f.type, Tryd.prog.cellsOf f.type)) = [(0, 92, 1), (1, 93, 1), (2, 94, 1)] := by
  have := ub6
  unfold jr at this
  rw [he] at this
  simp only [Bool.and_eq_true, beq_iff_eq] at this
  exact this.1
 obtain ⟨l⟩ := fs
 match l, hfs with
 | [f0, f1, f2], hfs =>
  simp only [List.map_cons, List.map_nil, List.cons.injEq, Prod.mk.injEq, and_true] at hfs
  obtain ⟨⟨a1, a2, a3⟩, ⟨b1, b2, b3⟩, ⟨c1, c2, c3⟩⟩ := hfs
  have h0 := hf 0 f0 rfl
  have h1 := hf 1 f1 rfl
  have h2 := hf 2 f2 rfl
  match cs, hl with
  | [u0, u1, u2], _ =>
   match xs, hlen with
   | [x0, x1, x2], _ =>
    subst e1
    simp only [List.map_cons, List.map_nil, DataW.agg.injEq, List.cons.injEq, and_true] at hy
    rw [a3, a1, a2] at h0
    rw [b3, b1, b2] at h1
    rw [c3, c1, c2] at h2
    obtain ⟨ps, rs, va, hu⟩ := uey
    obtain ⟨ps', rs', va', hu'⟩ := ue0
    obtain ⟨ps2, rs2, va2, hu2⟩ := uez
    obtain ⟨v0, q0, q1, q2⟩ := Go.RowKit.func_of_trod hu h0
    obtain ⟨v1, q3, q4, q5⟩ := Go.RowKit.func_of_trod hu' h1
    obtain ⟨v2, q6, q7, q8⟩ := Go.RowKit.func_of_trod hu2 h2
    have e0 : u0 = v0 := by simpa using q0
    have e1 : u1 = v1 := by simpa using q3
    have e2 : u2 = v2 := by simpa using q6
    subst e0; subst e1; subst e2
    have hx0 : x0 = (veil (funcToken Tryd.prog) 92 u0, []) := by simpa using q2
    have hx1 : x1 = (veil (funcToken Tryd.prog) 93 u1, []) := by simpa using q5
    have hx2 : x2 = (veil (funcToken Tryd.prog) 94 u2, []) := by simpa using q8
    subst hx0; subst hx1; subst hx2
    obtain ⟨k0, k1, k2⟩ := hy
    exact ⟨u0, u1, u2, rfl, ⟨q1, k0⟩, ⟨q4, k1⟩, ⟨q7, k2⟩⟩
 | [], hfs => exact absurd hfs (by simp)
 | [_], hfs => exact absurd hfs (by simp)
 | [_, _], hfs => exact absurd hfs (by simp)
 | _ :: _ :: _ :: _ :: _, hfs => exact absurd hfs (by simp)
theorem uik {W : World} (h : funcsAt Tryd.prog W "postil/proof.sides" (.agg [.agg [.iface "func" (.lit (.string [112, 111, 115, 116, 105, 108, 47, 112, 114, 111, 111, 102, 46, 115, 105, 100, 101, 115, 36, 49])), .iface "func" (.lit (.string [112, 111, 115, 116, 105, 108, 47, 112, 114, 111, 111, 102, 46, 115, 105, 100, 101, 115, 36, 50])), .iface "func" (.lit (.string [112, 111, 115, 116, 105, 108, 47, 112, 114, 111, 111, 102, 46, 115, 105, 100, 101, 115, 36, 51]))], .agg [.iface "func" (.lit (.string [112, 111, 115, 116, 105, 108, 47, 112, 114, 111, 111, 102, 46, 115, 105, 100, 101, 115, 36, 52])), .iface "func" (.lit (.string [112, 111, 115, 116, 105, 108, 47, 112, 114, 111, 111, 102, 46, 115, 105, 100, 101, 115, 36, 53])), .iface "func" (.lit (.string [112, 111, 115, 116, 105, 108, 47, 112, 114, 111, 111, 102, 46, 115, 105, 100, 101, 115, 36, 54]))]])) : R (j0 W) W (.elem sidL) (.pointer (some ⟨0, 0, none⟩)) := by
 obtain ⟨g, t, cs, fuel, p, hg, ht, hv, hd⟩ := h
 obtain rfl := Option.some.inj (gSides.symm.trans hg)
 obtain rfl := Option.some.inj (tSides.symm.trans ht)
 obtain ⟨xs, m, _, e1, hl, hn, hel⟩ := DataW.trod_array uhk hd
 rw [un1] at hl
 rw [ufp] at hel
 have hcell := fun i => World.var?_cell hg hv i
 obtain ⟨l⟩ := cs
 dsimp only at hl hel hcell
 match l, hl with
 | [u0, u1, u2, u3, u4, u5], _ =>
  match xs, hn with
  | [x0, x1], _ =>
   simp only [Prod.mk.injEq] at e1
   have e2 : (.agg [.agg [.held [112, 111, 115, 116, 105, 108, 47, 112, 114, 111, 111, 102, 46, 115, 105, 100, 101, 115, 36, 49], .held [112, 111, 115, 116, 105, 108, 47, 112, 114, 111, 111, 102, 46, 115, 105, 100, 101, 115, 36, 50], .held [112, 111, 115, 116, 105, 108, 47, 112, 114, 111, 111, 102, 46, 115, 105, 100, 101, 115, 36, 51]], .agg [.held [112, 111, 115, 116, 105, 108, 47, 112, 114, 111, 111, 102, 46, 115, 105, 100, 101, 115, 36, 52], .held [112, 111, 115, 116, 105, 108, 47, 112, 114, 111, 111, 102, 46, 115, 105, 100, 101, 115, 36, 53], .held [112, 111, 115, 116, 105, 108, 47, 112, 114, 111, 111, 102, 46, 115, 105, 100, 101, 115, 36, 54]]] : DataW (List UInt8)) = .agg [x0.1, x1.1] := e1.1
   simp only [DataW.agg.injEq, List.cons.injEq, and_true] at e2
   obtain ⟨a0, a1, a2, q0, ⟨a3, a4⟩, ⟨a5, a6⟩, ⟨a7, a8⟩⟩ := ub0 e2.1.symm (hel 0 (by omega))
   obtain ⟨b0, b1, b2, q1, ⟨b3, b4⟩, ⟨b5, b6⟩, ⟨b7, b8⟩⟩ := ub0 e2.2.symm (hel 1 (by omega))
   simp only [Nat.zero_mul, Nat.one_mul, List.drop_zero, List.drop_succ_cons, List.take_succ_cons, List.take_zero, List.cons.injEq, and_true] at q0 q1
   obtain ⟨rfl, rfl, rfl⟩ := q0
   obtain ⟨rfl, rfl, rfl⟩ := q1
   obtain ⟨ps, rs, va, hu⟩ := uey
   obtain ⟨ps', rs', va', hu'⟩ := ue0
   obtain ⟨ps2, rs2, va2, hu2⟩ := uez
   obtain rfl := se (W := W) (f0 := 151) hu a3 a4 (by kernel_rfl)
   obtain rfl := se (W := W) (f0 := 152) hu' a5 a6 (by kernel_rfl)
   obtain rfl := se (W := W) (f0 := 153) hu2 a7 a8 (by kernel_rfl)
   obtain rfl := se (W := W) (f0 := 154) hu b3 b4 (by kernel_rfl)
   obtain rfl := se (W := W) (f0 := 155) hu' b5 b6 (by kernel_rfl)
   obtain rfl := se (W := W) (f0 := 156) hu2 b7 b8 (by kernel_rfl)
   let L : List Value := [.func (.func 151) #[] #[], .func (.func 152) #[] #[], .func (.func 153) #[] #[], .func (.func 154) #[] #[], .func (.func 155) #[] #[], .func (.func 156) #[] #[]]
   refine um3 (by simp [sidL, oh]) (by intro c hc; simp only [sidL, oh, List.cons_append, List.nil_append, List.mem_cons, List.not_mem_nil, or_false] at hc; rcases hc with rfl | rfl | rfl | rfl | rfl | rfl <;> rfl) (fun j => L.getD j undef) (fun j hj => ?_) (fun j c hc => ?_)
   ·have := hcell j
    have hj' : j < 6 := hj
    rw [this]
    show (L.toArray)[j]? = _
    rw [List.getElem?_toArray, List.getD_eq_getElem?_getD, List.getElem?_eq_getElem (show j < L.length from hj')]
    rfl
   ·match j, hc with
    | 0, hc => cases hc; exact Rs.fn (vs := []) Rs.nil
    | 1, hc => cases hc; exact Rs.fn (vs := []) Rs.nil
    | 2, hc => cases hc; exact Rs.fn (vs := []) Rs.nil
    | 3, hc => cases hc; exact Rs.fn (vs := []) Rs.nil
    | 4, hc => cases hc; exact Rs.fn (vs := []) Rs.nil
    | 5, hc => cases hc; exact Rs.fn (vs := []) Rs.nil
abbrev uj : List (String × DataW Unit) := [("postil/proof.sides", Rows.laid_postil_proof_sides)]
set_option maxRecDepth 100000 in
/-- The door's own heap meets the condition. -/
theorem unf (os : Os) (args : Array Value) : laidMetH Tryd.prog uj ((World.doorLaid Tryd.prog 600 os).forCall (fun _ _ => 0) ⟨#[], args, []⟩).memory :=
 laidMetH_of_parts3 (fuel := 8) (laidMet_of_run' 8 (by kernel_rfl) (by kernel_rfl)) (by kernel_rfl) (by kernel_rfl)
theorem uij {W : World} (h : laidMetH Tryd.prog uj W) : R (j0 W) W (.elem sidL) (.pointer (some ⟨0, 0, none⟩)) := uik (h.funcs (List.mem_cons_self ..))
end Go.Proofs.YtbbdginipiljdaaDoor
namespace Go.AB
open Go Go.RowKit Go.ChangeShapes Go.WideShapes
section
variable {H : Type} {enc : TypeId × Value → H} {P : Program} {w : World} {base : Nat} {spare : Nat → Bool} {held : Bool}
end
end Go.AB
