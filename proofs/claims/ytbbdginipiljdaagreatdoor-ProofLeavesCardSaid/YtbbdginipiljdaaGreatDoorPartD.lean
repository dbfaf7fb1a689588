/-
  What the walks through the program rest on: values, states, steps, calls (QgRef, QhRef, QiRef, QjRef, QkRef, PmMore, QlPlain, AbZero, AbGrow, AbCutN, QmRef, RhProves, AbNew, AbMixD, AbEntry, HdKeys, RcAdd, RiWithout, AbFact).
-/
import Derived.Test.YtbbdginipiljdaaGreatDoorPartC
import Derived.Test.YtbbdginipiljdaaGreatDoorPartB
import Derived.WideKeyEntry
import Derived.Test.YtbbdginipiljdaaGreatDoorPartA
namespace Go.AB
open Go Go.RowKit
open Go.AB.Enc (cells)
open Go.PB (bh aj PlaceD bq bt br ca ay ah dj c9 du dt)
def mw (p : ah) (last : Int) (x : ay) : Bool := decide (last < x.fr) && decide (x.fr ≤ x.to) && decide (x.to < (mr p.text : Int)) && inB x.fst (-1) ((p.firsts.length : Int) - 1) && inB x.snd (-1) ((p.seconds.length : Int) - 1)
theorem uy (p : ah) (last : Int) (x : ay) : l9 p last x = (mw p last x && (io p.text x x.fst x.found && io p.text x x.snd x.well)) := by
 unfold l9 mw
 cases decide (last < x.fr) <;> cases decide (x.fr ≤ x.to) <;> cases decide (x.to < (mr p.text : Int)) <;> cases inB x.fst (-1) ((p.firsts.length : Int) - 1) <;> cases inB x.snd (-1) ((p.seconds.length : Int) - 1) <;> simp
theorem yd {p : ah} {j : Nat} {x : ay} (h : p.pages[j]? = some x) : sj p j = l9 p (iu p.pages j) x := by unfold sj; rw [h]
theorem udh {l : List ay} {j : Nat} {x : ay} (h : l[j]? = some x) : iu l (j + 1) = x.to := by simp only [iu, h]
theorem ux {p : ah} {j : Nat} {x : ay} (h : p.pages[j]? = some x) (hb : l9 p (iu p.pages j) x = false) : gg p = false := by
 have : px p p.pages.length = false := List.all_eq_false.2 ⟨j, List.mem_range.2 (List.getElem?_eq_some_iff.1 h).1, by rw [yd h, hb]; simp⟩
 simp [gg, this]
end Go.AB
namespace Go.Proofs.YtbbdginipiljdaaGreatDoor
set_option maxRecDepth 10000
open Go.RowKit Go.AB
open Go.AB.Enc (cells)
open Go.PB (bh aj PlaceD bq bt br ca ay ah dj c9 du dt)
set_option maxHeartbeats 2000000 in
theorem uis (p : ah) (ht : d7 p.text = true) : Pure Tryz.prog 87 [val p] (.v (.bool (gg p))) := by
 refine da Tryz.func87 rfl (fun m => .v) fun G nx => ?_
 simp only [Tryz.ntmps87, List.length_cons, List.length_nil, Nat.reduceAdd, Nat.reduceSub]
 refine cb fun hlt => ?_
 dsimp only at hlt
 refine yS fun _ K1 => ?_
 refine yR ?_
 try dsimp only [St.put]
 refine yB rfl rfl rfl ?_
 refine yA rfl rfl ?_
 refine yN ?_
 dsimp only [St.put]
 refine K1 _ ?_
 refine yS fun _ K2 => ?_
 refine yS fun _ K3 => ?_
 refine yR ?_
 refine yF rfl rfl rfl rfl ?_
 refine yL rfl rfl rfl ?_
 refine aa rfl (bk rfl rfl (List.length_map _)) ?_
 refine aa rfl (iy rfl rfl rfl) ?_
 refine eu (fun hs => ?_) (fun hs => ?_)
 ·have s1 : ¬ p.firsts.length ≤ 3 := by
   have := of_decide_eq_true hs
   omega
  refine yM rfl rfl ?_
  refine yK rfl ?_
  refine yK rfl ?_
  refine yK rfl ?_
  refine yK rfl ?_
  refine aa rfl (dd rfl rfl (by constructor)) ?_
  refine yM rfl rfl ?_
  refine yK rfl ?_
  refine yK rfl ?_
  refine yK rfl ?_
  refine yK rfl ?_
  refine aa rfl (dd rfl rfl (by constructor)) ?_
  refine yN ?_
  dsimp only [St.put]
  refine K3 _ ?_
  refine aq rfl (fun _ => ?_) (fun h => by cases h)
  refine yS fun _ K4 => ?_
  refine yR ?_
  refine yA rfl rfl ?_
  refine yN ?_
  dsimp only [St.put]
  refine K4 _ ?_
  refine ar ?_
  refine bl rfl (by constructor) zN zS ?_
  exact vb (by first | (simp [gg, j0, s1]; done) | (simp [gg, j0, s2]; done) | (simp [gg, s3]; done))
 have s1 : p.firsts.length ≤ 3 := by
  have := of_decide_eq_false hs
  omega
 refine yM rfl rfl ?_
 refine yF rfl rfl rfl rfl ?_
 refine yL rfl rfl rfl ?_
 refine aa rfl (bk rfl rfl (List.length_map _)) ?_
 refine aa rfl (iy rfl rfl rfl) ?_
 refine eu (fun hs => ?_) (fun hs => ?_)
 ·have s2 : ¬ p.seconds.length ≤ 3 := by
   have := of_decide_eq_true hs
   omega
  refine aa rfl (cz rfl rfl (by constructor)) ?_
  refine yM rfl rfl ?_
  refine yK rfl ?_
  refine yK rfl ?_
  refine yK rfl ?_
  refine yK rfl ?_
  refine aa rfl (dd rfl rfl (by constructor)) ?_
  refine yN ?_
  dsimp only [St.put]
  refine K3 _ ?_
  refine aq rfl (fun _ => ?_) (fun h => by cases h)
  refine yS fun _ K5 => ?_
  refine yR ?_
  refine yA rfl rfl ?_
  refine yN ?_
  dsimp only [St.put]
  refine K5 _ ?_
  refine ar ?_
  refine bl rfl (by constructor) zN zS ?_
  exact vb (by first | (simp [gg, j0, s1]; done) | (simp [gg, j0, s2]; done) | (simp [gg, s3]; done))
 have s2 : p.seconds.length ≤ 3 := by
  have := of_decide_eq_false hs
  omega
 refine aa rfl (cz rfl rfl (by constructor)) ?_
 refine yM rfl rfl ?_
 refine yF rfl rfl rfl rfl ?_
 refine yL rfl rfl rfl ?_
 refine aa rfl (bk rfl rfl (List.length_map _)) ?_
 refine aa rfl (iy rfl rfl rfl) ?_
 refine eu (fun hs => ?_) (fun hs => ?_)
 ·have s3 : ¬ p.pages.length ≤ 8 := by
   have := of_decide_eq_true hs
   omega
  refine aa rfl (cz rfl rfl (by constructor)) ?_
  refine yN ?_
  dsimp only [St.put]
  refine K3 _ ?_
  refine aq rfl (fun _ => ?_) (fun h => by cases h)
  refine yS fun _ K6 => ?_
  refine yR ?_
  refine yA rfl rfl ?_
  refine yN ?_
  dsimp only [St.put]
  refine K6 _ ?_
  refine ar ?_
  refine bl rfl (by constructor) zN zS ?_
  exact vb (by first | (simp [gg, j0, s1]; done) | (simp [gg, j0, s2]; done) | (simp [gg, s3]; done))
 have s3 : p.pages.length ≤ 8 := by
  have := of_decide_eq_false hs
  omega
 obtain ⟨A, hA⟩ : ∃ A, p.firsts ++ p.seconds = A := ⟨_, rfl⟩
 have hAl : A.length ≤ 6 := by rw [← hA, List.length_append]; omega
 refine aa rfl (cz rfl rfl (by constructor)) ?_
 refine yN ?_
 dsimp only [St.put]
 refine K3 _ ?_
 refine aq rfl (fun h => by cases h) (fun _ => ?_)
 refine az ?_
 refine K2 _ ?_
 refine yS fun _ K7 => ?_
 refine yR ?_
 refine yA rfl rfl ?_
 refine yN ?_
 dsimp only [St.put]
 refine K7 _ ?_
 refine ue7 3 67 2 rfl (by decide) ?_
 refine yS fun _ K8 => ?_
 refine fb [(0, none), (1, none), (2, none), (4, none), (5, none), (3, none), (6, none), (7, none)] (fun i => [6].contains i) (fun i => [3, 6].contains i) (fun i => [0, 1, 4, 7].contains i) [] (by kernel_rfl) (by kernel_rfl) ?_
 refine xM rfl rfl rfl rfl rfl ?_
 refine ae rfl rfl rfl rfl (cr rfl rfl rfl) ?_
 try dsimp only [St.put]
 refine av rfl rfl rfl rfl (bz rfl rfl) ?_
 refine ae rfl rfl rfl rfl (cr rfl rfl rfl) ?_
 try dsimp only [St.put]
 refine av rfl rfl rfl rfl (bz rfl rfl) ?_
 refine il ?_
 try dsimp only [St.put]
 refine ia rfl rfl rfl (fp (xs := ([] : List ca)) p.firsts rfl rfl zG rfl rfl rfl rfl zA zA (fun v1 => ⟨zD, ?_⟩))
 try dsimp only [St.put]
 refine ia rfl rfl rfl (fp (xs := ([] : List ca) ++ p.firsts) p.seconds rfl rfl zG rfl rfl rfl rfl zA zA (fun v2 => ⟨zD, ?_⟩))
 refine ep rfl rfl rfl rfl (f8 rfl (by constructor)) ?_
 refine ij ?_
 dsimp only [St.put]
 refine K8 _ ?_
 refine uab 3 (([] : List ca) ++ p.firsts ++ p.seconds) rfl zG rfl rfl rfl ?_
 refine dh G zX ?_
 dsimp only
 rw [show ([] : List ca) ++ p.firsts ++ p.seconds = A from hA]
 refine yS fun _ K9 => ?_
 refine yS fun _ K10 => ?_
 refine yR ?_
 refine yA rfl rfl ?_
 refine yN ?_
 dsimp only [St.put]
 refine K10 _ ?_
 refine bg ?_
 refine co 9 ?_
 refine zQ ?_
 refine dh (G) zX ?_
 dsimp only
 refine dg (X := Nat) (fun i => i ≤ A.length ∧ (A.take i).all gx = true ∧ ((A.take i).map (·.id)).Nodup) (fun i => A.length - i) (fun i => [(4, .v (.int .i64 (i : Int))), (5, .any)]) (fun i G' => G') 0 rfl ?_ ?_ (fun _ _ h => h) ?_ ?_ ?_
 ·exact ⟨Nat.zero_le _, rfl, by simp⟩
 ·exact zF
 ·rintro i hI
  exact zL
 ·exact fun _ _ _ _ h => .inl h
 rintro i hI
 dsimp only at hI ⊢
 refine yS fun _ K11 => ?_
 refine yS fun _ K12 => ?_
 refine yR ?_
 refine yM rfl rfl ?_
 refine yM rfl rfl ?_
 refine aa rfl (bk rfl rfl (List.length_map _)) ?_
 refine aa rfl (cm rfl rfl rfl) ?_
 refine yN ?_
 dsimp only [St.put]
 refine K12 _ ?_
 refine aq rfl (fun hc => ?_) (fun hc => ?_)
 ·replace hc := of_decide_eq_true hc
  obtain ⟨r, hr⟩ : ∃ r, A[i]? = some r := dn (by omega)
  refine az ?_
  refine K11 _ ?_
  refine yS fun _ K13 => ?_
  refine bg ?_
  refine yS fun _ K14 => ?_
  refine yS fun _ K15 => ?_
  refine yR ?_
  refine yM rfl rfl ?_
  refine yM rfl rfl ?_
  refine aa rfl (bu rfl rfl rfl rfl (bp (by assumption)) (Enc.len _)) ?_
  refine yF rfl rfl rfl rfl ?_
  refine yL rfl rfl rfl ?_
  try dsimp only [St.put]
  refine af rfl (bi rfl rfl rfl (o9 _ _ _) ?_)
  refine aa rfl (d8 rfl rfl) ?_
  refine eu (fun hs => ?_) (fun hs => ?_)
  ·have q1 : inB r.id 0 9999 = false := by simpa using hs
   refine yM rfl rfl ?_
   refine yK rfl ?_
   refine yK rfl ?_
   refine yK rfl ?_
   refine yK rfl ?_
   refine yK rfl ?_
   refine yK rfl ?_
   refine yK rfl ?_
   refine aa rfl (dd rfl rfl (by constructor)) ?_
   refine yN ?_
   dsimp only [St.put]
   refine K15 _ ?_
   refine aq rfl (fun _ => ?_) (fun h => by cases h)
   refine yS fun _ K16 => ?_
   refine yR ?_
   refine yA rfl rfl ?_
   refine yN ?_
   dsimp only [St.put]
   refine K16 _ ?_
   refine ar ?_
   refine bl rfl (by constructor) zN zS ?_
   exact vb (by
    have hb : gx r = false := by first | (simp [gx, q1]; done) | (simp [gx, q2]; done)
    have : A.all gx = false := ku hr hb
    rw [← hA] at this
    simp only [gg, j0, this, Bool.and_false, Bool.false_and])
  have q1 : inB r.id 0 9999 = true := by simpa using hs
  refine yM rfl rfl ?_
  refine yM rfl rfl ?_
  refine yM rfl rfl ?_
  refine aa rfl (bu rfl rfl rfl rfl (bp (by assumption)) (Enc.len _)) ?_
  refine yF rfl rfl rfl rfl ?_
  refine yL rfl rfl rfl ?_
  try dsimp only [St.put]
  refine af rfl (bi rfl rfl rfl (o9 _ _ _) ?_)
  refine aa rfl (d8 rfl rfl) ?_
  refine eu (fun hs => ?_) (fun hs => ?_)
  ·have q2 : inB r.miss 0 90 = false := by simpa using hs
   refine aa rfl (cz rfl rfl (by constructor)) ?_
   refine yN ?_
   dsimp only [St.put]
   refine K15 _ ?_
   refine aq rfl (fun _ => ?_) (fun h => by cases h)
   refine yS fun _ K17 => ?_
   refine yR ?_
   refine yA rfl rfl ?_
   refine yN ?_
   dsimp only [St.put]
   refine K17 _ ?_
   refine ar ?_
   refine bl rfl (by constructor) zN zS ?_
   exact vb (by
    have hb : gx r = false := by first | (simp [gx, q1]; done) | (simp [gx, q2]; done)
    have : A.all gx = false := ku hr hb
    rw [← hA] at this
    simp only [gg, j0, this, Bool.and_false, Bool.false_and])
  have q2 : inB r.miss 0 90 = true := by simpa using hs
  have hrb : gx r = true := by simp [gx, q1, q2]
  refine aa rfl (cz rfl rfl (by constructor)) ?_
  refine yN ?_
  dsimp only [St.put]
  refine K15 _ ?_
  refine aq rfl (fun h => by cases h) (fun _ => ?_)
  refine az ?_
  refine K14 _ ?_
  refine yS fun _ K18 => ?_
  refine yR ?_
  refine yA rfl rfl ?_
  refine yN ?_
  dsimp only [St.put]
  refine K18 _ ?_
  refine bg ?_
  refine co 9 ?_
  refine zQ ?_
  refine dh (G) zX ?_
  dsimp only
  refine dg (X := Nat) (fun k => k ≤ i ∧ ∀ y ∈ A.take k, y.id ≠ r.id) (fun k => i - k) (fun k => [(5, .v (.int .i64 (k : Int)))]) (fun k G' => G') 0 rfl ?_ ?_ (fun _ _ h => h) ?_ ?_ ?_
  ·exact ⟨Nat.zero_le _, by simp⟩
  ·exact zF
  ·rintro k hI
   exact zL
  ·exact fun _ _ _ _ h => .inl h
  rintro k hJ
  dsimp only at hJ ⊢
  refine yS fun _ K19 => ?_
  refine yS fun _ K20 => ?_
  refine yR ?_
  refine yM rfl rfl ?_
  refine yM rfl rfl ?_
  refine aa rfl (cm rfl rfl rfl) ?_
  refine yN ?_
  dsimp only [St.put]
  refine K20 _ ?_
  refine aq rfl (fun hc => ?_) (fun hc => ?_)
  ·replace hc := of_decide_eq_true hc
   obtain ⟨y, hy⟩ : ∃ y, A[k]? = some y := dn (by omega)
   refine az ?_
   refine K19 _ ?_
   refine yS fun _ K21 => ?_
   refine bg ?_
   refine yS fun _ K22 => ?_
   refine fb [(0, none), (1, none), (2, none), (3, none), (4, none), (5, none), (6, none), (7, none), (8, none), (9, none), (10, none)] (fun i => [].contains i) (fun i => [].contains i) (fun i => [0, 1, 2, 3, 5, 6, 7, 8, 10].contains i) [] (by kernel_rfl) (by kernel_rfl) ?_
   refine xM rfl rfl rfl rfl rfl ?_
   refine xM rfl rfl rfl rfl rfl ?_
   try dsimp only [St.put]
   refine ae rfl rfl rfl rfl (bu rfl rfl rfl rfl (bp (by assumption)) (Enc.len _)) ?_
   refine ae rfl rfl rfl rfl (cr rfl rfl rfl) ?_
   try dsimp only [St.put]
   refine av rfl rfl rfl rfl (bz rfl rfl) ?_
   refine xM rfl rfl rfl rfl rfl ?_
   refine xM rfl rfl rfl rfl rfl ?_
   try dsimp only [St.put]
   refine ae rfl rfl rfl rfl (bu rfl rfl rfl rfl (bp (by assumption)) (Enc.len _)) ?_
   refine ae rfl rfl rfl rfl (cr rfl rfl rfl) ?_
   try dsimp only [St.put]
   refine av rfl rfl rfl rfl (bz rfl rfl) ?_
   refine ae rfl rfl rfl rfl (ke rfl rfl rfl) ?_
   refine ba ?_
   dsimp only [St.put]
   refine K22 _ ?_
   refine aq rfl (fun hc => ?_) (fun hc => ?_)
   ·have hyr : y.id = r.id := of_decide_eq_true hc
    refine yS fun _ K23 => ?_
    refine yR ?_
    refine yA rfl rfl ?_
    refine yN ?_
    dsimp only [St.put]
    refine K23 _ ?_
    refine ar ?_
    refine bl rfl (by constructor) zN zS ?_
    exact vb (by
     have : ¬ (A.map (·.id)).Nodup := yo hy hr (by omega) hyr
     rw [← hA] at this
     simp only [gg, j0, decide_eq_false this, Bool.and_false, Bool.false_and])
   have hne : y.id ≠ r.id := of_decide_eq_false hc
   refine az ?_
   refine K21 _ ?_
   refine yR ?_
   refine yM rfl rfl ?_
   refine aa rfl (bv rfl rfl rfl (by omega)) ?_
   refine yA rfl rfl ?_
   refine yN ?_
   dsimp only [St.put]
   exact ⟨k + 1, by omega, ⟨by omega, yz (p := fun y : ca => y.id ≠ r.id) hy hne hJ.2⟩, ⟨⟨rfl, rfl⟩, zF, zB, zN, zX⟩⟩
  replace hc := of_decide_eq_false hc
  have hki : k = i := by omega
  rw [hki] at hJ
  have hnd : r.id ∉ (A.take i).map (·.id) := fun hm => by
   obtain ⟨y, hy1, hy2⟩ := List.mem_map.1 hm
   exact hJ.2 y hy1 hy2
  refine c7 ?_
  refine K13 _ ?_
  refine yR ?_
  refine yM rfl rfl ?_
  refine aa rfl (bv rfl rfl rfl (by omega)) ?_
  refine yA rfl rfl ?_
  refine yN ?_
  dsimp only [St.put]
  exact ⟨i + 1, by omega, ⟨by omega, by rw [qg hr, hI.2.1, hrb]; rfl, by rw [pc hr]; exact yp hI.2.2 hnd⟩, ⟨⟨rfl, rfl⟩, zF, zB, zN, zX⟩⟩
 replace hc := of_decide_eq_false hc
 have hRB : j0 p = true := by
  have h1 := hI.2.1
  have h2 := hI.2.2
  rw [ey (show A.length ≤ i by omega), ← hA] at h1 h2
  unfold j0
  rw [h1, decide_eq_true h2, decide_eq_true s1, decide_eq_true s2]; rfl
 refine c7 ?_
 refine K9 _ ?_
 refine yS fun _ K24 => ?_
 refine yR ?_
 refine yA rfl rfl ?_
 refine yN ?_
 dsimp only [St.put]
 refine K24 _ ?_
 refine yS fun _ K25 => ?_
 refine yS fun _ K26 => ?_
 refine yR ?_
 refine yA rfl rfl ?_
 refine yN ?_
 dsimp only [St.put]
 refine K26 _ ?_
 refine bg ?_
 refine co 9 ?_
 refine zQ ?_
 refine dh (G) zX ?_
 dsimp only
 refine dg (X := Nat) (fun j => j ≤ p.pages.length ∧ px p j = true) (fun j => p.pages.length - j) (fun j => [(6, .v (.int .i64 (iu p.pages j))), (7, .v (.int .i64 (j : Int))), (8, .any)]) (fun j G' => G') 0 rfl ?_ ?_ (fun _ _ h => h) ?_ ?_ ?_
 ·exact ⟨Nat.zero_le _, rfl⟩
 ·exact zF
 ·rintro j hI
  exact zL
 ·exact fun _ _ _ _ h => .inl h
 rintro j hK
 dsimp only at hK ⊢
 refine yS fun _ K27 => ?_
 refine yS fun _ K28 => ?_
 refine yR ?_
 refine yM rfl rfl ?_
 refine yF rfl rfl rfl rfl ?_
 refine yL rfl rfl rfl ?_
 refine aa rfl (bk rfl rfl (List.length_map _)) ?_
 refine aa rfl (cm rfl rfl rfl) ?_
 refine yN ?_
 dsimp only [St.put]
 refine K28 _ ?_
 refine aq rfl (fun hc => ?_) (fun hc => ?_)
 ·replace hc := of_decide_eq_true hc
  obtain ⟨x, hx⟩ : ∃ x, p.pages[j]? = some x := dn (by omega)
  refine az ?_
  refine K27 _ ?_
  refine yS fun _ K29 => ?_
  refine bg ?_
  refine yS fun _ K30 => ?_
  refine yR ?_
  refine yF rfl rfl rfl rfl ?_
  refine yL rfl rfl rfl ?_
  refine yM rfl rfl ?_
  refine aa rfl (bu rfl rfl rfl rfl (bp (by assumption)) (Enc.len _)) ?_
  refine yE rfl rfl rfl ?_
  try dsimp only [St.put]
  refine af rfl (dp rfl ?_)
  try dsimp only [St.put]
  refine af rfl (c4 rfl rfl rfl zG rfl rfl (by rfl) ?_)
  refine yN ?_
  dsimp only [St.put]
  refine K30 _ ?_
  refine f4 (i := 8) rfl zG zC ?_
  dsimp only
  refine yS fun _ K31 => ?_
  refine co 9 ?_
  refine zQ ?_
  refine kp (X := Bool) (fun d => mw p (iu p.pages j) x = !d) (fun d => [(120, .v (.bool d))]) (fun d G' => G') rfl ?_ (fun _ _ _ _ h => .inl h) ?_ ?_
  ·rintro d hI
   exact zL
  ·refine pp [(0, none), (1, none), (2, none), (3, none), (4, none), (5, none), (6, none), (7, none), (8, none), (9, none), (10, none), (11, none), (12, none), (13, none), (14, none), (15, none)] (fun _ => false) (fun i => [0, 2, 3, 4, 5, 7, 9, 10, 11, 12, 14].contains i) 23 (rl [16, 23]) (by kernel_rfl) (by kernel_rfl) ?_
   refine ae rfl rfl rfl rfl (cr rfl rfl rfl) ?_
   try dsimp only [St.put]
   refine av rfl rfl rfl rfl (bz rfl rfl) ?_
   refine xM rfl rfl rfl rfl rfl ?_
   refine ae rfl rfl rfl rfl (vm rfl rfl rfl) ?_
   refine ka (fun hs => ?_) (fun hs => ?_)
   ·have z1 : x.fr ≤ iu p.pages j := of_decide_eq_true hs
    refine xM rfl rfl rfl rfl rfl ?_
    refine ak rfl rfl rfl ?_
    refine ak rfl rfl rfl ?_
    refine ak rfl rfl rfl ?_
    refine ak rfl rfl rfl ?_
    refine ak rfl rfl rfl ?_
    refine ae rfl rfl rfl rfl (dd rfl rfl (by constructor)) ?_
    refine xM rfl rfl rfl rfl rfl ?_
    refine ak rfl rfl rfl ?_
    refine ak rfl rfl rfl ?_
    refine ak rfl rfl rfl ?_
    refine ak rfl rfl rfl ?_
    refine ba ?_
    refine cc [16] (by kernel_rfl) (by simp) ?_
    refine bx ?_ ?_
    ·refine gj rfl rfl rfl ?_
     refine d9 [(17, none), (18, none), (19, none), (20, none), (21, none), (22, none), (23, none), (24, none), (25, none)] (fun i => [17, 18, 19, 20, 22, 24, 25].contains i) 13 (rl [26, 13]) (by kernel_rfl) ?_
     refine ak rfl rfl rfl ?_
     refine ae rfl rfl rfl rfl (dd rfl rfl (by constructor)) ?_
     refine xM rfl rfl rfl rfl rfl ?_
     refine ak rfl rfl rfl ?_
     refine ak rfl rfl rfl ?_
     refine ak rfl rfl rfl ?_
     refine ak rfl rfl rfl ?_
     refine ak rfl rfl rfl ?_
     refine ak rfl rfl rfl ?_
     refine ba ?_
     refine cc [26] (by kernel_rfl) (by simp) ?_
     refine bx ?_ ?_
     ·refine gj rfl rfl rfl ?_
      refine d9 [(27, none), (28, none), (29, none), (30, none), (31, none), (32, none), (33, none), (34, none), (35, none)] (fun i => [27, 28, 29, 30, 32, 34, 35].contains i) 3 (rl [36, 3]) (by kernel_rfl) ?_
      refine ak rfl rfl rfl ?_
      refine ae rfl rfl rfl rfl (dd rfl rfl (by constructor)) ?_
      refine xM rfl rfl rfl rfl rfl ?_
      refine ak rfl rfl rfl ?_
      refine ak rfl rfl rfl ?_
      refine ak rfl rfl rfl ?_
      refine ak rfl rfl rfl ?_
      refine ak rfl rfl rfl ?_
      refine ak rfl rfl rfl ?_
      refine ba ?_
      refine cc [36] (by kernel_rfl) (by simp) ?_
      refine bx ?_ ?_
      ·refine gj rfl rfl rfl ?_
       refine d9 [(37, none), (38, none)] (fun i => [37, 38].contains i) 0 (rl [39]) (by kernel_rfl) ?_
       refine ak rfl rfl rfl ?_
       refine ae rfl rfl rfl rfl (dd rfl rfl (by constructor)) ?_
       refine ba ?_
       dsimp only [St.put]
       refine fe (by kernel_rfl) ?_
       refine ⟨_, ?_, ⟨⟨rfl, rfl⟩, zF, zB, zN, zX⟩⟩
       simp_all [mw]
       try (intro h0; omega)
      exact cg
     exact cg
    exact cg
   have z1 : ¬ x.fr ≤ iu p.pages j := of_decide_eq_false hs
   refine xM rfl rfl rfl rfl rfl ?_
   refine ae rfl rfl rfl rfl (cr rfl rfl rfl) ?_
   try dsimp only [St.put]
   refine av rfl rfl rfl rfl (bz rfl rfl) ?_
   refine ae rfl rfl rfl rfl (cr rfl rfl rfl) ?_
   try dsimp only [St.put]
   refine av rfl rfl rfl rfl (bz rfl rfl) ?_
   refine ae rfl rfl rfl rfl (cm rfl rfl rfl) ?_
   refine ka (fun hs => ?_) (fun hs => ?_)
   ·have z2 : x.to < x.fr := of_decide_eq_true hs
    refine ae rfl rfl rfl rfl (cz rfl rfl (by constructor)) ?_
    refine xM rfl rfl rfl rfl rfl ?_
    refine ak rfl rfl rfl ?_
    refine ak rfl rfl rfl ?_
    refine ak rfl rfl rfl ?_
    refine ak rfl rfl rfl ?_
    refine ba ?_
    refine cc [16] (by kernel_rfl) (by simp) ?_
    refine bx ?_ ?_
    ·refine gj rfl rfl rfl ?_
     refine d9 [(17, none), (18, none), (19, none), (20, none), (21, none), (22, none), (23, none), (24, none), (25, none)] (fun i => [17, 18, 19, 20, 22, 24, 25].contains i) 13 (rl [26, 13]) (by kernel_rfl) ?_
     refine ak rfl rfl rfl ?_
     refine ae rfl rfl rfl rfl (dd rfl rfl (by constructor)) ?_
     refine xM rfl rfl rfl rfl rfl ?_
     refine ak rfl rfl rfl ?_
     refine ak rfl rfl rfl ?_
     refine ak rfl rfl rfl ?_
     refine ak rfl rfl rfl ?_
     refine ak rfl rfl rfl ?_
     refine ak rfl rfl rfl ?_
     refine ba ?_
     refine cc [26] (by kernel_rfl) (by simp) ?_
     refine bx ?_ ?_
     ·refine gj rfl rfl rfl ?_
      refine d9 [(27, none), (28, none), (29, none), (30, none), (31, none), (32, none), (33, none), (34, none), (35, none)] (fun i => [27, 28, 29, 30, 32, 34, 35].contains i) 3 (rl [36, 3]) (by kernel_rfl) ?_
      refine ak rfl rfl rfl ?_
      refine ae rfl rfl rfl rfl (dd rfl rfl (by constructor)) ?_
      refine xM rfl rfl rfl rfl rfl ?_
      refine ak rfl rfl rfl ?_
      refine ak rfl rfl rfl ?_
      refine ak rfl rfl rfl ?_
      refine ak rfl rfl rfl ?_
      refine ak rfl rfl rfl ?_
      refine ak rfl rfl rfl ?_
      refine ba ?_
      refine cc [36] (by kernel_rfl) (by simp) ?_
      refine bx ?_ ?_
      ·refine gj rfl rfl rfl ?_
       refine d9 [(37, none), (38, none)] (fun i => [37, 38].contains i) 0 (rl [39]) (by kernel_rfl) ?_
       refine ak rfl rfl rfl ?_
       refine ae rfl rfl rfl rfl (dd rfl rfl (by constructor)) ?_
       refine ba ?_
       dsimp only [St.put]
       refine fe (by kernel_rfl) ?_
       refine ⟨_, ?_, ⟨⟨rfl, rfl⟩, zF, zB, zN, zX⟩⟩
       simp_all [mw]
       try (intro h0; omega)
      exact cg
     exact cg
    exact cg
   have z2 : ¬ x.to < x.fr := of_decide_eq_false hs
   refine ae rfl rfl rfl rfl (cz rfl rfl (by constructor)) ?_
   refine xM rfl rfl rfl rfl rfl ?_
   refine ae rfl rfl rfl rfl (cr rfl rfl rfl) ?_
   try dsimp only [St.put]
   refine av rfl rfl rfl rfl (bz rfl rfl) ?_
   refine ae rfl rfl rfl rfl (cr rfl rfl rfl) ?_
   try dsimp only [St.put]
   refine av rfl rfl rfl rfl (c := fh p.text) (jf (cs := cells p) rfl rfl (show 1 ≤ 4 by decide)) ?_
   refine ba ?_
   refine cc [16] (by kernel_rfl) (by simp) ?_
   refine bx ?_ ?_
   ·try dsimp only [St.put]
    refine c5 rfl rfl rfl (bi rfl rfl rfl (uih p.text ht) ?_)
    refine d9 [(17, none), (18, none), (19, none), (20, none), (21, none), (22, none), (23, none), (24, none), (25, none)] (fun i => [17, 18, 19, 20, 22, 24, 25].contains i) 13 (rl [26, 13]) (by kernel_rfl) ?_
    refine ae rfl rfl rfl rfl (l4 rfl rfl rfl) ?_
    refine ka (fun hs => ?_) (fun hs => ?_)
    ·have z3 : (mr p.text : Int) ≤ x.to := of_decide_eq_true hs
     refine ae rfl rfl rfl rfl (cz rfl rfl (by constructor)) ?_
     refine xM rfl rfl rfl rfl rfl ?_
     refine ak rfl rfl rfl ?_
     refine ak rfl rfl rfl ?_
     refine ak rfl rfl rfl ?_
     refine ak rfl rfl rfl ?_
     refine ak rfl rfl rfl ?_
     refine ak rfl rfl rfl ?_
     refine ba ?_
     refine cc [26] (by kernel_rfl) (by simp) ?_
     refine bx ?_ ?_
     ·refine gj rfl rfl rfl ?_
      refine d9 [(27, none), (28, none), (29, none), (30, none), (31, none), (32, none), (33, none), (34, none), (35, none)] (fun i => [27, 28, 29, 30, 32, 34, 35].contains i) 3 (rl [36, 3]) (by kernel_rfl) ?_
      refine ak rfl rfl rfl ?_
      refine ae rfl rfl rfl rfl (dd rfl rfl (by constructor)) ?_
      refine xM rfl rfl rfl rfl rfl ?_
      refine ak rfl rfl rfl ?_
      refine ak rfl rfl rfl ?_
      refine ak rfl rfl rfl ?_
      refine ak rfl rfl rfl ?_
      refine ak rfl rfl rfl ?_
      refine ak rfl rfl rfl ?_
      refine ba ?_
      refine cc [36] (by kernel_rfl) (by simp) ?_
      refine bx ?_ ?_
      ·refine gj rfl rfl rfl ?_
       refine d9 [(37, none), (38, none)] (fun i => [37, 38].contains i) 0 (rl [39]) (by kernel_rfl) ?_
       refine ak rfl rfl rfl ?_
       refine ae rfl rfl rfl rfl (dd rfl rfl (by constructor)) ?_
       refine ba ?_
       dsimp only [St.put]
       refine fe (by kernel_rfl) ?_
       refine ⟨_, ?_, ⟨⟨rfl, rfl⟩, zF, zB, zN, zX⟩⟩
       simp_all [mw]
       try (intro h0; omega)
      exact cg
     exact cg
    have z3 : ¬ (mr p.text : Int) ≤ x.to := of_decide_eq_false hs
    refine ae rfl rfl rfl rfl (cz rfl rfl (by constructor)) ?_
    refine xM rfl rfl rfl rfl rfl ?_
    refine ae rfl rfl rfl rfl (cr rfl rfl rfl) ?_
    try dsimp only [St.put]
    refine av rfl rfl rfl rfl (bz rfl rfl) ?_
    refine ae rfl rfl rfl rfl (cr rfl rfl rfl) ?_
    try dsimp only [St.put]
    refine av rfl rfl rfl rfl (bz rfl rfl) ?_
    refine ae rfl rfl rfl rfl (bk rfl rfl (List.length_map _)) ?_
    refine ae rfl rfl rfl rfl (gh rfl rfl rfl (by omega)) ?_
    refine ba ?_
    refine cc [26] (by kernel_rfl) (by simp) ?_
    refine bx ?_ ?_
    ·try dsimp only [St.put]
     refine c5 rfl rfl rfl (bi rfl rfl rfl (o9 _ _ _) ?_)
     refine d9 [(27, none), (28, none), (29, none), (30, none), (31, none), (32, none), (33, none), (34, none), (35, none)] (fun i => [27, 28, 29, 30, 32, 34, 35].contains i) 3 (rl [36, 3]) (by kernel_rfl) ?_
     refine ae rfl rfl rfl rfl (d8 rfl rfl) ?_
     refine ka (fun hs => ?_) (fun hs => ?_)
     ·have z4 : inB x.fst (-1) ((p.firsts.length : Int) - 1) = false := by simpa using hs
      refine ae rfl rfl rfl rfl (cz rfl rfl (by constructor)) ?_
      refine xM rfl rfl rfl rfl rfl ?_
      refine ak rfl rfl rfl ?_
      refine ak rfl rfl rfl ?_
      refine ak rfl rfl rfl ?_
      refine ak rfl rfl rfl ?_
      refine ak rfl rfl rfl ?_
      refine ak rfl rfl rfl ?_
      refine ba ?_
      refine cc [36] (by kernel_rfl) (by simp) ?_
      refine bx ?_ ?_
      ·refine gj rfl rfl rfl ?_
       refine d9 [(37, none), (38, none)] (fun i => [37, 38].contains i) 0 (rl [39]) (by kernel_rfl) ?_
       refine ak rfl rfl rfl ?_
       refine ae rfl rfl rfl rfl (dd rfl rfl (by constructor)) ?_
       refine ba ?_
       dsimp only [St.put]
       refine fe (by kernel_rfl) ?_
       refine ⟨_, ?_, ⟨⟨rfl, rfl⟩, zF, zB, zN, zX⟩⟩
       simp_all [mw]
       try (intro h0; omega)
      exact cg
     have z4 : inB x.fst (-1) ((p.firsts.length : Int) - 1) = true := by simpa using hs
     refine ae rfl rfl rfl rfl (cz rfl rfl (by constructor)) ?_
     refine xM rfl rfl rfl rfl rfl ?_
     refine ae rfl rfl rfl rfl (cr rfl rfl rfl) ?_
     try dsimp only [St.put]
     refine av rfl rfl rfl rfl (bz rfl rfl) ?_
     refine ae rfl rfl rfl rfl (cr rfl rfl rfl) ?_
     try dsimp only [St.put]
     refine av rfl rfl rfl rfl (bz rfl rfl) ?_
     refine ae rfl rfl rfl rfl (bk rfl rfl (List.length_map _)) ?_
     refine ae rfl rfl rfl rfl (gh rfl rfl rfl (by omega)) ?_
     refine ba ?_
     refine cc [36] (by kernel_rfl) (by simp) ?_
     refine bx ?_ ?_
     ·try dsimp only [St.put]
      refine c5 rfl rfl rfl (bi rfl rfl rfl (o9 _ _ _) ?_)
      refine d9 [(37, none), (38, none)] (fun i => [37, 38].contains i) 0 (rl [39]) (by kernel_rfl) ?_
      refine ae rfl rfl rfl rfl (d8 rfl rfl) ?_
      refine ka (fun hs => ?_) (fun hs => ?_)
      ·have z5 : inB x.snd (-1) ((p.seconds.length : Int) - 1) = false := by simpa using hs
       refine ae rfl rfl rfl rfl (cz rfl rfl (by constructor)) ?_
       refine ba ?_
       dsimp only [St.put]
       refine fe (by kernel_rfl) ?_
       refine ⟨_, ?_, ⟨⟨rfl, rfl⟩, zF, zB, zN, zX⟩⟩
       simp_all [mw]
       try (intro h0; omega)
      have z5 : inB x.snd (-1) ((p.seconds.length : Int) - 1) = true := by simpa using hs
      refine ae rfl rfl rfl rfl (cz rfl rfl (by constructor)) ?_
      refine ba ?_
      dsimp only [St.put]
      refine fe (by kernel_rfl) ?_
      refine ⟨_, ?_, ⟨⟨rfl, rfl⟩, zF, zB, zN, zX⟩⟩
      simp_all [mw]
      try (intro h0; omega)
     exact cg
    exact cg
   exact cg
  rintro d hst
  dsimp only at hst ⊢
  refine aq rfl (fun hc => ?_) (fun hc => ?_)
  ·have hhd : mw p (iu p.pages j) x = false := by rw [hst, hc]; rfl
   refine yS fun _ K33 => ?_
   refine yR ?_
   refine yA rfl rfl ?_
   refine yN ?_
   dsimp only [St.put]
   refine K33 _ ?_
   refine ar ?_
   refine bl rfl (by constructor) zN zS ?_
   exact vb (ux hx (by rw [uy, hhd]; rfl)).symm
  have hhd : mw p (iu p.pages j) x = true := by rw [hst, hc]; rfl
  refine az ?_
  refine K31 _ ?_
  refine yS fun _ K34 => ?_
  refine yS fun _ K35 => ?_
  refine yR ?_
  refine yF rfl rfl rfl rfl ?_
  try dsimp only [St.put]
  refine ci rfl (c := fh p.text) (jf (cs := cells p) rfl rfl (show 1 ≤ 4 by decide)) ?_
  refine yE rfl rfl rfl ?_
  refine yF rfl rfl rfl rfl ?_
  refine yL rfl rfl rfl ?_
  refine yF rfl rfl rfl rfl ?_
  refine yL rfl rfl rfl ?_
  try dsimp only [St.put]
  refine af rfl (bi rfl rfl rfl (ubv p.text x x.fst x.found ht) ?_)
  refine aa rfl (d8 rfl rfl) ?_
  refine eu (fun hs => ?_) (fun hs => ?_)
  ·have hf1 : io p.text x x.fst x.found = false := by simpa using hs
   refine yM rfl rfl ?_
   refine yK rfl ?_
   refine yK rfl ?_
   refine yK rfl ?_
   refine yK rfl ?_
   refine yK rfl ?_
   refine yK rfl ?_
   refine yK rfl ?_
   refine yK rfl ?_
   refine yK rfl ?_
   refine aa rfl (dd rfl rfl (by constructor)) ?_
   refine yN ?_
   dsimp only [St.put]
   refine K35 _ ?_
   refine aq rfl (fun _ => ?_) (fun h => by cases h)
   refine yS fun _ K36 => ?_
   refine yR ?_
   refine yA rfl rfl ?_
   refine yN ?_
   dsimp only [St.put]
   refine K36 _ ?_
   refine ar ?_
   refine bl rfl (by constructor) zN zS ?_
   exact vb (ux hx (by rw [uy, hhd, hf1]; first | rfl | (rw [hf2]; rfl))).symm
  have hf1 : io p.text x x.fst x.found = true := by simpa using hs
  refine yM rfl rfl ?_
  refine yF rfl rfl rfl rfl ?_
  try dsimp only [St.put]
  refine ci rfl (c := fh p.text) (jf (cs := cells p) rfl rfl (show 1 ≤ 4 by decide)) ?_
  refine yE rfl rfl rfl ?_
  refine yF rfl rfl rfl rfl ?_
  refine yL rfl rfl rfl ?_
  refine yF rfl rfl rfl rfl ?_
  refine yL rfl rfl rfl ?_
  try dsimp only [St.put]
  refine af rfl (bi rfl rfl rfl (ubv p.text x x.snd x.well ht) ?_)
  refine aa rfl (d8 rfl rfl) ?_
  refine eu (fun hs => ?_) (fun hs => ?_)
  ·have hf2 : io p.text x x.snd x.well = false := by simpa using hs
   refine aa rfl (cz rfl rfl (by constructor)) ?_
   refine yN ?_
   dsimp only [St.put]
   refine K35 _ ?_
   refine aq rfl (fun _ => ?_) (fun h => by cases h)
   refine yS fun _ K37 => ?_
   refine yR ?_
   refine yA rfl rfl ?_
   refine yN ?_
   dsimp only [St.put]
   refine K37 _ ?_
   refine ar ?_
   refine bl rfl (by constructor) zN zS ?_
   exact vb (ux hx (by rw [uy, hhd, hf1]; first | rfl | (rw [hf2]; rfl))).symm
  have hf2 : io p.text x x.snd x.well = true := by simpa using hs
  refine aa rfl (cz rfl rfl (by constructor)) ?_
  refine yN ?_
  dsimp only [St.put]
  refine K35 _ ?_
  refine aq rfl (fun h => by cases h) (fun _ => ?_)
  refine az ?_
  refine K34 _ ?_
  refine yR ?_
  refine yF rfl rfl rfl rfl ?_
  refine yL rfl rfl rfl ?_
  refine yA rfl rfl ?_
  refine yN ?_
  dsimp only [St.put]
  refine K29 _ ?_
  refine yR ?_
  refine yM rfl rfl ?_
  refine aa rfl (bv rfl rfl rfl (by omega)) ?_
  refine yA rfl rfl ?_
  refine yN ?_
  dsimp only [St.put]
  rw [← udh hx]
  exact ⟨j + 1, by omega, ⟨by omega, by rw [ub6, hK.2, yd hx, uy, hhd, hf1, hf2]; rfl⟩, ⟨⟨rfl, rfl⟩, zF, zB, zN, zX⟩⟩
 replace hc := of_decide_eq_false hc
 obtain rfl : j = p.pages.length := by omega
 refine c7 ?_
 refine K25 _ ?_
 refine yS fun _ K38 => ?_
 refine yR ?_
 refine yA rfl rfl ?_
 refine yN ?_
 dsimp only [St.put]
 refine K38 _ ?_
 refine ar ?_
 refine bl rfl (by constructor) zN zS ?_
 exact vb (by unfold gg; rw [hRB, hK.2, decide_eq_true s3]; rfl)
end Go.Proofs.YtbbdginipiljdaaGreatDoor
namespace Go.AB
open Go Go.RowKit
open Go.AB.Enc (cells)
open Go.PB (bh aj PlaceD bq bt br ca ay ah dj c9 du dt)
theorem w8 {p : ah} {n : Int} (h : gp p n = 0) : dm p = 0 ∧ ∃ (j : Nat) (x : ay), n = (j : Int) ∧ p.pages[j]? = some x ∧ ub7 p n = x := by
 unfold gp at h
 by_cases hc : dm p = 0
 ·rw [decide_eq_true hc, cond_true] at h
  cases hb : inB n 0 ((p.pages.length : Int) - 1)
  ·rw [hb] at h; cases h
  rw [inB_true] at hb
  obtain ⟨x, hx⟩ : ∃ x, p.pages[n.toNat]? = some x := ⟨_, List.getElem?_eq_getElem (show n.toNat < p.pages.length by omega)⟩
  exact ⟨hc, n.toNat, x, by omega, hx, by unfold ub7; rw [hx]; rfl⟩
 rw [decide_eq_false hc, cond_false] at h
 exact absurd h hc
end Go.AB
namespace Go.Proofs.YtbbdginipiljdaaGreatDoor
set_option maxRecDepth 10000
open Go.RowKit Go.AB
open Go.AB.Enc (cells)
open Go.PB (bh aj PlaceD bq bt br ca ay ah dj c9 du dt)
theorem uw (p : ah) : Pure Tryz.prog 49 [val p] (.v (.int .i64 (dm p))) := by
 refine da Tryz.func49 rfl (fun m => .v) fun G nx => ?_
 simp only [Tryz.ntmps49, List.length_cons, List.length_nil, Nat.reduceAdd, Nat.reduceSub]
 refine cb fun hlt => ?_
 dsimp only at hlt
 refine yS fun _ K1 => ?_
 refine yR ?_
 try dsimp only [St.put]
 refine yB rfl rfl rfl ?_
 refine yA rfl rfl ?_
 refine yN ?_
 dsimp only [St.put]
 refine K1 _ ?_
 refine yS fun _ K2 => ?_
 refine yS fun _ K3 => ?_
 refine yR ?_
 refine yF rfl rfl rfl rfl ?_
 try dsimp only [St.put]
 refine ci rfl (c := fh p.text) (jf (cs := cells p) rfl rfl (show 1 ≤ 4 by decide)) ?_
 try dsimp only [St.put]
 refine af rfl (bi rfl rfl rfl (unj p.text) ?_)
 refine yA rfl rfl ?_
 refine yN ?_
 dsimp only [St.put]
 refine K3 _ ?_
 refine yS fun _ K4 => ?_
 refine yR ?_
 refine yM rfl rfl ?_
 refine aa rfl (fu rfl rfl rfl) ?_
 refine yN ?_
 dsimp only [St.put]
 refine K4 _ ?_
 refine aq rfl (fun hc => ?_) (fun hc => ?_)
 ·have ht : d7 p.text = false := by
   have h0 := jk hc
   unfold jj at h0
   cases h1 : d7 p.text
   ·rfl
   rw [h1] at h0; exact absurd rfl h0
  refine yS fun _ K5 => ?_
  refine yR ?_
  refine yM rfl rfl ?_
  refine yA rfl rfl ?_
  refine yN ?_
  dsimp only [St.put]
  refine K5 _ ?_
  refine ar ?_
  refine bl rfl (by constructor) zN zS ?_
  exact vi (by simp [dm, jj, ht])
 have ht : d7 p.text = true := by
  have h0 := gz hc
  unfold jj at h0
  cases h1 : d7 p.text
  ·rw [h1] at h0; cases h0
  rfl
 refine az ?_
 refine K2 _ ?_
 refine yS fun _ K6 => ?_
 refine yS fun _ K7 => ?_
 refine yR ?_
 refine yE rfl rfl rfl ?_
 try dsimp only [St.put]
 refine af rfl (bi rfl rfl rfl (uis p ht) ?_)
 refine aa rfl (d8 rfl rfl) ?_
 refine yN ?_
 dsimp only [St.put]
 refine K7 _ ?_
 refine aq rfl (fun hc => ?_) (fun hc => ?_)
 ·have hp : gg p = false := by simpa using hc
  refine yS fun _ K8 => ?_
  refine yR ?_
  refine yA rfl rfl ?_
  refine yN ?_
  dsimp only [St.put]
  refine K8 _ ?_
  refine ar ?_
  refine bl rfl (by constructor) zN zS ?_
  exact vi (by simp [dm, ht, hp])
 have hp : gg p = true := by simpa using hc
 refine az ?_
 refine K6 _ ?_
 refine yS fun _ K9 => ?_
 refine yR ?_
 refine yA rfl rfl ?_
 refine yN ?_
 dsimp only [St.put]
 refine K9 _ ?_
 refine ar ?_
 refine bl rfl (by constructor) zN zS ?_
 exact vi (by simp [dm, ht, hp])
theorem uik (p : ah) (n : Int) : Pure Tryz.prog 44 [val p, .v (.int .i64 n)] (.v (.int .i64 (gp p n))) := by
 refine da Tryz.func44 rfl (fun m => .v) fun G nx => ?_
 simp only [Tryz.ntmps44, List.length_cons, List.length_nil, Nat.reduceAdd, Nat.reduceSub]
 refine cb fun hlt => ?_
 dsimp only at hlt
 refine j8 0 (fun hfp => ?_)
 have hfl := (fit_lst.1 (fit_agg.1 hfp _ (by exact List.mem_cons_of_mem _ (List.mem_cons_of_mem _ (List.mem_cons_of_mem _ (List.mem_cons_self ..)))))).1
 refine yS fun _ K1 => ?_
 refine yR ?_
 try dsimp only [St.put]
 refine yB rfl rfl rfl ?_
 refine yA rfl rfl ?_
 refine yN ?_
 dsimp only [St.put]
 refine K1 _ ?_
 refine yS fun _ K2 => ?_
 refine yS fun _ K3 => ?_
 refine yR ?_
 refine yE rfl rfl rfl ?_
 try dsimp only [St.put]
 refine af rfl (bi rfl rfl rfl (uw p) ?_)
 refine yA rfl rfl ?_
 refine yN ?_
 dsimp only [St.put]
 refine K3 _ ?_
 refine yS fun _ K4 => ?_
 refine yR ?_
 refine yM rfl rfl ?_
 refine aa rfl (fu rfl rfl rfl) ?_
 refine yN ?_
 dsimp only [St.put]
 refine K4 _ ?_
 refine aq rfl (fun hc => ?_) (fun hc => ?_)
 ·have h0 : dm p ≠ 0 := jk hc
  refine yS fun _ K5 => ?_
  refine yR ?_
  refine yM rfl rfl ?_
  refine yA rfl rfl ?_
  refine yN ?_
  dsimp only [St.put]
  refine K5 _ ?_
  refine ar ?_
  refine bl rfl (by constructor) zN zS ?_
  exact vi (by simp [gp, h0])
 have h0 : dm p = 0 := gz hc
 refine az ?_
 refine K2 _ ?_
 refine yS fun _ K6 => ?_
 refine yS fun _ K7 => ?_
 refine yR ?_
 refine yM rfl rfl ?_
 refine yF rfl rfl rfl rfl ?_
 refine yL rfl rfl rfl ?_
 refine aa rfl (bk rfl rfl (List.length_map _)) ?_
 refine aa rfl (gh rfl rfl rfl (by omega)) ?_
 try dsimp only [St.put]
 refine af rfl (bi rfl rfl rfl (o9 _ _ _) ?_)
 refine aa rfl (d8 rfl rfl) ?_
 refine yN ?_
 dsimp only [St.put]
 refine K7 _ ?_
 refine aq rfl (fun hc => ?_) (fun hc => ?_)
 ·have h1 : inB n 0 ((p.pages.length : Int) - 1) = false := by simpa using hc
  refine yS fun _ K8 => ?_
  refine yR ?_
  refine yA rfl rfl ?_
  refine yN ?_
  dsimp only [St.put]
  refine K8 _ ?_
  refine ar ?_
  refine bl rfl (by constructor) zN zS ?_
  exact vi (by simp [gp, h0, h1])
 have h1 : inB n 0 ((p.pages.length : Int) - 1) = true := by simpa using hc
 refine az ?_
 refine K6 _ ?_
 refine yS fun _ K9 => ?_
 refine yR ?_
 refine yA rfl rfl ?_
 refine yN ?_
 dsimp only [St.put]
 refine K9 _ ?_
 refine ar ?_
 refine bl rfl (by constructor) zN zS ?_
 exact vi (by simp [gp, h0, h1])
end Go.Proofs.YtbbdginipiljdaaGreatDoor
namespace Go.Proofs.YtbbdginipiljdaaGreatDoor
set_option maxRecDepth 10000
open Go.RowKit Go.AB
open Go.AB.Enc (cells)
open Go.PB (bh aj PlaceD bq bt br ca ay ah dj c9 du dt)
end Go.Proofs.YtbbdginipiljdaaGreatDoor
namespace Go.Proofs.YtbbdginipiljdaaGreatDoor
set_option maxRecDepth 10000
open Go.RowKit Go.AB
open Go.AB.Enc (cells)
open Go.PB (bh aj PlaceD bq bt br ca ay ah dj c9 du dt)
end Go.Proofs.YtbbdginipiljdaaGreatDoor
namespace Go.Proofs.YtbbdginipiljdaaGreatDoor
set_option maxRecDepth 10000
open Go.RowKit Go.AB
open Go.AB.Enc (cells)
open Go.PB (bh aj PlaceD bq bt br ca ay ah dj c9 du dt)
theorem uiu (a b : List Int) (ha : a.length ≤ 1000) (hb : b.length ≤ 1000) : Pure Tryz.prog 34 [lst a, lst b] (.v (.bool (ip a b))) := by
 refine da Tryz.func34 rfl (fun m => .v) fun G nx => ?_
 simp only [Tryz.ntmps34, List.length_cons, List.length_nil, Nat.reduceAdd, Nat.reduceSub]
 refine cb fun hlt => ?_
 dsimp only at hlt
 refine yS fun _ K1 => ?_
 refine yR ?_
 refine yA rfl rfl ?_
 refine yN ?_
 dsimp only [St.put]
 refine K1 _ ?_
 refine yS fun _ K2 => ?_
 refine yS fun _ K3 => ?_
 refine yR ?_
 refine yM rfl rfl ?_
 refine aa rfl (bk rfl rfl (List.length_map _)) ?_
 refine yM rfl rfl ?_
 refine aa rfl (bk rfl rfl (List.length_map _)) ?_
 refine aa rfl (fu rfl rfl rfl) ?_
 refine yN ?_
 dsimp only [St.put]
 refine K3 _ ?_
 refine aq rfl (fun hc => ?_) (fun hc => ?_)
 ·have hl : ¬ a.length = b.length := by
   have := jk hc
   omega
  refine yS fun _ K4 => ?_
  refine yR ?_
  refine yM rfl rfl ?_
  refine aa rfl (bk rfl rfl (List.length_map _)) ?_
  refine yM rfl rfl ?_
  refine aa rfl (bk rfl rfl (List.length_map _)) ?_
  refine aa rfl (cm rfl rfl rfl) ?_
  refine yA rfl rfl ?_
  refine yN ?_
  dsimp only [St.put]
  refine K4 _ ?_
  refine ar ?_
  refine bl rfl (by constructor) zN zS ?_
  exact vb (by simp [ip, hl])
 have hl : a.length = b.length := by
  have := gz hc
  omega
 refine az ?_
 refine K2 _ ?_
 refine yS fun _ K5 => ?_
 refine yS fun _ K6 => ?_
 refine yR ?_
 refine yA rfl rfl ?_
 refine yN ?_
 dsimp only [St.put]
 refine K6 _ ?_
 refine bg ?_
 refine co 6 ?_
 refine zQ ?_
 refine dh (G) zX ?_
 dsimp only
 refine dg (X := Nat) (fun k => k ≤ a.length ∧ a.take k = b.take k) (fun k => a.length - k) (fun k => [(5, .v (.int .i64 (k : Int)))]) (fun k G' => G') 0 rfl ?_ ?_ (fun _ _ h => h) ?_ ?_ ?_
 ·exact ⟨Nat.zero_le _, by simp⟩
 ·exact zF
 ·rintro k hI
  exact zL
 ·exact fun _ _ _ _ h => .inl h
 rintro k hI
 dsimp only at hI ⊢
 refine yS fun _ K7 => ?_
 refine yS fun _ K8 => ?_
 refine yR ?_
 refine yM rfl rfl ?_
 refine yM rfl rfl ?_
 refine aa rfl (bk rfl rfl (List.length_map _)) ?_
 refine aa rfl (cm rfl rfl rfl) ?_
 refine yN ?_
 dsimp only [St.put]
 refine K8 _ ?_
 refine aq rfl (fun hc => ?_) (fun hc => ?_)
 ·replace hc := of_decide_eq_true hc
  obtain ⟨x, hx⟩ : ∃ x, a[k]? = some x := dn (by omega)
  obtain ⟨y, hy⟩ : ∃ y, b[k]? = some y := dn (by omega)
  refine az ?_
  refine K7 _ ?_
  refine yS fun _ K9 => ?_
  refine bg ?_
  refine yS fun _ K10 => ?_
  refine fb [(0, none), (1, none), (2, none), (3, none), (4, none), (5, none), (6, none), (7, none), (8, none)] (fun i => [].contains i) (fun i => [].contains i) (fun i => [0, 1, 2, 4, 5, 6, 8].contains i) [] (by kernel_rfl) (by kernel_rfl) ?_
  refine xM rfl rfl rfl rfl rfl ?_
  refine xM rfl rfl rfl rfl rfl ?_
  try dsimp only [St.put]
  refine ae rfl rfl rfl rfl (bu rfl rfl rfl rfl (bp (by assumption)) (Enc.len _)) ?_
  try dsimp only [St.put]
  refine av rfl rfl rfl rfl (bz rfl rfl) ?_
  refine xM rfl rfl rfl rfl rfl ?_
  refine xM rfl rfl rfl rfl rfl ?_
  try dsimp only [St.put]
  refine ae rfl rfl rfl rfl (bu rfl rfl rfl rfl (bp (by assumption)) (Enc.len _)) ?_
  try dsimp only [St.put]
  refine av rfl rfl rfl rfl (bz rfl rfl) ?_
  refine ae rfl rfl rfl rfl (fu rfl rfl rfl) ?_
  refine ba ?_
  dsimp only [St.put]
  refine K10 _ ?_
  refine aq rfl (fun hc => ?_) (fun hc => ?_)
  ·have hxy : x ≠ y := jk hc
   refine yS fun _ K11 => ?_
   refine fb [(0, none), (1, none), (2, none), (3, none), (4, none), (5, none), (6, none), (7, none), (8, none), (9, none)] (fun i => [].contains i) (fun i => [].contains i) (fun i => [0, 1, 2, 4, 5, 6, 8, 9].contains i) [] (by kernel_rfl) (by kernel_rfl) ?_
   refine xM rfl rfl rfl rfl rfl ?_
   refine xM rfl rfl rfl rfl rfl ?_
   try dsimp only [St.put]
   refine ae rfl rfl rfl rfl (bu rfl rfl rfl rfl (bp (by assumption)) (Enc.len _)) ?_
   try dsimp only [St.put]
   refine av rfl rfl rfl rfl (bz rfl rfl) ?_
   refine xM rfl rfl rfl rfl rfl ?_
   refine xM rfl rfl rfl rfl rfl ?_
   try dsimp only [St.put]
   refine ae rfl rfl rfl rfl (bu rfl rfl rfl rfl (bp (by assumption)) (Enc.len _)) ?_
   try dsimp only [St.put]
   refine av rfl rfl rfl rfl (bz rfl rfl) ?_
   refine ae rfl rfl rfl rfl (cm rfl rfl rfl) ?_
   refine ae rfl rfl rfl rfl (f8 rfl (by constructor)) ?_
   refine ba ?_
   dsimp only [St.put]
   refine K11 _ ?_
   refine ar ?_
   refine bl rfl (by constructor) zN zS ?_
   exact vb (by rw [ums hl, decide_eq_decide]; exact (uc7 hI.2 hx hy hxy).symm)
  have hxy : x = y := gz hc
  refine az ?_
  refine K9 _ ?_
  refine yR ?_
  refine yM rfl rfl ?_
  refine aa rfl (bv rfl rfl rfl (by omega)) ?_
  refine yA rfl rfl ?_
  refine yN ?_
  dsimp only [St.put]
  exact ⟨k + 1, by omega, ⟨by omega, qi hI.2 hx (hxy ▸ hy)⟩, ⟨⟨rfl, rfl⟩, zF, zB, zN, zX⟩⟩
 replace hc := of_decide_eq_false hc
 refine c7 ?_
 refine K5 _ ?_
 refine yS fun _ K12 => ?_
 refine yR ?_
 refine yA rfl rfl ?_
 refine yN ?_
 dsimp only [St.put]
 refine K12 _ ?_
 refine ar ?_
 refine bl rfl (by constructor) zN zS ?_
 exact vb (by
  have h1 := hI.2
  rw [ey (by omega), ey (by omega)] at h1
  rw [h1, uaa])
end Go.Proofs.YtbbdginipiljdaaGreatDoor
namespace Go.AB
open Go Go.RowKit
open Go.AB.Enc (cells)
open Go.PB (bh aj PlaceD bq bt br ca ay ah dj c9)
/-! ### First and second readers change their places -/
/-! ### Errors that are missed -/
end Go.AB
namespace Go.AB
open Go Go.RowKit
open Go.AB.Enc (cells)
open Go.PB (bh aj PlaceD bq bt br ca ay ah dj c9 du dt)
def p6 (R : Nat → Int) (c : Int) (l : List Int) : Int := l.foldl (fun n z => min n (R z.toNat)) c
def jm (R : Nat → Int) (n : Int) (l : List Int) : Nat → Int := l.foldl (fun R z => fun i => bif decide (i = z.toNat) then R z.toNat - n else R i) R
theorem ua0 (R : Nat → Int) (n : Int) : jm R n [] = R := rfl
theorem uc2 {R : Nat → Int} {c : Int} {l : List Int} {k : Nat} {z : Int} (h : l[k]? = some z) : p6 R c (l.take (k + 1)) = min (p6 R c (l.take k)) (R z.toNat) := by
 unfold p6; rw [List.take_add_one, h, Option.toList_some, List.foldl_append]; rfl
theorem uaz {R : Nat → Int} {n : Int} {l : List Int} {k : Nat} {z : Int} (h : l[k]? = some z) : jm R n (l.take (k + 1)) = fun i => bif decide (i = z.toNat) then jm R n (l.take k) z.toNat - n else jm R n (l.take k) i := by
 unfold jm; rw [List.take_add_one, h, Option.toList_some, List.foldl_append]; rfl
theorem ufc {p : ah} {j : Nat} {x : ay} (hx : p.pages[j]? = some x) (R C : Nat → Int) : (b9 p).alone R C j = p6 R (C j) (di p x) := by
 simp only [Net.alone, b9, hx, di, p6]
 by_cases q1 : 0 ≤ x.fst <;> by_cases q2 : 0 ≤ x.snd
 ·simp [q1, q2, oh, show ((p.firsts.length : Int) + x.snd).toNat = p.firsts.length + x.snd.toNat by omega]
 ·simp [q1, q2, oh]
 ·simp [q1, q2, oh, show ((p.firsts.length : Int) + x.snd).toNat = p.firsts.length + x.snd.toNat by omega]
 ·simp [q1, q2, oh]
theorem udd {p : ah} (h : ff p) {j : Nat} {x : ay} (hx : p.pages[j]? = some x) (R : Nat → Int) (n : Int) : (b9 p).lessR R j n = jm R n (di p x) := by
 have hp := pageB_true.1 (h.page j x hx)
 have h1 := hp.fst
 have h2 := hp.snd
 funext i
 simp only [Net.lessR, Net.by, b9, hx, di, jm]
 by_cases q1 : 0 ≤ x.fst <;> by_cases q2 : 0 ≤ x.snd
 ·have e2 : ((p.firsts.length : Int) + x.snd).toNat = p.firsts.length + x.snd.toNat := by omega
  have hne : ¬ p.firsts.length + x.snd.toNat = x.fst.toNat := by omega
  rw [decide_eq_true q1, decide_eq_true q2]
  simp only [cond_true, List.cons_append, List.nil_append, List.foldl_cons, List.foldl_nil, e2, Option.some.injEq]
  by_cases z1 : i = x.fst.toNat
  ·have z2 : ¬ i = p.firsts.length + x.snd.toNat := by omega
   simp [z1.symm, z2, Ne.symm z2]
  ·by_cases z2 : i = p.firsts.length + x.snd.toNat
   ·simp [z1, Ne.symm z1, z2, hne, Ne.symm hne]
   ·simp [z1, Ne.symm z1, z2, Ne.symm z2]
 ·rw [decide_eq_true q1, decide_eq_false q2]
  simp only [cond_true, cond_false, List.append_nil, List.foldl_cons, List.foldl_nil, Option.some.injEq]
  by_cases z1 : i = x.fst.toNat
  ·simp [z1]
  ·simp [z1, Ne.symm z1]
 ·have e2 : ((p.firsts.length : Int) + x.snd).toNat = p.firsts.length + x.snd.toNat := by omega
  rw [decide_eq_false q1, decide_eq_true q2]
  simp only [cond_true, cond_false, List.nil_append, List.foldl_cons, List.foldl_nil, e2, Option.some.injEq]
  by_cases z2 : i = p.firsts.length + x.snd.toNat
  ·simp [z2]
  ·simp [z2, Ne.symm z2]
 ·rw [decide_eq_false q1, decide_eq_false q2]
  simp
theorem tr {p : ah} {R C : Nat → Int} (hB : Bd p R C) {j : Nat} {n : Int} (h0 : 0 ≤ n) (hn : n ≤ (b9 p).alone R C j) : Bd p ((b9 p).lessR R j n) (fa C j) := by
 refine ⟨fun i => ?_, fun k => ?_, hB.nr, hB.np⟩
 ·unfold Net.lessR
  cases hb : (b9 p).by j i
  ·exact hB.r i
  ·have h1 := (Net.le_alone.1 hn).2 i hb
   have h2 := hB.r i
   show -1000000 ≤ R i - n ∧ R i - n ≤ 1000000
   omega
 ·unfold fa
  cases decide (k = j)
  ·exact hB.c k
  ·exact ⟨Int.le_refl _, by show (0 : Int) ≤ 1000000; omega⟩
/-- what is above has been looked at -/
def FromTop (p : ah) (R C : Nat → Int) (j : Nat) (n : Int) : Prop := (b9 p).pick R C j ≤ n ∧ n ≤ (b9 p).alone R C j ∧ ∀ m, n < m → m ≤ (b9 p).alone R C j → ¬ (b9 p).most R C ≤ m + (b9 p).most ((b9 p).lessR R j m) (fa C j)
theorem FromTop.start {p : ah} {R C : Nat → Int} {j : Nat} (h : (b9 p).Pick R C j ((b9 p).pick R C j)) : FromTop p R C j ((b9 p).alone R C j) := ⟨h.le, Int.le_refl _, fun m h1 h2 => by omega⟩
theorem FromTop.stop {p : ah} {R C : Nat → Int} {j : Nat} {n : Int} (h : (b9 p).Pick R C j ((b9 p).pick R C j)) (k : FromTop p R C j n) (hs : (b9 p).most R C ≤ n + (b9 p).most ((b9 p).lessR R j n) (fa C j)) : n = (b9 p).pick R C j :=
 Net.Pick.uniq ⟨Int.le_trans h.nn k.1, k.2.1, hs, k.2.2⟩ h
theorem FromTop.down {p : ah} {R C : Nat → Int} {j : Nat} {n : Int} (h : (b9 p).Pick R C j ((b9 p).pick R C j)) (k : FromTop p R C j n) (hs : ¬ (b9 p).most R C ≤ n + (b9 p).most ((b9 p).lessR R j n) (fa C j)) : FromTop p R C j (n - 1) := by
 refine ⟨?_, by have := k.2.1; omega, fun m h1 h2 => ?_⟩
 ·have h1 := k.1
  by_cases e : n = (b9 p).pick R C j
  ·subst e
   exact absurd h.ok hs
  ·omega
 ·by_cases e : m = n
  ·subst e; exact hs
  ·exact k.2.2 m (by omega) h2
end Go.AB
namespace Go.AB
open Go Go.RowKit
open Go.AB.Enc (cells)
section
variable {P : Program} {o : Oper} {st : St} {K : St → Prop}
/-- An empty slice that is built: owned. -/
theorem jp {t e : TypeId} {sz bytes : Nat} [AppT P t e sz bytes] (ho : o.op = .buildSlice t 0 #[]) (hsz1 : 1 ≤ sz) (h : K (St.put { st with G := ai st.G st.nx (.arr 0 0 e sz 0 []), nx := st.nx + 1 } o.dst (.own st.nx 0 0))) : EStep P o st K :=
 ko fun E w a hsim => by
  obtain ⟨ht, i, z, hie, hz, h1, h2, h3⟩ := AppT.spec (P := P) (t := t) (e := e) (sz := sz) (bytes := bytes)
  obtain ⟨ob, hob⟩ : ∃ ob, ob = Obj.cells #[] e := ⟨_, rfl⟩
  have hev := Ev.laid hsim.g (o := ob) 0 (.inl rfl)
  have hg := SimG.laid hsim.g (o := ob) 0 (.inl rfl)
  have hnew : (w.alloc ob).heap[w.heap.size]? = some ob := nj w ob
  have hsz : (w.alloc ob).heap.size = w.heap.size + 1 := by simp
  have hold : ∀ n tt b, (E.lay w.heap.size 0).T n = some tt → blk tt.2.2 = some b → b < w.heap.size := fun n tt b h5 h6 => (hsim.g.tb n _ _ _ b h5 h6).2
  have hnx := hsim.g.nx
  have hfr : ∀ b o', blk (.slice (some ⟨w.heap.size, 0, none⟩) 0 0) = some b → w.heap[b]? = some o' → False := fun b o' hbk ho' => by
   simp only [blk, Option.some.injEq] at hbk
   subst hbk
   have := (Array.getElem?_eq_some_iff.1 ho').1
   omega
  have hev2 := hev.thenName (.slice (some ⟨w.heap.size, 0, none⟩) 0 0) hfr
  have hg2 := SimG.name hg (.slice (some ⟨w.heap.size, 0, none⟩) 0 0) (.arr 0 0 e sz 0 []) (fun b hbk => by
   simp only [blk, Option.some.injEq] at hbk
   subst hbk
   exact ⟨hsim.g.base, by rw [hsz]; omega, fun n tt h5 h6 => absurd (hold n tt _ h5 h6) (by omega)⟩) (by
   refine ⟨.slice (some ⟨w.heap.size, 0, none⟩) 0 0, [], ?_, ⟨by simp, .inr ⟨w.heap.size, 0, _, rfl, hsim.g.base, hnew.trans (by rw [hob]), Nat.le_refl _, Nat.zero_le _, by simp, by simp⟩⟩, fun c hc => (by cases hc), Rs.nil, fun b hbk => ?_, hsz1⟩
   ·simp [Env.name, Env.lay, hnx]
   ·simp only [blk, Option.some.injEq] at hbk
    subst hbk
    simp [Env.name, Env.lay])
  refine ⟨.slice (some ⟨w.heap.size, 0, none⟩) 0 0, w.alloc ob, _, _, _, .own st.nx 0 0, ?_, hev2, ?_, hg2, h⟩
  ·subst hob
   simp [execOp, ho, Instr.buildSlice, run_underlying ht, sizeOf, typeInfo, hie, Instr.fill, newRow, newObj, Sem.run, show (Array.map (fun _ => (default : Value)) (Array.range 0)) = #[] from by simp]
  ·refine R.own (by simp [Env.name, Env.lay]; omega) (Nat.le_refl _) (Nat.zero_le _) fun ver wv val htt => ?_
   simp only [Env.name, Env.lay, hnx, if_true, Option.some.injEq, Prod.mk.injEq] at htt
   obtain ⟨rfl, rfl, rfl⟩ := htt
   exact ⟨Nat.le_refl _, fun _ => ⟨_, Nat.le_refl _, rfl⟩⟩
end
end Go.AB
namespace Go.AB
open Go Go.RowKit
open Go.AB.Enc (cells)
variable {ρ : Option Nat}
section
variable {P : Program} {Q : Exit → St → Prop} {st : St}
theorem Back.simN {E0 E' : Env} {w0 w' : World} {a0 a' : Act} {st' : St} {u : List (Nat × C)} {g : Nat → Option GObj} {M : Nat} (h0 : Sim E0 w0 st a0) (hr : st.r = []) (hM : st.nx ≤ M) (hb : Back { st with nx := M } u g st') (hu : pf M u) (hg : ∀ n o, g n = some o → st.G n = some o ∨ (n < M ∧ o.low M))
  (hev : Ev E0 w0 E' w') (hs : Sim E' w' st' a') : Ev E0 w0 (E'.drop M) w' ∧ Sim (E'.drop M) w' { st with r := u, G := g, nx := M } a' := by
 have h1 := h0.g.nx
 refine ⟨hev.drop (by omega), ?_⟩
 have hlow : ∀ i, i < st.n → (cx st.l u i).low M := fun i hi => by
  rcases te st.l u i with ⟨p, hp, _, he⟩ | ⟨_, he⟩
  ·rw [he]; exact y6 hu p hp
  ·rw [he]
   have := h0.low i hi
   rw [hr] at this
   exact C.low.mono this hM
 have hcl : ∀ i, cx st.l u i = .any ∨ cx st.l u i = cx st'.l st'.r i := fun i => by
  by_cases hi : i < st.l.length
  ·rcases wj _ _ hb.fits i (Nat.zero_le _) (by show i < 0 + st.l.length; omega) with h | h
   ·exact .inl h
   ·exact .inr h.symm
  ·rcases te st.l u i with ⟨p, hp, he, he2⟩ | ⟨_, he⟩
   ·rcases hb.keys with hk | hk
    ·have h2 : p.1 < st.l.length := vz hk p hp
     omega
    ·rcases wh hk p hp with h | h
     ·left; rw [he2, h]
     ·right; rw [he2, ← h, he]
   ·left; rw [he, List.getD_eq_getElem?_getD, List.getElem?_eq_none (by omega)]; rfl
 refine hs.dropTo (st' := { st with r := u, G := g, nx := M }) hb.n.1.symm hb.n.2.symm hb.nx (fun i hi => ?_) fun n o ho => ⟨hb.G n o ho, ?_⟩
 ·rcases hcl i with h2 | h2
  ·exact .inl h2
  ·exact .inr ⟨h2, hlow i (hb.n.1 ▸ hi)⟩
 ·rcases hg n o ho with h2 | h2
  ·have := h0.lowG n o h2
   exact ⟨by have := this.1; show n < M; omega, GObj.low_mono this.2 hM⟩
  ·exact h2
end
section
variable {P : Program} {o : Oper} {st : St} {K : St → Prop}
end
end Go.AB
namespace Go.AB
open Go Go.RowKit
theorem ue5 {ρ : Option Nat} {P : Program} {Q : Exit → St → Prop} {st : St} {X : Type} {x y : Code} (I : X → Prop) (u : X → List (Nat × C)) (g : X → (Nat → Option GObj) → Nat → Option GObj) (N : X → Nat) (hr : st.r = [])
  (hN : ∀ x, I x → st.nx ≤ N x) (hu : ∀ x, I x → pf (N x) (u x)) (hg : ∀ x, I x → ∀ n o, g x st.G n = some o → st.G n = some o ∨ (n < N x ∧ o.low (N x)))
  (h1 : AW ρ P x (ox (fun st' => ∃ x', I x' ∧ Back { st with nx := N x' } (u x') (g x' st.G) st') Q) st) (h2 : ∀ x', I x' → AW ρ P y Q { st with r := u x', G := g x' st.G, nx := N x' }) : AW ρ P (.seq x y) Q st := by
 intro E w a hs
 refine wpIn_seq (iw ?_ (h1 E w a hs))
 rintro e a' w' ⟨st', E', q1, q2, q3⟩
 cases e with
 | normal =>
  obtain ⟨x', h5, h6⟩ := q3
  obtain ⟨h7, h8⟩ := Back.simN hs hr (hN x' h5) h6 (hu x' h5) (hg x' h5) q1 q2
  exact iw (fun _ _ _ hq => ms h7 hq) (h2 x' h5 _ w' a' h8)
 | _ => exact ⟨st', E', q1, q2, q3⟩
/-- What stands in a slot is known less well. -/
theorem tu {ρ : Option Nat} {P : Program} {Q : Exit → St → Prop} {st : St} {x : Code} (i : Nat) {c : C} (c' : C) (h0 : st.at i = c) (hw : Wk c c') (h : AW ρ P x Q { st with r := (i, c') :: st.r }) : AW ρ P x Q st := by
 intro E w a hs
 have hp := hs.at i
 rw [h0] at hp
 refine h E w a ⟨hs.d, hs.sz, fun j v hj => ?_, hs.g⟩
 simp only [cx]
 cases hb : Nat.beq i j
 ·exact hs.t j v hj
 ·have hij := Nat.eq_of_beq_eq_true hb
  subst hij
  have hv : a.tmps.getD i undef = v := by rw [Array.getD_eq_getD_getElem?, hj]; rfl
  rw [hv] at hp
  exact hw.2 _ _ _ hp
end Go.AB
namespace Go.AB
open Go Go.RowKit
open Go.AB.Enc (cells)
open Go.PB (bh aj PlaceD bq bt br ca ay ah dj c9 du dt)
/-- the first reader of whom less than nothing is left -/
def lf (p : ah) : Nat → Option Nat
 | 0 => none
 | k + 1 => match lf p k with
  | some i => some i
  | none => bif decide (cw p k < 0) then some k else none
theorem yr {p : ah} {k : Nat} (h : lf p k = none) : lf p (k + 1) = bif decide (cw p k < 0) then some k else none := by simp only [lf, h]
theorem uct {p : ah} {k i : Nat} (h : lf p k = some i) : ∀ m, k ≤ m → lf p m = some i := by
 intro m hm
 induction hm with
 | refl => exact h
 | step _ ih => simp only [lf, ih]
theorem ucu {p : ah} : ∀ {k : Nat}, lf p k = none ↔ ∀ i, i < k → 0 ≤ cw p i
 | 0 => by simp [lf]
 | k + 1 => by
  have ih := ucu (p := p) (k := k)
  cases h : lf p k with
  | some i =>
   rw [uct h _ (Nat.le_succ _)]
   constructor
   ·intro q; cases q
   intro q
   have := ih.2 fun i hi => q i (by omega)
   rw [h] at this; cases this
  | none =>
   rw [yr h]
   have h2 := ih.1 h
   by_cases q : cw p k < 0
   ·rw [decide_eq_true q]
    constructor
    ·intro z; cases z
    intro z; have := z k (by omega); omega
   rw [decide_eq_false q]
   constructor
   ·intro _ i hi
    by_cases e : i = k
    ·subst e; omega
    exact h2 i (by omega)
   intro _; rfl
theorem xl (p : ah) : ib p = decide (lf p (bf p) = none) := by
 rw [Bool.eq_iff_iff, decide_eq_true_eq, ucu]
 unfold ib
 rw [List.all_eq_true]
 constructor
 ·intro h i hi
  exact of_decide_eq_true (h i (List.mem_range.2 hi))
 intro h i hi
 exact decide_eq_true (h i (List.mem_range.1 hi))
/-- what the reference gives for rooms -/
def sd (p : ah) : dt := match lf p (bf p) with
 | some i => ⟨bj i (cw p), []⟩
 | none => o6 p (cw p) (dq p)
theorem sb {p : ah} (h : ib p = true) : sd p = o6 p (cw p) (dq p) := by
 rw [xl, decide_eq_true_eq] at h
 unfold sd; rw [h]
theorem ud0 {l : List Int} {k : Nat} {z : Int} (h : l[k]? = some z) : (dc l)[k]? = some (.v (.int .i64 z)) := by
 have e : dc l = l.map fun y => .v (.int .i64 y) := by
  clear h
  induction l with
  | nil => rfl
  | cons y l ih =>
   have h1 : dc (y :: l) = cells y ++ dc l := by simp [dc]
   rw [h1, ih]; rfl
 rw [e, List.getElem?_map, h]; rfl
theorem vv (p : ah) (i : Nat) : cw p i = bif decide (p.firsts.length ≤ i) then j5 p true (i - p.firsts.length) else j5 p false i := by
 unfold cw
 by_cases h : i < p.firsts.length
 ·rw [decide_eq_true h, decide_eq_false (show ¬ p.firsts.length ≤ i by omega)]; rfl
 rw [decide_eq_false h, decide_eq_true (show p.firsts.length ≤ i by omega)]; rfl
end Go.AB
namespace Go.Proofs.YtbbdginipiljdaaGreatDoor
set_option maxRecDepth 10000
open Go.RowKit Go.AB
open Go.AB.Enc (cells)
open Go.PB (bh aj PlaceD bq bt br ca ay ah dj c9 du dt)
set_option maxHeartbeats 1000000 in
theorem uu (p : ah) (h : ff p) : Pure Tryz.prog 45 [val p] (.tup [val (sd p), .v (.bool (ib p))]) := by
 refine da Tryz.func45 rfl (fun m => .tup (c6 (et _ _) (c6 .v dz))) fun G nx => ?_
 simp only [Tryz.ntmps45, List.length_cons, List.length_nil, Nat.reduceAdd, Nat.reduceSub]
 refine cb fun hlt => ?_
 dsimp only at hlt
 have hn1 := h.nf
 have hn2 := h.ns
 have hnp := h.np
 have hnr : bf p = p.firsts.length + p.seconds.length := rfl
 have hal := n2 h.text
 refine yS fun _ K1 => ?_
 refine yR ?_
 try dsimp only [St.put]
 refine yB rfl rfl rfl ?_
 try dsimp only [St.put]
 refine af rfl (dp rfl ?_)
 refine yA rfl rfl ?_
 refine yN ?_
 dsimp only [St.put]
 refine K1 _ ?_
 refine yS fun _ K2 => ?_
 refine yR ?_
 try dsimp only [St.put]
 refine af rfl (dp rfl ?_)
 refine yN ?_
 dsimp only [St.put]
 refine K2 _ ?_
 refine nz (nx + 1) 0 _ _ 3 1 zG rfl (by decide) ?_
 refine nz (nx + 1) 1 _ _ 3 1 zG rfl (by decide) ?_
 dsimp only [List.set_cons_zero, List.set_cons_succ]
 refine yS fun _ K3 => ?_
 refine yS fun _ K4 => ?_
 refine yR ?_
 refine yA rfl rfl ?_
 refine yN ?_
 dsimp only [St.put]
 refine K4 _ ?_
 refine bg ?_
 refine co 11 ?_
 refine zQ ?_
 refine dh ((ai (ai (ai (ai G nx (.box 0 [.list [] .nil, .list [] .nil])) (nx + 1) (.box (0) [.list ((bj 0 (cw p)).map cells) (.tip (nx + 1 + 1)), .list ((bj 0 (dq p)).map cells) (.tip (nx + 1 + 1 + 1))])) (nx + 1 + 1) (.tip (bj 0 (cw p)).length 3 1)) (nx + 1 + 1 + 1) (.tip (bj 0 (dq p)).length 3 1))) zX ?_
 dsimp only
 refine dg (X := Nat) (fun i => i ≤ bf p ∧ lf p i = none) (fun i => bf p - i) (fun i => [(5, .v (.int .i64 (i : Int))), (6, .any), (7, .any), (8, .any), (9, .any)]) (fun i G' => (ai (ai (ai (ai G nx (.box 0 [.list [] .nil, .list [] .nil])) (nx + 1) (.box (i) [.list ((bj i (cw p)).map cells) (.tip (nx + 1 + 1)), .list ((bj 0 (dq p)).map cells) (.tip (nx + 1 + 1 + 1))])) (nx + 1 + 1) (.tip (bj i (cw p)).length 3 1)) (nx + 1 + 1 + 1) (.tip (bj 0 (dq p)).length 3 1))) 0 rfl ?_ ?_ ?_ ?_ ?_ ?_
 ·exact ⟨Nat.zero_le _, rfl⟩
 ·exact zF
 ·exact zX
 ·rintro i hI
  exact zL
 ·rintro i hI
  exact zH
 rintro i hI
 dsimp only at hI ⊢
 refine yS fun _ K5 => ?_
 refine yS fun _ K6 => ?_
 refine yR ?_
 refine yM rfl rfl ?_
 refine yF rfl rfl rfl rfl ?_
 refine yL rfl rfl rfl ?_
 refine aa rfl (bk rfl rfl (List.length_map _)) ?_
 refine yF rfl rfl rfl rfl ?_
 refine yL rfl rfl rfl ?_
 refine aa rfl (bk rfl rfl (List.length_map _)) ?_
 refine aa rfl (bv rfl rfl rfl (by omega)) ?_
 refine aa rfl (cm rfl rfl rfl) ?_
 refine yN ?_
 dsimp only [St.put]
 refine K6 _ ?_
 refine aq rfl (fun hc => ?_) (fun hc => ?_)
 ·replace hc := of_decide_eq_true hc
  have hi : i < bf p := by omega
  have hll := gt i (cw p)
  refine az ?_
  refine K5 _ ?_
  refine yS fun _ K7 => ?_
  refine bg ?_
  refine yS fun _ K8 => ?_
  refine yR ?_
  refine yM rfl rfl ?_
  refine yF rfl rfl rfl rfl ?_
  refine yL rfl rfl rfl ?_
  refine aa rfl (bk rfl rfl (List.length_map _)) ?_
  refine aa rfl (l4 rfl rfl rfl) ?_
  refine yA rfl rfl ?_
  refine yN ?_
  dsimp only [St.put]
  refine K8 _ ?_
  refine yS fun _ K9 => ?_
  refine yR ?_
  refine yM rfl rfl ?_
  refine yA rfl rfl ?_
  refine yN ?_
  dsimp only [St.put]
  refine K9 _ ?_
  refine co 11 ?_
  refine zQ ?_
  refine kp (X := Bool × Nat) (fun y => cw p i = j5 p y.1 y.2 ∧ y.2 < (ei p y.1).length) (fun y => [(6, .v (.bool y.1)), (7, .v (.int .i64 (y.2 : Int)))]) (fun y G' => G') rfl ?_ (fun _ _ _ _ h => .inl h) ?_ ?_
  ·rintro ⟨b, k⟩ hI
   exact zL
  ·refine yS fun _ K11 => ?_
   refine yR ?_
   refine yM rfl rfl ?_
   refine yN ?_
   dsimp only [St.put]
   refine K11 _ ?_
   refine aq rfl (fun hc => ?_) (fun hc => ?_)
   ·have hh : p.firsts.length ≤ i := by have := of_decide_eq_true hc; omega
    rw [hc]
    refine yR ?_
    refine yM rfl rfl ?_
    refine yF rfl rfl rfl rfl ?_
    refine yL rfl rfl rfl ?_
    refine aa rfl (bk rfl rfl (List.length_map _)) ?_
    refine aa rfl (gh rfl rfl rfl (by omega)) ?_
    refine yA rfl rfl ?_
    refine yN ?_
    dsimp only [St.put]
    first
    | (rw [show (i : Int) - (p.firsts.length : Int) = ((i - p.firsts.length : Nat) : Int) by omega]
       exact ⟨(true, i - p.firsts.length), ⟨by rw [vv, decide_eq_true hh]; rfl, by show i - p.firsts.length < p.seconds.length; omega⟩, ⟨⟨rfl, rfl⟩, zF, zB, zN, zX⟩⟩)
    | exact ⟨(false, i), ⟨by rw [vv, decide_eq_false hh]; rfl, by show i < p.firsts.length; omega⟩, ⟨⟨rfl, rfl⟩, zF, zB, zN, zX⟩⟩
   have hh : ¬ p.firsts.length ≤ i := by have := of_decide_eq_false hc; omega
   rw [hc]
   refine az ?_
   first
   | (rw [show (i : Int) - (p.firsts.length : Int) = ((i - p.firsts.length : Nat) : Int) by omega]
      exact ⟨(true, i - p.firsts.length), ⟨by rw [vv, decide_eq_true hh]; rfl, by show i - p.firsts.length < p.seconds.length; omega⟩, ⟨⟨rfl, rfl⟩, zF, zB, zN, zX⟩⟩)
   | exact ⟨(false, i), ⟨by rw [vv, decide_eq_false hh]; rfl, by show i < p.firsts.length; omega⟩, ⟨⟨rfl, rfl⟩, zF, zB, zN, zX⟩⟩
  rintro ⟨b, k⟩ hk
  dsimp only at hk ⊢
  refine yS fun _ K12 => ?_
  refine yR ?_
  refine yE rfl rfl rfl ?_
  refine yM rfl rfl ?_
  refine yM rfl rfl ?_
  try dsimp only [St.put]
  refine af rfl (bi rfl rfl rfl (uij p b k h hk.2) ?_)
  refine yM rfl rfl ?_
  refine yX rfl rfl rfl rfl ?_
  refine yX rfl rfl rfl rfl ?_
  refine yA rfl rfl ?_
  refine yA rfl rfl ?_
  refine yN ?_
  dsimp only [St.put]
  refine K12 _ ?_
  refine yS fun _ K13 => ?_
  refine yS fun _ K14 => ?_
  refine yR ?_
  refine yM rfl rfl ?_
  refine aa rfl (cm rfl rfl rfl) ?_
  refine yN ?_
  dsimp only [St.put]
  refine K14 _ ?_
  refine aq rfl (fun hc => ?_) (fun hc => ?_)
  ·have hneg : j5 p b k < 0 := of_decide_eq_true hc
   have hN : lf p (bf p) = some i := uct (k := i + 1) (by rw [yr hI.2, hk.1, decide_eq_true hneg]; rfl) _ (by omega)
   have hRV : sd p = ⟨bj i (cw p), bj 0 (dq p)⟩ := by unfold sd; rw [hN]; rfl
   have hTB : ib p = false := by rw [xl, hN]; rfl
   refine yS fun _ K15 => ?_
   refine yR ?_
   try dsimp only [St.put]
   refine ci rfl (gu rfl rfl zG trivial (by rfl)) ?_
   try dsimp only [St.put]
   refine af rfl (c4 rfl rfl rfl zG rfl rfl (by rfl) ?_)
   refine yA rfl rfl ?_
   refine yN ?_
   dsimp only [St.put]
   refine K15 _ ?_
   refine ar ?_
   refine iv rfl (jg rfl zG (by rfl) zC rfl) (eb (by constructor)) zN zS ?_ ?_
   ·rw [hRV]
    exact zW
   rw [hTB]; exact zW
  have hnn : ¬ j5 p b k < 0 := of_decide_eq_false hc
  refine az ?_
  refine K13 _ ?_
  refine yR ?_
  refine aa rfl (bn rfl rfl) ?_
  try dsimp only [St.put]
  refine ci rfl (e9 rfl rfl zG trivial (by first | rfl | assumption)) ?_
  refine yM rfl rfl ?_
  try dsimp only [St.put]
  refine af rfl (ct rfl rfl rfl (by decide) (by decide) zR (by decide) ?_)
  try dsimp only [St.put]
  refine af rfl (ce ([j5 p b k]) rfl rfl zG zE rfl rfl zA ?_ zA)
  refine aa rfl (bn rfl rfl) ?_
  try dsimp only [St.put]
  refine af rfl (cn rfl rfl rfl zG (by constructor) rfl zO ?_)
  refine yN ?_
  dsimp only [St.put]
  refine K7 _ ?_
  refine yR ?_
  refine yM rfl rfl ?_
  refine aa rfl (bv rfl rfl rfl (by omega)) ?_
  refine yA rfl rfl ?_
  refine yN ?_
  dsimp only [St.put]
  have e := qj i (cw p)
  rw [hk.1] at e
  simp only [← e]
  exact ⟨i + 1, by omega, ⟨by omega, by rw [yr hI.2, hk.1, decide_eq_false (by omega)]; rfl⟩, ⟨⟨rfl, rfl⟩, zF, zB, zN, zX⟩⟩
 replace hc := of_decide_eq_false hc
 obtain rfl : i = bf p := by omega
 have hTB : ib p = true := by rw [xl, hI.2]; rfl
 refine c7 ?_
 refine K3 _ ?_
 refine yS fun _ K16 => ?_
 refine yS fun _ K17 => ?_
 refine yR ?_
 refine yA rfl rfl ?_
 refine yN ?_
 dsimp only [St.put]
 refine K17 _ ?_
 refine bg ?_
 refine co 11 ?_
 refine zQ ?_
 refine dh ((ai (ai (ai (ai G nx (.box 0 [.list [] .nil, .list [] .nil])) (nx + 1) (.box ((bf p)) [.list ((bj (bf p) (cw p)).map cells) (.tip (nx + 1 + 1)), .list ((bj 0 (dq p)).map cells) (.tip (nx + 1 + 1 + 1))])) (nx + 1 + 1) (.tip (bj (bf p) (cw p)).length 3 1)) (nx + 1 + 1 + 1) (.tip (bj 0 (dq p)).length 3 1))) zX ?_
 dsimp only
 refine dg (X := Nat) (fun j => j ≤ p.pages.length) (fun j => p.pages.length - j) (fun j => [(10, .v (.int .i64 (j : Int)))]) (fun j G' => (ai (ai (ai (ai G nx (.box 0 [.list [] .nil, .list [] .nil])) (nx + 1) (.box ((bf p + j)) [.list ((bj (bf p) (cw p)).map cells) (.tip (nx + 1 + 1)), .list ((bj j (dq p)).map cells) (.tip (nx + 1 + 1 + 1))])) (nx + 1 + 1) (.tip (bj (bf p) (cw p)).length 3 1)) (nx + 1 + 1 + 1) (.tip (bj j (dq p)).length 3 1))) 0 rfl ?_ ?_ ?_ ?_ ?_ ?_
 ·exact Nat.zero_le _
 ·exact zF
 ·exact zX
 ·rintro j hI
  exact zL
 ·rintro j hI
  exact zH
 rintro j hJ
 dsimp only at hJ ⊢
 refine yS fun _ K18 => ?_
 refine yS fun _ K19 => ?_
 refine yR ?_
 refine yM rfl rfl ?_
 refine yF rfl rfl rfl rfl ?_
 refine yL rfl rfl rfl ?_
 refine aa rfl (bk rfl rfl (List.length_map _)) ?_
 refine aa rfl (cm rfl rfl rfl) ?_
 refine yN ?_
 dsimp only [St.put]
 refine K19 _ ?_
 refine aq rfl (fun hc => ?_) (fun hc => ?_)
 ·replace hc := of_decide_eq_true hc
  obtain ⟨x, hx⟩ : ∃ x, p.pages[j]? = some x := dn (by omega)
  have hp := pageB_true.1 (h.page j x hx)
  have hfl := nw hp.found
  have hwl := nw hp.well
  have hgl := ra p.text x
  have hwx := uc p.text x
  have hll := gt j (dq p)
  refine az ?_
  refine K18 _ ?_
  refine yS fun _ K20 => ?_
  refine bg ?_
  refine fb [(0, none), (1, none), (2, none), (3, none), (5, none), (6, none), (4, none), (7, none), (8, none), (9, none), (10, none), (11, none), (12, none), (13, none)] (fun i => [11, 13].contains i) (fun i => [4, 7, 10, 11, 13].contains i) (fun i => [0, 3, 6, 8, 9, 12].contains i) [nx + 1] (by kernel_rfl) (by kernel_rfl) ?_
  refine ae rfl rfl rfl rfl (bn rfl rfl) ?_
  try dsimp only [St.put]
  refine av rfl rfl rfl rfl (e9 rfl rfl zG (by simp) (by first | rfl | assumption)) ?_
  try dsimp only [St.put]
  refine av rfl rfl rfl rfl (ed rfl rfl (Enc.len _)) ?_
  refine xM rfl rfl rfl rfl rfl ?_
  try dsimp only [St.put]
  refine av rfl rfl rfl rfl (ed rfl rfl (Enc.len _)) ?_
  refine xM rfl rfl rfl rfl rfl ?_
  refine il ?_
  try dsimp only [St.put]
  refine ia rfl rfl rfl (bi rfl rfl rfl (uie p j x h.text hx) ⟨zD, ?_⟩)
  try dsimp only [St.put]
  refine ia rfl rfl rfl (bi rfl rfl rfl (ubu p j x h.text hx (by omega) (by omega)) ⟨zD, ?_⟩)
  refine ep rfl rfl rfl rfl (bk rfl rfl (List.length_map _)) ?_
  refine ep rfl rfl rfl rfl (gh rfl rfl rfl (by omega)) ?_
  try dsimp only [St.put]
  refine ia rfl rfl rfl (ct rfl rfl rfl (by decide) (by decide) zR (by decide) ⟨zD, ?_⟩)
  try dsimp only [St.put]
  refine fl rfl rfl rfl rfl (ce ([(ec p.text x : Int) - ((dl p.text x).length : Int)]) rfl rfl zG zE rfl rfl zA ?_ zA)
  refine ep rfl rfl rfl rfl (bn rfl rfl) ?_
  try dsimp only [St.put]
  refine fl rfl rfl rfl rfl (cn rfl rfl rfl zG (by constructor) rfl zO ?_)
  refine ij ?_
  dsimp only [St.put]
  refine K20 _ ?_
  refine yR ?_
  refine yM rfl rfl ?_
  refine aa rfl (bv rfl rfl rfl (by omega)) ?_
  refine yA rfl rfl ?_
  refine yN ?_
  dsimp only [St.put]
  have e := qj j (dq p)
  rw [show dq p j = (ec p.text x : Int) - ((dl p.text x).length : Int) from ub8 hx _] at e
  simp only [← e]
  exact ⟨j + 1, by omega, by omega, ⟨⟨rfl, rfl⟩, zF, zB, zN, zX⟩⟩
 replace hc := of_decide_eq_false hc
 obtain rfl : j = p.pages.length := by omega
 refine c7 ?_
 refine K16 _ ?_
 refine yS fun _ K21 => ?_
 refine yR ?_
 try dsimp only [St.put]
 refine ci rfl (gu rfl rfl zG trivial (by rfl)) ?_
 try dsimp only [St.put]
 refine af rfl (c4 rfl rfl rfl zG rfl rfl (by rfl) ?_)
 refine yA rfl rfl ?_
 refine yN ?_
 dsimp only [St.put]
 refine K21 _ ?_
 refine ar ?_
 refine iv rfl (jg rfl zG (by rfl) zC rfl) (eb (by constructor)) zN zS ?_ ?_
 ·rw [sb hTB]
  exact zW
 rw [hTB]; exact zW
theorem se {p : ah} (h : ff p) {j : Nat} {x : ay} (hx : p.pages[j]? = some x) {k : Nat} (hk : k < (di p x).length) : ∃ zn : Nat, (di p x)[k]? = some (zn : Int) ∧ zn < bf p := by
 have hp := pageB_true.1 (h.page j x hx)
 have h1 := hp.fst
 have h2 := hp.snd
 obtain ⟨z, hz⟩ : ∃ z, (di p x)[k]? = some z := ⟨_, List.getElem?_eq_getElem hk⟩
 have hm := List.mem_of_getElem? hz
 have hb : 0 ≤ z ∧ z < (bf p : Int) := by
  unfold di at hm
  unfold bf
  rw [List.mem_append] at hm
  rcases hm with hm | hm
  ·by_cases q : 0 ≤ x.fst
   ·rw [decide_eq_true q, cond_true, List.mem_singleton] at hm; omega
   rw [decide_eq_false q] at hm; cases hm
  by_cases q : 0 ≤ x.snd
  ·rw [decide_eq_true q, cond_true, List.mem_singleton] at hm; omega
  rw [decide_eq_false q] at hm; cases hm
 exact ⟨z.toNat, by rw [hz]; congr 1; omega, by omega⟩
theorem ubw (p : ah) (R C : Nat → Int) (j : Nat) (x : ay) (h : ff p) (hx : p.pages[j]? = some x) : Pure Tryz.prog 46 [val p, val (o6 p R C), .v (.int .i64 (j : Int))] (.v (.int .i64 ((b9 p).alone R C j))) := by
 refine da Tryz.func46 rfl (fun m => .v) fun G nx => ?_
 simp only [Tryz.ntmps46, List.length_cons, List.length_nil, Nat.reduceAdd, Nat.reduceSub]
 refine cb fun hlt => ?_
 dsimp only at hlt
 have hjl := (List.getElem?_eq_some_iff.1 hx).1
 have hCj := jx C hjl
 have hn1 := h.nf
 have hn2 := h.ns
 have hnr : bf p = p.firsts.length + p.seconds.length := rfl
 have hrl := qp p x
 refine yS fun _ K1 => ?_
 refine yR ?_
 try dsimp only [St.put]
 refine yB rfl rfl rfl ?_
 try dsimp only [St.put]
 refine yB rfl rfl rfl ?_
 refine yA rfl rfl ?_
 refine yN ?_
 dsimp only [St.put]
 refine K1 _ ?_
 refine yS fun _ K2 => ?_
 refine yR ?_
 refine yF rfl rfl rfl rfl ?_
 refine yL rfl rfl rfl ?_
 refine yM rfl rfl ?_
 refine aa rfl (bu rfl rfl rfl rfl (bp (by assumption)) (Enc.len _)) ?_
 refine yL rfl rfl rfl ?_
 refine yA rfl rfl ?_
 refine yN ?_
 dsimp only [St.put]
 refine K2 _ ?_
 refine yS fun _ K3 => ?_
 refine yR ?_
 refine yE rfl rfl rfl ?_
 refine yM rfl rfl ?_
 try dsimp only [St.put]
 refine af rfl (bi rfl rfl rfl (yb p j x h hx) ?_)
 refine yA rfl rfl ?_
 refine yN ?_
 dsimp only [St.put]
 refine K3 _ ?_
 refine yS fun _ K4 => ?_
 refine yS fun _ K5 => ?_
 refine yR ?_
 refine yA rfl rfl ?_
 refine yN ?_
 dsimp only [St.put]
 refine K5 _ ?_
 refine bg ?_
 refine co 10 ?_
 refine zQ ?_
 refine dh (G) zX ?_
 dsimp only
 refine dg (X := Nat) (fun k => k ≤ (di p x).length) (fun k => (di p x).length - k) (fun k => [(7, .v (.int .i64 (p6 R (C j) ((di p x).take k)))), (9, .v (.int .i64 (k : Int)))]) (fun k G' => G') 0 rfl ?_ ?_ (fun _ _ h => h) ?_ ?_ ?_
 ·exact Nat.zero_le _
 ·exact zF
 ·rintro k hI
  exact zL
 ·exact fun _ _ _ _ h => .inl h
 rintro k hI
 dsimp only at hI ⊢
 refine yS fun _ K6 => ?_
 refine yS fun _ K7 => ?_
 refine yR ?_
 refine yM rfl rfl ?_
 refine yM rfl rfl ?_
 refine aa rfl (bk rfl rfl (List.length_map _)) ?_
 refine aa rfl (cm rfl rfl rfl) ?_
 refine yN ?_
 dsimp only [St.put]
 refine K7 _ ?_
 refine aq rfl (fun hc => ?_) (fun hc => ?_)
 ·replace hc := of_decide_eq_true hc
  obtain ⟨zn, hz, hz6⟩ := se h hx (k := k) (by omega)
  have hRz := jx R hz6
  refine az ?_
  refine K6 _ ?_
  refine yS fun _ K8 => ?_
  refine bg ?_
  refine fb [(0, none), (1, none), (2, none), (3, none), (4, none), (5, none), (6, none), (7, none), (8, none), (9, none), (10, none)] (fun i => [].contains i) (fun i => [].contains i) (fun i => [0, 1, 3, 4, 5, 7, 9, 10].contains i) [] (by kernel_rfl) (by kernel_rfl) ?_
  refine xM rfl rfl rfl rfl rfl ?_
  refine ae rfl rfl rfl rfl (cr rfl rfl rfl) ?_
  try dsimp only [St.put]
  refine av rfl rfl rfl rfl (bz rfl rfl) ?_
  refine xM rfl rfl rfl rfl rfl ?_
  refine xM rfl rfl rfl rfl rfl ?_
  try dsimp only [St.put]
  refine ae rfl rfl rfl rfl (bu rfl rfl rfl rfl (bp (by assumption)) (Enc.len _)) ?_
  try dsimp only [St.put]
  refine av rfl rfl rfl rfl (bz rfl rfl) ?_
  try dsimp only [St.put]
  refine ae rfl rfl rfl rfl (bu rfl rfl rfl rfl (bp (by assumption)) (Enc.len _)) ?_
  try dsimp only [St.put]
  refine av rfl rfl rfl rfl (bz rfl rfl) ?_
  refine ae rfl rfl rfl rfl (vk rfl rfl rfl rfl) ?_
  refine ae rfl rfl rfl rfl (f8 rfl (by constructor)) ?_
  refine ba ?_
  dsimp only [St.put]
  refine K8 _ ?_
  refine yR ?_
  refine yM rfl rfl ?_
  refine aa rfl (bv rfl rfl rfl (by omega)) ?_
  refine yA rfl rfl ?_
  refine yN ?_
  dsimp only [St.put]
  have e := uc2 (R := R) (c := C j) hz
  rw [Int.toNat_natCast] at e
  rw [← e]
  exact ⟨k + 1, by omega, by omega, ⟨⟨rfl, rfl⟩, zF, zB, zN, zX⟩⟩
 replace hc := of_decide_eq_false hc
 refine c7 ?_
 refine K4 _ ?_
 refine yS fun _ K9 => ?_
 refine yR ?_
 refine yM rfl rfl ?_
 refine yA rfl rfl ?_
 refine yN ?_
 dsimp only [St.put]
 refine K9 _ ?_
 refine ar ?_
 refine bl rfl (by constructor) zN zS ?_
 exact vi (by rw [ey (show (di p x).length ≤ k by omega), ufc hx])
theorem ubs (p : ah) (R C : Nat → Int) (j : Nat) (x : ay) (n : Int) (h : ff p) (hx : p.pages[j]? = some x) (hn : -1000000 ≤ n ∧ n ≤ 1000000) (hR : ∀ i, -1000000 ≤ R i ∧ R i ≤ 1000000) : Pure Tryz.prog 52 [val p, val (o6 p R C), .v (.int .i64 (j : Int)), .v (.int .i64 n)] (val (o6 p ((b9 p).lessR R j n) (fa C j))) := by
 refine da Tryz.func52 rfl (fun m => (et _ _)) fun G nx => ?_
 simp only [Tryz.ntmps52, List.length_cons, List.length_nil, Nat.reduceAdd, Nat.reduceSub]
 refine cb fun hlt => ?_
 dsimp only at hlt
 have hjl := (List.getElem?_eq_some_iff.1 hx).1
 have hn1 := h.nf
 have hn2 := h.ns
 have hnp := h.np
 have hnr : bf p = p.firsts.length + p.seconds.length := rfl
 have hrl := qp p x
 have hl1 := gt (bf p) R
 have hl2 := gt p.pages.length C
 refine yS fun _ K1 => ?_
 refine yR ?_
 try dsimp only [St.put]
 refine yB rfl rfl rfl ?_
 try dsimp only [St.put]
 refine yB rfl rfl rfl ?_
 try dsimp only [St.put]
 refine af rfl (dp rfl ?_)
 refine yN ?_
 dsimp only [St.put]
 refine K1 _ ?_
 refine co 12 ?_
 refine zQ ?_
 refine ue5 (X := Nat × Nat × Nat × Nat × Nat) (fun y => (nx < y.1 ∧ nx < y.2.1 ∧ nx < y.2.2.1) ∧ (y.1 < nx + 1 + 1 + 1 + 1 ∧ y.2.1 < nx + 1 + 1 + 1 + 1 ∧ y.2.2.1 < nx + 1 + 1 + 1 + 1) ∧ (y.1 ≠ y.2.1 ∧ y.1 ≠ y.2.2.1 ∧ y.2.1 ≠ y.2.2.1)) (fun y => [(9, .box y.2.2.1 0 0)]) (fun y G' => (ai (ai (ai (ai G nx (.box 0 [.list [] .nil, .list [] .nil])) y.1 (.arr y.2.2.2.1 (0) 3 1 (bf p) (dc (bj (bf p) (R))))) y.2.1 (.arr y.2.2.2.2 0 3 1 p.pages.length (dc (bj p.pages.length C)))) y.2.2.1 (.box 1 [.own y.1 y.2.2.2.1 (bf p), .own y.2.1 y.2.2.2.2 p.pages.length]))) (fun _ => nx + 1 + 1 + 1 + 1) rfl ?_ ?_ ?_ ?_ ?_
 ·rintro ⟨a, b, c, v1, v2⟩ hI
  dsimp only at hI ⊢
  omega
 ·rintro ⟨a, b, c, v1, v2⟩ hI
  dsimp only at hI ⊢
  obtain ⟨⟨i1, i2, i3⟩, ⟨i4, i5, i6⟩, i7, i8, i9⟩ := hI
  exact zL
 ·rintro ⟨a, b, c, v1, v2⟩ hI
  dsimp only at hI ⊢
  obtain ⟨⟨i1, i2, i3⟩, ⟨i4, i5, i6⟩, i7, i8, i9⟩ := hI
  exact zH
 ·refine pp [(1, none), (2, none), (5, none), (6, none)] (fun _ => false) (fun i => [1, 5].contains i) 7 (rl [0, 1, 2, 2, 2, 4]) (by kernel_rfl) (by kernel_rfl) ?_
  refine ae rfl rfl rfl rfl (cr rfl rfl rfl) ?_
  try dsimp only [St.put]
  refine av rfl rfl rfl rfl (bz rfl rfl) ?_
  refine ae rfl rfl rfl rfl (cr rfl rfl rfl) ?_
  try dsimp only [St.put]
  refine av rfl rfl rfl rfl (bz rfl rfl) ?_
  refine ba ?_
  refine cc [0, 4, 9] (by kernel_rfl) (by simp) ?_
  refine bx ?_ ?_
  ·try dsimp only [St.put]
   refine c5 rfl rfl rfl (jp rfl (by decide) ?_)
   refine cc [3, 4, 9] (by kernel_rfl) (by simp) ?_
   refine bx ?_ ?_
   ·try dsimp only [St.put]
    refine c5 rfl rfl rfl (fp (xs := ([] : List Int)) (bj (bf p) R) rfl rfl zG rfl rfl rfl rfl zA zA (fun v1 => ?_))
    refine cc [4, 9] (by kernel_rfl) (by simp) ?_
    refine bx ?_ ?_
    ·try dsimp only [St.put]
     refine c5 rfl rfl rfl (jp rfl (by decide) ?_)
     refine cc [7, 9] (by kernel_rfl) (by simp) ?_
     refine bx ?_ ?_
     ·try dsimp only [St.put]
      refine c5 rfl rfl rfl (fp (xs := ([] : List Int)) (bj p.pages.length C) rfl rfl zG rfl rfl rfl rfl zA zA (fun v2 => ?_))
      refine d9 [(8, none)] (fun i => [8].contains i) 2 (rl [9, 2]) (by kernel_rfl) ?_
      refine ae rfl rfl rfl rfl (gi rfl rfl) ?_
      refine ba ?_
      refine cc [9] (by kernel_rfl) (by simp) ?_
      refine bx ?_ ?_
      ·try dsimp only [St.put]
       refine c5 rfl rfl rfl (dp rfl ?_)
       refine cc [10] (by kernel_rfl) (by simp) ?_
       refine bx ?_ ?_
       ·try dsimp only [St.put]
        refine c5 rfl rfl rfl (c4 rfl rfl rfl zG rfl rfl (by rfl) ?_)
        dsimp only [St.put]
        refine fe (by kernel_rfl) ?_
        simp only [List.nil_append, hl1, hl2]
        exact ⟨(nx + 1, nx + 1 + 1, nx + 1 + 1 + 1, v1, v2), by (dsimp only; omega), ⟨⟨rfl, rfl⟩, zF, zB, zN, zX⟩⟩
       exact cg
      exact cg
     refine bx ?_ ?_
     ·try dsimp only [St.put]
      refine c5 rfl rfl rfl (dp rfl ?_)
      refine cc [7] (by kernel_rfl) (by simp) ?_
      refine bx ?_ ?_
      ·try dsimp only [St.put]
       refine c5 rfl rfl rfl (fp (xs := ([] : List Int)) (bj p.pages.length C) rfl rfl zG rfl rfl rfl rfl zA zA (fun v2 => ?_))
       refine d9 [(8, none)] (fun i => [8].contains i) 1 (rl [10, 1]) (by kernel_rfl) ?_
       refine ae rfl rfl rfl rfl (gi rfl rfl) ?_
       refine ba ?_
       refine cc [10] (by kernel_rfl) (by simp) ?_
       refine bx ?_ ?_
       ·try dsimp only [St.put]
        refine c5 rfl rfl rfl (c4 rfl rfl rfl zG rfl rfl (by rfl) ?_)
        dsimp only [St.put]
        refine fe (by kernel_rfl) ?_
        simp only [List.nil_append, hl1, hl2]
        exact ⟨(nx + 1, nx + 1 + 1, nx + 1 + 1 + 1, v1, v2), by (dsimp only; omega), ⟨⟨rfl, rfl⟩, zF, zB, zN, zX⟩⟩
       exact cg
      exact cg
     exact cg
    refine bx ?_ ?_
    ·try dsimp only [St.put]
     refine c5 rfl rfl rfl (dp rfl ?_)
     refine cc [4] (by kernel_rfl) (by simp) ?_
     refine bx ?_ ?_
     ·try dsimp only [St.put]
      refine c5 rfl rfl rfl (jp rfl (by decide) ?_)
      refine cc [7] (by kernel_rfl) (by simp) ?_
      refine bx ?_ ?_
      ·try dsimp only [St.put]
       refine c5 rfl rfl rfl (fp (xs := ([] : List Int)) (bj p.pages.length C) rfl rfl zG rfl rfl rfl rfl zA zA (fun v2 => ?_))
       refine d9 [(8, none)] (fun i => [8].contains i) 1 (rl [10, 1]) (by kernel_rfl) ?_
       refine ae rfl rfl rfl rfl (gi rfl rfl) ?_
       refine ba ?_
       refine cc [10] (by kernel_rfl) (by simp) ?_
       refine bx ?_ ?_
       ·try dsimp only [St.put]
        refine c5 rfl rfl rfl (c4 rfl rfl rfl zG rfl rfl (by rfl) ?_)
        dsimp only [St.put]
        refine fe (by kernel_rfl) ?_
        simp only [List.nil_append, hl1, hl2]
        exact ⟨(nx + 1, nx + 1 + 1 + 1, nx + 1 + 1, v1, v2), by (dsimp only; omega), ⟨⟨rfl, rfl⟩, zF, zB, zN, zX⟩⟩
       exact cg
      exact cg
     exact cg
    exact cg
   refine bx ?_ ?_
   ·try dsimp only [St.put]
    refine c5 rfl rfl rfl (jp rfl (by decide) ?_)
    refine cc [3, 9] (by kernel_rfl) (by simp) ?_
    refine bx ?_ ?_
    ·try dsimp only [St.put]
     refine c5 rfl rfl rfl (fp (xs := ([] : List Int)) (bj (bf p) R) rfl rfl zG rfl rfl rfl rfl zA zA (fun v1 => ?_))
     refine cc [7, 9] (by kernel_rfl) (by simp) ?_
     refine bx ?_ ?_
     ·try dsimp only [St.put]
      refine c5 rfl rfl rfl (fp (xs := ([] : List Int)) (bj p.pages.length C) rfl rfl zG rfl rfl rfl rfl zA zA (fun v2 => ?_))
      refine d9 [(8, none)] (fun i => [8].contains i) 2 (rl [9, 2]) (by kernel_rfl) ?_
      refine ae rfl rfl rfl rfl (gi rfl rfl) ?_
      refine ba ?_
      refine cc [9] (by kernel_rfl) (by simp) ?_
      refine bx ?_ ?_
      ·try dsimp only [St.put]
       refine c5 rfl rfl rfl (dp rfl ?_)
       refine cc [10] (by kernel_rfl) (by simp) ?_
       refine bx ?_ ?_
       ·try dsimp only [St.put]
        refine c5 rfl rfl rfl (c4 rfl rfl rfl zG rfl rfl (by rfl) ?_)
        dsimp only [St.put]
        refine fe (by kernel_rfl) ?_
        simp only [List.nil_append, hl1, hl2]
        exact ⟨(nx + 1, nx + 1 + 1, nx + 1 + 1 + 1, v1, v2), by (dsimp only; omega), ⟨⟨rfl, rfl⟩, zF, zB, zN, zX⟩⟩
       exact cg
      exact cg
     refine bx ?_ ?_
     ·try dsimp only [St.put]
      refine c5 rfl rfl rfl (dp rfl ?_)
      refine cc [7] (by kernel_rfl) (by simp) ?_
      refine bx ?_ ?_
      ·try dsimp only [St.put]
       refine c5 rfl rfl rfl (fp (xs := ([] : List Int)) (bj p.pages.length C) rfl rfl zG rfl rfl rfl rfl zA zA (fun v2 => ?_))
       refine d9 [(8, none)] (fun i => [8].contains i) 1 (rl [10, 1]) (by kernel_rfl) ?_
       refine ae rfl rfl rfl rfl (gi rfl rfl) ?_
       refine ba ?_
       refine cc [10] (by kernel_rfl) (by simp) ?_
       refine bx ?_ ?_
       ·try dsimp only [St.put]
        refine c5 rfl rfl rfl (c4 rfl rfl rfl zG rfl rfl (by rfl) ?_)
        dsimp only [St.put]
        refine fe (by kernel_rfl) ?_
        simp only [List.nil_append, hl1, hl2]
        exact ⟨(nx + 1, nx + 1 + 1, nx + 1 + 1 + 1, v1, v2), by (dsimp only; omega), ⟨⟨rfl, rfl⟩, zF, zB, zN, zX⟩⟩
       exact cg
      exact cg
     exact cg
    refine bx ?_ ?_
    ·try dsimp only [St.put]
     refine c5 rfl rfl rfl (dp rfl ?_)
     refine cc [3] (by kernel_rfl) (by simp) ?_
     refine bx ?_ ?_
     ·try dsimp only [St.put]
      refine c5 rfl rfl rfl (fp (xs := ([] : List Int)) (bj (bf p) R) rfl rfl zG rfl rfl rfl rfl zA zA (fun v1 => ?_))
      refine cc [7] (by kernel_rfl) (by simp) ?_
      refine bx ?_ ?_
      ·try dsimp only [St.put]
       refine c5 rfl rfl rfl (fp (xs := ([] : List Int)) (bj p.pages.length C) rfl rfl zG rfl rfl rfl rfl zA zA (fun v2 => ?_))
       refine d9 [(8, none)] (fun i => [8].contains i) 1 (rl [10, 1]) (by kernel_rfl) ?_
       refine ae rfl rfl rfl rfl (gi rfl rfl) ?_
       refine ba ?_
       refine cc [10] (by kernel_rfl) (by simp) ?_
       refine bx ?_ ?_
       ·try dsimp only [St.put]
        refine c5 rfl rfl rfl (c4 rfl rfl rfl zG rfl rfl (by rfl) ?_)
        dsimp only [St.put]
        refine fe (by kernel_rfl) ?_
        simp only [List.nil_append, hl1, hl2]
        exact ⟨(nx + 1, nx + 1 + 1, nx + 1 + 1 + 1, v1, v2), by (dsimp only; omega), ⟨⟨rfl, rfl⟩, zF, zB, zN, zX⟩⟩
       exact cg
      exact cg
     exact cg
    exact cg
   refine bx ?_ ?_
   ·try dsimp only [St.put]
    refine c5 rfl rfl rfl (dp rfl ?_)
    refine cc [3, 4] (by kernel_rfl) (by simp) ?_
    refine bx ?_ ?_
    ·try dsimp only [St.put]
     refine c5 rfl rfl rfl (fp (xs := ([] : List Int)) (bj (bf p) R) rfl rfl zG rfl rfl rfl rfl zA zA (fun v1 => ?_))
     refine cc [4] (by kernel_rfl) (by simp) ?_
     refine bx ?_ ?_
     ·try dsimp only [St.put]
      refine c5 rfl rfl rfl (jp rfl (by decide) ?_)
      refine cc [7] (by kernel_rfl) (by simp) ?_
      refine bx ?_ ?_
      ·try dsimp only [St.put]
       refine c5 rfl rfl rfl (fp (xs := ([] : List Int)) (bj p.pages.length C) rfl rfl zG rfl rfl rfl rfl zA zA (fun v2 => ?_))
       refine d9 [(8, none)] (fun i => [8].contains i) 1 (rl [10, 1]) (by kernel_rfl) ?_
       refine ae rfl rfl rfl rfl (gi rfl rfl) ?_
       refine ba ?_
       refine cc [10] (by kernel_rfl) (by simp) ?_
       refine bx ?_ ?_
       ·try dsimp only [St.put]
        refine c5 rfl rfl rfl (c4 rfl rfl rfl zG rfl rfl (by rfl) ?_)
        dsimp only [St.put]
        refine fe (by kernel_rfl) ?_
        simp only [List.nil_append, hl1, hl2]
        exact ⟨(nx + 1, nx + 1 + 1 + 1, nx + 1 + 1, v1, v2), by (dsimp only; omega), ⟨⟨rfl, rfl⟩, zF, zB, zN, zX⟩⟩
       exact cg
      exact cg
     exact cg
    refine bx ?_ ?_
    ·try dsimp only [St.put]
     refine c5 rfl rfl rfl (jp rfl (by decide) ?_)
     refine cc [3] (by kernel_rfl) (by simp) ?_
     refine bx ?_ ?_
     ·try dsimp only [St.put]
      refine c5 rfl rfl rfl (fp (xs := ([] : List Int)) (bj (bf p) R) rfl rfl zG rfl rfl rfl rfl zA zA (fun v1 => ?_))
      refine cc [7] (by kernel_rfl) (by simp) ?_
      refine bx ?_ ?_
      ·try dsimp only [St.put]
       refine c5 rfl rfl rfl (fp (xs := ([] : List Int)) (bj p.pages.length C) rfl rfl zG rfl rfl rfl rfl zA zA (fun v2 => ?_))
       refine d9 [(8, none)] (fun i => [8].contains i) 1 (rl [10, 1]) (by kernel_rfl) ?_
       refine ae rfl rfl rfl rfl (gi rfl rfl) ?_
       refine ba ?_
       refine cc [10] (by kernel_rfl) (by simp) ?_
       refine bx ?_ ?_
       ·try dsimp only [St.put]
        refine c5 rfl rfl rfl (c4 rfl rfl rfl zG rfl rfl (by rfl) ?_)
        dsimp only [St.put]
        refine fe (by kernel_rfl) ?_
        simp only [List.nil_append, hl1, hl2]
        exact ⟨(nx + 1, nx + 1 + 1 + 1, nx + 1 + 1, v1, v2), by (dsimp only; omega), ⟨⟨rfl, rfl⟩, zF, zB, zN, zX⟩⟩
       exact cg
      exact cg
     exact cg
    exact cg
   exact cg
  refine bx ?_ ?_
  ·try dsimp only [St.put]
   refine c5 rfl rfl rfl (jp rfl (by decide) ?_)
   refine cc [0, 9] (by kernel_rfl) (by simp) ?_
   refine bx ?_ ?_
   ·try dsimp only [St.put]
    refine c5 rfl rfl rfl (jp rfl (by decide) ?_)
    refine cc [3, 9] (by kernel_rfl) (by simp) ?_
    refine bx ?_ ?_
    ·try dsimp only [St.put]
     refine c5 rfl rfl rfl (fp (xs := ([] : List Int)) (bj (bf p) R) rfl rfl zG rfl rfl rfl rfl zA zA (fun v1 => ?_))
     refine cc [7, 9] (by kernel_rfl) (by simp) ?_
     refine bx ?_ ?_
     ·try dsimp only [St.put]
      refine c5 rfl rfl rfl (fp (xs := ([] : List Int)) (bj p.pages.length C) rfl rfl zG rfl rfl rfl rfl zA zA (fun v2 => ?_))
      refine d9 [(8, none)] (fun i => [8].contains i) 2 (rl [9, 2]) (by kernel_rfl) ?_
      refine ae rfl rfl rfl rfl (gi rfl rfl) ?_
      refine ba ?_
      refine cc [9] (by kernel_rfl) (by simp) ?_
      refine bx ?_ ?_
      ·try dsimp only [St.put]
       refine c5 rfl rfl rfl (dp rfl ?_)
       refine cc [10] (by kernel_rfl) (by simp) ?_
       refine bx ?_ ?_
       ·try dsimp only [St.put]
        refine c5 rfl rfl rfl (c4 rfl rfl rfl zG rfl rfl (by rfl) ?_)
        dsimp only [St.put]
        refine fe (by kernel_rfl) ?_
        simp only [List.nil_append, hl1, hl2]
        exact ⟨(nx + 1 + 1, nx + 1, nx + 1 + 1 + 1, v1, v2), by (dsimp only; omega), ⟨⟨rfl, rfl⟩, zF, zB, zN, zX⟩⟩
       exact cg
      exact cg
     refine bx ?_ ?_
     ·try dsimp only [St.put]
      refine c5 rfl rfl rfl (dp rfl ?_)
      refine cc [7] (by kernel_rfl) (by simp) ?_
      refine bx ?_ ?_
      ·try dsimp only [St.put]
       refine c5 rfl rfl rfl (fp (xs := ([] : List Int)) (bj p.pages.length C) rfl rfl zG rfl rfl rfl rfl zA zA (fun v2 => ?_))
       refine d9 [(8, none)] (fun i => [8].contains i) 1 (rl [10, 1]) (by kernel_rfl) ?_
       refine ae rfl rfl rfl rfl (gi rfl rfl) ?_
       refine ba ?_
       refine cc [10] (by kernel_rfl) (by simp) ?_
       refine bx ?_ ?_
       ·try dsimp only [St.put]
        refine c5 rfl rfl rfl (c4 rfl rfl rfl zG rfl rfl (by rfl) ?_)
        dsimp only [St.put]
        refine fe (by kernel_rfl) ?_
        simp only [List.nil_append, hl1, hl2]
        exact ⟨(nx + 1 + 1, nx + 1, nx + 1 + 1 + 1, v1, v2), by (dsimp only; omega), ⟨⟨rfl, rfl⟩, zF, zB, zN, zX⟩⟩
       exact cg
      exact cg
     exact cg
    refine bx ?_ ?_
    ·try dsimp only [St.put]
     refine c5 rfl rfl rfl (dp rfl ?_)
     refine cc [3] (by kernel_rfl) (by simp) ?_
     refine bx ?_ ?_
     ·try dsimp only [St.put]
      refine c5 rfl rfl rfl (fp (xs := ([] : List Int)) (bj (bf p) R) rfl rfl zG rfl rfl rfl rfl zA zA (fun v1 => ?_))
      refine cc [7] (by kernel_rfl) (by simp) ?_
      refine bx ?_ ?_
      ·try dsimp only [St.put]
       refine c5 rfl rfl rfl (fp (xs := ([] : List Int)) (bj p.pages.length C) rfl rfl zG rfl rfl rfl rfl zA zA (fun v2 => ?_))
       refine d9 [(8, none)] (fun i => [8].contains i) 1 (rl [10, 1]) (by kernel_rfl) ?_
       refine ae rfl rfl rfl rfl (gi rfl rfl) ?_
       refine ba ?_
       refine cc [10] (by kernel_rfl) (by simp) ?_
       refine bx ?_ ?_
       ·try dsimp only [St.put]
        refine c5 rfl rfl rfl (c4 rfl rfl rfl zG rfl rfl (by rfl) ?_)
        dsimp only [St.put]
        refine fe (by kernel_rfl) ?_
        simp only [List.nil_append, hl1, hl2]
        exact ⟨(nx + 1 + 1, nx + 1, nx + 1 + 1 + 1, v1, v2), by (dsimp only; omega), ⟨⟨rfl, rfl⟩, zF, zB, zN, zX⟩⟩
       exact cg
      exact cg
     exact cg
    exact cg
   refine bx ?_ ?_
   ·try dsimp only [St.put]
    refine c5 rfl rfl rfl (dp rfl ?_)
    refine cc [0] (by kernel_rfl) (by simp) ?_
    refine bx ?_ ?_
    ·try dsimp only [St.put]
     refine c5 rfl rfl rfl (jp rfl (by decide) ?_)
     refine cc [3] (by kernel_rfl) (by simp) ?_
     refine bx ?_ ?_
     ·try dsimp only [St.put]
      refine c5 rfl rfl rfl (fp (xs := ([] : List Int)) (bj (bf p) R) rfl rfl zG rfl rfl rfl rfl zA zA (fun v1 => ?_))
      refine cc [7] (by kernel_rfl) (by simp) ?_
      refine bx ?_ ?_
      ·try dsimp only [St.put]
       refine c5 rfl rfl rfl (fp (xs := ([] : List Int)) (bj p.pages.length C) rfl rfl zG rfl rfl rfl rfl zA zA (fun v2 => ?_))
       refine d9 [(8, none)] (fun i => [8].contains i) 1 (rl [10, 1]) (by kernel_rfl) ?_
       refine ae rfl rfl rfl rfl (gi rfl rfl) ?_
       refine ba ?_
       refine cc [10] (by kernel_rfl) (by simp) ?_
       refine bx ?_ ?_
       ·try dsimp only [St.put]
        refine c5 rfl rfl rfl (c4 rfl rfl rfl zG rfl rfl (by rfl) ?_)
        dsimp only [St.put]
        refine fe (by kernel_rfl) ?_
        simp only [List.nil_append, hl1, hl2]
        exact ⟨(nx + 1 + 1 + 1, nx + 1, nx + 1 + 1, v1, v2), by (dsimp only; omega), ⟨⟨rfl, rfl⟩, zF, zB, zN, zX⟩⟩
       exact cg
      exact cg
     exact cg
    exact cg
   exact cg
  refine bx ?_ ?_
  ·try dsimp only [St.put]
   refine c5 rfl rfl rfl (dp rfl ?_)
   refine cc [0, 4] (by kernel_rfl) (by simp) ?_
   refine bx ?_ ?_
   ·try dsimp only [St.put]
    refine c5 rfl rfl rfl (jp rfl (by decide) ?_)
    refine cc [3, 4] (by kernel_rfl) (by simp) ?_
    refine bx ?_ ?_
    ·try dsimp only [St.put]
     refine c5 rfl rfl rfl (fp (xs := ([] : List Int)) (bj (bf p) R) rfl rfl zG rfl rfl rfl rfl zA zA (fun v1 => ?_))
     refine cc [4] (by kernel_rfl) (by simp) ?_
     refine bx ?_ ?_
     ·try dsimp only [St.put]
      refine c5 rfl rfl rfl (jp rfl (by decide) ?_)
      refine cc [7] (by kernel_rfl) (by simp) ?_
      refine bx ?_ ?_
      ·try dsimp only [St.put]
       refine c5 rfl rfl rfl (fp (xs := ([] : List Int)) (bj p.pages.length C) rfl rfl zG rfl rfl rfl rfl zA zA (fun v2 => ?_))
       refine d9 [(8, none)] (fun i => [8].contains i) 1 (rl [10, 1]) (by kernel_rfl) ?_
       refine ae rfl rfl rfl rfl (gi rfl rfl) ?_
       refine ba ?_
       refine cc [10] (by kernel_rfl) (by simp) ?_
       refine bx ?_ ?_
       ·try dsimp only [St.put]
        refine c5 rfl rfl rfl (c4 rfl rfl rfl zG rfl rfl (by rfl) ?_)
        dsimp only [St.put]
        refine fe (by kernel_rfl) ?_
        simp only [List.nil_append, hl1, hl2]
        exact ⟨(nx + 1 + 1, nx + 1 + 1 + 1, nx + 1, v1, v2), by (dsimp only; omega), ⟨⟨rfl, rfl⟩, zF, zB, zN, zX⟩⟩
       exact cg
      exact cg
     exact cg
    refine bx ?_ ?_
    ·try dsimp only [St.put]
     refine c5 rfl rfl rfl (jp rfl (by decide) ?_)
     refine cc [3] (by kernel_rfl) (by simp) ?_
     refine bx ?_ ?_
     ·try dsimp only [St.put]
      refine c5 rfl rfl rfl (fp (xs := ([] : List Int)) (bj (bf p) R) rfl rfl zG rfl rfl rfl rfl zA zA (fun v1 => ?_))
      refine cc [7] (by kernel_rfl) (by simp) ?_
      refine bx ?_ ?_
      ·try dsimp only [St.put]
       refine c5 rfl rfl rfl (fp (xs := ([] : List Int)) (bj p.pages.length C) rfl rfl zG rfl rfl rfl rfl zA zA (fun v2 => ?_))
       refine d9 [(8, none)] (fun i => [8].contains i) 1 (rl [10, 1]) (by kernel_rfl) ?_
       refine ae rfl rfl rfl rfl (gi rfl rfl) ?_
       refine ba ?_
       refine cc [10] (by kernel_rfl) (by simp) ?_
       refine bx ?_ ?_
       ·try dsimp only [St.put]
        refine c5 rfl rfl rfl (c4 rfl rfl rfl zG rfl rfl (by rfl) ?_)
        dsimp only [St.put]
        refine fe (by kernel_rfl) ?_
        simp only [List.nil_append, hl1, hl2]
        exact ⟨(nx + 1 + 1, nx + 1 + 1 + 1, nx + 1, v1, v2), by (dsimp only; omega), ⟨⟨rfl, rfl⟩, zF, zB, zN, zX⟩⟩
       exact cg
      exact cg
     exact cg
    exact cg
   refine bx ?_ ?_
   ·try dsimp only [St.put]
    refine c5 rfl rfl rfl (jp rfl (by decide) ?_)
    refine cc [0] (by kernel_rfl) (by simp) ?_
    refine bx ?_ ?_
    ·try dsimp only [St.put]
     refine c5 rfl rfl rfl (jp rfl (by decide) ?_)
     refine cc [3] (by kernel_rfl) (by simp) ?_
     refine bx ?_ ?_
     ·try dsimp only [St.put]
      refine c5 rfl rfl rfl (fp (xs := ([] : List Int)) (bj (bf p) R) rfl rfl zG rfl rfl rfl rfl zA zA (fun v1 => ?_))
      refine cc [7] (by kernel_rfl) (by simp) ?_
      refine bx ?_ ?_
      ·try dsimp only [St.put]
       refine c5 rfl rfl rfl (fp (xs := ([] : List Int)) (bj p.pages.length C) rfl rfl zG rfl rfl rfl rfl zA zA (fun v2 => ?_))
       refine d9 [(8, none)] (fun i => [8].contains i) 1 (rl [10, 1]) (by kernel_rfl) ?_
       refine ae rfl rfl rfl rfl (gi rfl rfl) ?_
       refine ba ?_
       refine cc [10] (by kernel_rfl) (by simp) ?_
       refine bx ?_ ?_
       ·try dsimp only [St.put]
        refine c5 rfl rfl rfl (c4 rfl rfl rfl zG rfl rfl (by rfl) ?_)
        dsimp only [St.put]
        refine fe (by kernel_rfl) ?_
        simp only [List.nil_append, hl1, hl2]
        exact ⟨(nx + 1 + 1 + 1, nx + 1 + 1, nx + 1, v1, v2), by (dsimp only; omega), ⟨⟨rfl, rfl⟩, zF, zB, zN, zX⟩⟩
       exact cg
      exact cg
     exact cg
    exact cg
   exact cg
  exact cg
 rintro ⟨a, b, c, v1, v2⟩ hI
 dsimp only at hI ⊢
 obtain ⟨⟨i1, i2, i3⟩, ⟨i4, i5, i6⟩, i7, i8, i9⟩ := hI
 refine yS fun _ K3 => ?_
 refine yR ?_
 refine yE rfl rfl rfl ?_
 refine yM rfl rfl ?_
 try dsimp only [St.put]
 refine af rfl (bi rfl rfl rfl (yb p j x h hx) ?_)
 refine yA rfl rfl ?_
 refine yN ?_
 dsimp only [St.put]
 refine K3 _ ?_
 refine yS fun _ K4 => ?_
 refine yS fun _ K5 => ?_
 refine yR ?_
 refine yA rfl rfl ?_
 refine yN ?_
 dsimp only [St.put]
 refine K5 _ ?_
 refine bg ?_
 refine co 12 ?_
 refine zQ ?_
 refine dh ((ai (ai (ai (ai G nx (.box 0 [.list [] .nil, .list [] .nil])) a (.arr v1 (0) 3 1 (bf p) (dc (bj (bf p) (R))))) b (.arr v2 0 3 1 p.pages.length (dc (bj p.pages.length C)))) c (.box 1 [.own a v1 (bf p), .own b v2 p.pages.length]))) zX ?_
 dsimp only
 refine dg (X := Nat) (fun k => k ≤ (di p x).length ∧ ∀ i, -1000000 - k * 1000000 ≤ jm R n ((di p x).take k) i ∧ jm R n ((di p x).take k) i ≤ 1000000 + k * 1000000) (fun k => (di p x).length - k) (fun k => [(11, .v (.int .i64 (k : Int)))]) (fun k G' => (ai (ai (ai (ai G nx (.box 0 [.list [] .nil, .list [] .nil])) a (.arr v1 (k) 3 1 (bf p) (dc (bj (bf p) ((jm R n ((di p x).take k))))))) b (.arr v2 0 3 1 p.pages.length (dc (bj p.pages.length C)))) c (.box 1 [.own a v1 (bf p), .own b v2 p.pages.length]))) 0 rfl ?_ ?_ ?_ ?_ ?_ ?_
 ·exact ⟨Nat.zero_le _, fun i => by have := hR i; simp only [List.take_zero, ua0]; omega⟩
 ·exact zF
 ·exact zX
 ·rintro k hI
  exact zL
 ·rintro k hI
  exact zH
 rintro k hI
 dsimp only at hI ⊢
 refine yS fun _ K6 => ?_
 refine yS fun _ K7 => ?_
 refine yR ?_
 refine yM rfl rfl ?_
 refine yM rfl rfl ?_
 refine aa rfl (bk rfl rfl (List.length_map _)) ?_
 refine aa rfl (cm rfl rfl rfl) ?_
 refine yN ?_
 dsimp only [St.put]
 refine K7 _ ?_
 refine aq rfl (fun hc => ?_) (fun hc => ?_)
 ·replace hc := of_decide_eq_true hc
  obtain ⟨zn, hz, hz6⟩ := se h hx (k := k) (by omega)
  have hst := uaz (R := R) (n := n) hz
  rw [Int.toNat_natCast] at hst
  have hI2 : ∀ i, -1000000 - ((k + 1 : Nat) : Int) * 1000000 ≤ jm R n ((di p x).take (k + 1)) i ∧ jm R n ((di p x).take (k + 1)) i ≤ 1000000 + ((k + 1 : Nat) : Int) * 1000000 := fun i => by
   rw [hst]
   have h1 := hI.2 i
   have h2 := hI.2 zn
   dsimp only
   cases decide (i = zn)
   ·rw [cond_false]
    omega
   rw [cond_true]
   omega
  have hI3 := hI.2 zn
  obtain ⟨S, hS⟩ : ∃ S, jm R n ((di p x).take k) = S := ⟨_, rfl⟩
  rw [hS] at hst hI3 ⊢
  have hset := rt S (S zn - n) hz6
  rw [← hst] at hset
  refine az ?_
  refine K6 _ ?_
  refine yS fun _ K8 => ?_
  refine bg ?_
  refine fb [(0, none), (1, none), (2, none), (3, none), (4, none), (5, none), (6, none), (7, none), (8, none), (9, none), (10, none), (11, none)] (fun i => [11].contains i) (fun i => [11].contains i) (fun i => [0, 2, 3, 4, 6, 8, 9, 10].contains i) [c, a] (by kernel_rfl) (by kernel_rfl) ?_
  refine ae rfl rfl rfl rfl (bn rfl rfl) ?_
  try dsimp only [St.put]
  refine av rfl rfl rfl rfl (e9 rfl rfl zG (by simp) (by first | rfl | assumption)) ?_
  refine xM rfl rfl rfl rfl rfl ?_
  refine xM rfl rfl rfl rfl rfl ?_
  try dsimp only [St.put]
  refine ae rfl rfl rfl rfl (bu rfl rfl rfl rfl (bp (by assumption)) (Enc.len _)) ?_
  try dsimp only [St.put]
  refine av rfl rfl rfl rfl (bz rfl rfl) ?_
  try dsimp only [St.put]
  refine ae rfl rfl rfl rfl (mq rfl rfl zG rfl rfl hz6) ?_
  try dsimp only [St.put]
  refine av rfl rfl rfl rfl (kb rfl rfl zG (by simp) (ud0 (by rw [Nat.mul_one]; exact jx S hz6))) ?_
  refine xM rfl rfl rfl rfl rfl ?_
  refine ae rfl rfl rfl rfl (gh rfl rfl rfl (by omega)) ?_
  try dsimp only [St.put]
  refine ae rfl rfl rfl rfl (mq rfl rfl zG rfl rfl hz6) ?_
  refine il ?_
  try dsimp only [St.put]
  refine fl rfl rfl rfl rfl (tl (k := zn) (j := 0) (z := S zn) (z' := S zn - n) rfl rfl rfl zG rfl rfl (jx S hz6) rfl (by decide) rfl ?_)
  refine ij ?_
  dsimp only [St.put]
  refine K8 _ ?_
  refine yR ?_
  refine yM rfl rfl ?_
  refine aa rfl (bv rfl rfl rfl (by omega)) ?_
  refine yA rfl rfl ?_
  refine yN ?_
  dsimp only [St.put]
  rw [hset]
  exact ⟨k + 1, by omega, ⟨by omega, hI2⟩, ⟨⟨rfl, rfl⟩, zF, zB, zN, zX⟩⟩
 replace hc := of_decide_eq_false hc
 rw [ey (show (di p x).length ≤ k by omega), ← udd h hx]
 refine c7 ?_
 refine K4 _ ?_
 refine yS fun _ K9 => ?_
 refine yR ?_
 refine aa rfl (bn rfl rfl) ?_
 try dsimp only [St.put]
 refine ci rfl (e9 rfl rfl zG trivial (by first | rfl | assumption)) ?_
 refine yM rfl rfl ?_
 try dsimp only [St.put]
 refine aa rfl (mq rfl rfl zG rfl rfl hjl) ?_
 try dsimp only [St.put]
 refine af rfl (tl (k := j) (j := 0) (z := C j) (z' := 0) rfl rfl rfl zG rfl rfl (jx C hjl) rfl (by decide) rfl ?_)
 refine yN ?_
 dsimp only [St.put]
 rw [show (bj p.pages.length C).set j 0 = bj p.pages.length (fa C j) from rt C 0 hjl]
 refine K9 _ ?_
 refine yS fun _ K10 => ?_
 refine pq c 0 (bj (bf p) ((b9 p).lessR R j n)) zG rfl zG (by omega) rfl rfl (gt _ _).symm ?_
 refine pq c 1 (bj p.pages.length (fa C j)) zG rfl zG (by omega) rfl rfl (gt _ _).symm ?_
 dsimp only [List.set_cons_zero, List.set_cons_succ]
 refine yR ?_
 try dsimp only [St.put]
 refine ci rfl (gu rfl rfl zG trivial (by rfl)) ?_
 try dsimp only [St.put]
 refine af rfl (c4 rfl rfl rfl zG rfl rfl (by rfl) ?_)
 refine yN ?_
 dsimp only [St.put]
 refine K10 _ ?_
 refine ar ?_
 refine lk rfl (jg rfl zG (by rfl) zC rfl) zN zS ?_
 exact zW
end Go.Proofs.YtbbdginipiljdaaGreatDoor
namespace Go.AB
open Go Go.RowKit
open Go.AB.Enc (cells)
open Go.PB (bh aj PlaceD bq bt br ca ay ah dj c9 du dt)
theorem uew (r : Int) (s i : Nat) : r * ((s / 2 ^ i % 2 : Nat) : Int) = bif s.testBit i then r else 0 := by
 have h2 : s / 2 ^ i % 2 < 2 := Nat.mod_lt _ (by omega)
 cases hb : s.testBit i
 ·have : s / 2 ^ i % 2 = 0 := by
   have : ¬ ((s / 2 ^ i % 2 : Nat) : Int) = 1 := fun e => by
    have := bit_eq.1 e
    rw [hb] at this; cases this
   omega
  rw [this]; simp
 have : s / 2 ^ i % 2 = 1 := by have := bit_eq.2 hb; omega
 rw [this]; simp
theorem ump (s i : Nat) : decide (((s / 2 ^ i % 2 : Nat) : Int) = 1) = s.testBit i := by
 rw [Bool.eq_iff_iff, decide_eq_true_eq]
 exact bit_eq
theorem uh9 {p : ah} (h : ff p) {j : Nat} {x : ay} (hx : p.pages[j]? = some x) {z : Int} (hz : z ∈ di p x) : ∃ zn : Nat, z = (zn : Int) ∧ zn ≤ 6 := by
 obtain ⟨k, hk⟩ := List.getElem?_of_mem hz
 obtain ⟨zn, h1, h2⟩ := ubp h hx (List.getElem?_eq_some_iff.1 hk).1
 rw [hk] at h1
 cases h1
 exact ⟨zn, rfl, h2⟩
theorem ut {p : ah} {j : Nat} {x : ay} (hx : p.pages[j]? = some x) : (p.pages.map (di p))[j]? = some (di p x) := by rw [List.getElem?_map, hx]; rfl
end Go.AB
namespace Go.Proofs.YtbbdginipiljdaaGreatDoor
set_option maxRecDepth 10000
open Go.RowKit Go.AB
open Go.AB.Enc (cells)
open Go.PB (bh aj PlaceD bq bt br ca ay ah dj c9 du dt)
theorem ujd (k s : Nat) (hk : k ≤ 64) (hs : s ≤ 1000) : Pure Tryz.prog 91 [.v (.int .i64 (k : Int)), .elem [.v (.int .i64 (s : Int))]] (.v (.bool (s.testBit k))) := by
 refine da Tryz.func91 rfl (fun m => .v) fun G nx => ?_
 simp only [Tryz.ntmps91, List.length_cons, List.length_nil, Nat.reduceAdd, Nat.reduceSub]
 refine cb fun hlt => ?_
 dsimp only at hlt
 refine yS fun _ K1 => ?_
 refine yR ?_
 refine yA rfl rfl ?_
 refine yN ?_
 dsimp only [St.put]
 refine K1 _ ?_
 refine yS fun _ K2 => ?_
 refine yR ?_
 refine yL rfl rfl rfl ?_
 refine yM rfl rfl ?_
 refine aa rfl (qs (m := s) (n := k) rfl rfl rfl hk (by show (s : Int) ≤ 9223372036854775807; omega) (by decide)) ?_
 refine aa rfl (qu (m := s / 2 ^ k) rfl rfl rfl (Nat.lt_of_le_of_lt (Nat.div_le_self _ _) (by show s < 2 ^ 64; omega)) (by decide)) ?_
 refine aa rfl (ke rfl rfl rfl) ?_
 refine yA rfl rfl ?_
 refine yN ?_
 dsimp only [St.put]
 refine K2 _ ?_
 refine ar ?_
 refine bl rfl (by constructor) zN zS ?_
 exact vb (ump s k)
set_option maxHeartbeats 1000000 in
theorem ucb (p : ah) (R C : Nat → Int) (s : Nat) (h : ff p) (hB : Bd p R C) (hs : s ≤ 1000) : Pure Tryz.prog 56 [val (ir p R C), .v (.int .i64 (s : Int))] (.v (.int .i64 ((b9 p).f R C fun i => s.testBit i))) := by
 refine da Tryz.func56 rfl (fun m => .v) fun G nx => ?_
 simp only [Tryz.ntmps56, List.length_cons, List.length_nil, Nat.reduceAdd, Nat.reduceSub]
 refine cb fun hlt => ?_
 dsimp only at hlt
 have hnr := hB.nr
 have hnp := hB.np
 have hl1 := gt (bf p) R
 have hl2 := gt p.pages.length C
 refine yS fun _ K1 => ?_
 refine yR ?_
 try dsimp only [St.put]
 refine yB rfl rfl rfl ?_
 try dsimp only [St.put]
 refine yB rfl rfl rfl ?_
 refine yA rfl rfl ?_
 refine yN ?_
 dsimp only [St.put]
 refine K1 _ ?_
 refine yS fun _ K2 => ?_
 refine yR ?_
 refine yA rfl rfl ?_
 refine yN ?_
 dsimp only [St.put]
 refine K2 _ ?_
 refine yS fun _ K3 => ?_
 refine yS fun _ K4 => ?_
 refine yR ?_
 refine yF rfl rfl rfl rfl ?_
 refine yL rfl rfl rfl ?_
 refine aa rfl (bk rfl rfl (List.length_map _)) ?_
 refine yM rfl rfl ?_
 refine yN ?_
 dsimp only [St.put]
 refine K4 _ ?_
 refine bg ?_
 refine co 14 ?_
 refine zQ ?_
 refine dh (G) zX ?_
 dsimp only
 refine dg (X := Nat) (fun i => i ≤ bf p) (fun i => bf p - i) (fun i => [(5, .v (.int .i64 (fR R (fun i => s.testBit i) i))), (6, .any), (7, .any), (13, .v (.int .i64 (i : Int)))]) (fun i G' => G') 0 rfl ?_ ?_ (fun _ _ h => h) ?_ ?_ ?_
 ·exact Nat.zero_le _
 ·exact zF
 ·rintro i hI
  exact zL
 ·exact fun _ _ _ _ h => .inl h
 rintro i hI
 dsimp only at hI ⊢
 refine yS fun _ K5 => ?_
 refine yR ?_
 refine aa rfl (cm rfl rfl rfl) ?_
 refine yN ?_
 dsimp only [St.put]
 refine K5 _ ?_
 refine yS fun _ K6 => ?_
 refine aq rfl (fun hc => ?_) (fun hc => ?_)
 ·replace hc := of_decide_eq_true hc
  have hi : i < bf p := by
   have : (i : Int) < ((bj (bf p) R).length : Int) := hc
   rw [hl1] at this
   omega
  have hRi := jx R hi
  have hbd := ti hB (fun i => s.testBit i) i (by omega)
  have hrb := hB.r i
  have hmb : -1000000 ≤ R i * ((s / 2 ^ i % 2 : Nat) : Int) ∧ R i * ((s / 2 ^ i % 2 : Nat) : Int) ≤ 1000000 := by
   rw [uew]
   cases s.testBit i
   ·show -1000000 ≤ (0 : Int) ∧ (0 : Int) ≤ 1000000
    omega
   exact hrb
  refine az ?_
  refine K6 _ ?_
  refine yS fun _ K7 => ?_
  refine bg ?_
  refine yS fun _ K8 => ?_
  refine yR ?_
  refine yM rfl rfl ?_
  refine aa rfl (bu rfl rfl rfl rfl (bp (by assumption)) (Enc.len _)) ?_
  refine yL rfl rfl rfl ?_
  refine yA rfl rfl ?_
  refine yA rfl rfl ?_
  refine yN ?_
  dsimp only [St.put]
  refine K8 _ ?_
  refine yR ?_
  refine yM rfl rfl ?_
  refine yM rfl rfl ?_
  refine yL rfl rfl rfl ?_
  refine yM rfl rfl ?_
  refine aa rfl (qs (m := s) (n := i) rfl rfl rfl (by show i ≤ 64; omega) (by show (s : Int) ≤ 9223372036854775807; omega) (by decide)) ?_
  refine aa rfl (qu (m := s / 2 ^ i) rfl rfl rfl (Nat.lt_of_le_of_lt (Nat.div_le_self _ _) (by show s < 2 ^ 64; omega)) (by decide)) ?_
  refine aa rfl (vj rfl rfl rfl (by omega)) ?_
  refine aa rfl (bv rfl rfl rfl (by omega)) ?_
  refine yA rfl rfl ?_
  refine yN ?_
  dsimp only [St.put]
  refine K7 _ ?_
  refine yR ?_
  refine aa rfl (bv rfl rfl rfl (by omega)) ?_
  refine yM rfl rfl ?_
  refine yN ?_
  dsimp only [St.put]
  rw [uew, ← zl R (fun i => s.testBit i) i]
  exact ⟨i + 1, by omega, by omega, ⟨⟨rfl, rfl⟩, zF, zB, zN, zX⟩⟩
 replace hc := of_decide_eq_false hc
 obtain rfl : i = bf p := by
  have : ¬ (i : Int) < ((bj (bf p) R).length : Int) := hc
  rw [hl1] at this
  omega
 have hfr := ti hB (fun i => s.testBit i) _ (Nat.le_refl (bf p))
 obtain ⟨FR, hFR⟩ : ∃ FR, fR R (fun i => s.testBit i) (bf p) = FR := ⟨_, rfl⟩
 rw [hFR] at hfr
 refine c7 ?_
 refine K3 _ ?_
 refine yS fun _ K9 => ?_
 refine yS fun _ K10 => ?_
 refine yR ?_
 refine yF rfl rfl rfl rfl ?_
 refine yL rfl rfl rfl ?_
 refine aa rfl (bk rfl rfl (List.length_map _)) ?_
 refine yM rfl rfl ?_
 refine yN ?_
 dsimp only [St.put]
 rw [hFR, show FR = FR + fC p C (fun i => s.testBit i) 0 by show FR = FR + 0; omega]
 refine K10 _ ?_
 refine bg ?_
 refine co 31 ?_
 refine zQ ?_
 refine dh (G) zX ?_
 dsimp only
 refine dg (X := Nat) (fun j => j ≤ p.pages.length) (fun j => p.pages.length - j) (fun j => [(5, .v (.int .i64 (FR + fC p C (fun i => s.testBit i) j))), (8, .any), (9, .any), (30, .v (.int .i64 (j : Int)))]) (fun j G' => G') 0 rfl ?_ ?_ (fun _ _ h => h) ?_ ?_ ?_
 ·exact Nat.zero_le _
 ·exact zF
 ·rintro j hI
  exact zL
 ·exact fun _ _ _ _ h => .inl h
 rintro j hJ
 dsimp only at hJ ⊢
 refine yS fun _ K11 => ?_
 refine yR ?_
 refine aa rfl (cm rfl rfl rfl) ?_
 refine yN ?_
 dsimp only [St.put]
 refine K11 _ ?_
 refine yS fun _ K12 => ?_
 refine aq rfl (fun hc => ?_) (fun hc => ?_)
 ·replace hc := of_decide_eq_true hc
  have hj : j < p.pages.length := by
   have : (j : Int) < ((bj p.pages.length C).length : Int) := hc
   rw [hl2] at this
   omega
  obtain ⟨x, hx⟩ : ∃ x, p.pages[j]? = some x := dn hj
  have hrx := ut hx
  have hCj := jx C hj
  have hcb := hB.c j
  have hfc := zm hB (fun i => s.testBit i) j (by omega)
  have hhit := udn hx fun i => s.testBit i
  refine az ?_
  refine K12 _ ?_
  refine yS fun _ K13 => ?_
  refine bg ?_
  refine yS fun _ K14 => ?_
  refine yR ?_
  refine yM rfl rfl ?_
  refine aa rfl (bu rfl rfl rfl rfl (bp (by assumption)) (Enc.len _)) ?_
  refine yL rfl rfl rfl ?_
  refine yA rfl rfl ?_
  refine yA rfl rfl ?_
  refine yN ?_
  dsimp only [St.put]
  refine K14 _ ?_
  refine yS fun _ K15 => ?_
  refine yR ?_
  refine yF rfl rfl rfl rfl ?_
  refine yL rfl rfl rfl ?_
  refine yM rfl rfl ?_
  refine aa rfl (bu rfl rfl rfl rfl (bp (by assumption)) (Enc.len _)) ?_
  refine yL rfl rfl rfl ?_
  refine aa rfl (qt rfl rfl) ?_
  try dsimp only [St.put]
  refine af rfl (bi rfl rfl rfl (xc (di p x) (fun z => s.testBit z.toNat) _ _ fun z hz => by obtain ⟨zn, rfl, h6⟩ := uh9 h hx hz; exact ujd zn s (by omega) hs) ?_)
  refine aa rfl (d8 rfl rfl) ?_
  refine yN ?_
  dsimp only [St.put]
  refine K15 _ ?_
  refine aq rfl (fun hc => ?_) (fun hc => ?_)
  ·have hhn : (b9 p).hit (fun i => s.testBit i) j = false := by rw [hhit]; simpa using hc
   refine yR ?_
   refine yM rfl rfl ?_
   refine yM rfl rfl ?_
   refine aa rfl (bv rfl rfl rfl (by omega)) ?_
   refine yA rfl rfl ?_
   refine yN ?_
   dsimp only [St.put]
   refine K13 _ ?_
   refine yR ?_
   refine aa rfl (bv rfl rfl rfl (by omega)) ?_
   refine yM rfl rfl ?_
   refine yN ?_
   dsimp only [St.put]
   have e := wr p C (fun i => s.testBit i) j
   first
   | (have z : (b9 p).hit (fun i => s.testBit i) j = true := hhy
      rw [z, cond_true, Int.add_zero] at e
      rw [← e]
      exact ⟨j + 1, by omega, by omega, ⟨⟨rfl, rfl⟩, zF, zB, zN, zX⟩⟩)
   | (have z : (b9 p).hit (fun i => s.testBit i) j = false := hhn
      rw [z, cond_false] at e
      rw [Int.add_assoc, ← e]
      exact ⟨j + 1, by omega, by omega, ⟨⟨rfl, rfl⟩, zF, zB, zN, zX⟩⟩)
  have hhy : (b9 p).hit (fun i => s.testBit i) j = true := by rw [hhit]; simpa using hc
  refine az ?_
  refine K13 _ ?_
  refine yR ?_
  refine aa rfl (bv rfl rfl rfl (by omega)) ?_
  refine yM rfl rfl ?_
  refine yN ?_
  dsimp only [St.put]
  have e := wr p C (fun i => s.testBit i) j
  first
  | (have z : (b9 p).hit (fun i => s.testBit i) j = true := hhy
     rw [z, cond_true, Int.add_zero] at e
     rw [← e]
     exact ⟨j + 1, by omega, by omega, ⟨⟨rfl, rfl⟩, zF, zB, zN, zX⟩⟩)
  | (have z : (b9 p).hit (fun i => s.testBit i) j = false := hhn
     rw [z, cond_false] at e
     rw [Int.add_assoc, ← e]
     exact ⟨j + 1, by omega, by omega, ⟨⟨rfl, rfl⟩, zF, zB, zN, zX⟩⟩)
 replace hc := of_decide_eq_false hc
 obtain rfl : j = p.pages.length := by
  have : ¬ (j : Int) < ((bj p.pages.length C).length : Int) := hc
  rw [hl2] at this
  omega
 refine c7 ?_
 refine K9 _ ?_
 refine yS fun _ K16 => ?_
 refine yR ?_
 refine yM rfl rfl ?_
 refine yA rfl rfl ?_
 refine yN ?_
 dsimp only [St.put]
 refine K16 _ ?_
 refine ar ?_
 refine bl rfl (by constructor) zN zS ?_
 exact vi (by rw [zk, hFR])
set_option maxHeartbeats 1000000 in
theorem u7 (p : ah) (R C : Nat → Int) (h : ff p) (hB : Bd p R C) : Pure Tryz.prog 48 [val (ir p R C)] (.v (.int .i64 ((b9 p).most R C))) := by
 refine da Tryz.func48 rfl (fun m => .v) fun G nx => ?_
 simp only [Tryz.ntmps48, List.length_cons, List.length_nil, Nat.reduceAdd, Nat.reduceSub]
 refine cb fun hlt => ?_
 dsimp only at hlt
 have hnr := hB.nr
 have hl1 := gt (bf p) R
 have h64 : 2 ^ bf p ≤ 2 ^ 6 := Nat.pow_le_pow_right (by omega) hnr
 have hpos : 0 < 2 ^ bf p := Nat.two_pow_pos _
 obtain ⟨g, hg⟩ : ∃ g : Nat → Int, (fun s => (b9 p).f R C fun i => s.testBit i) = g := ⟨_, rfl⟩
 have hgs : ∀ s : Nat, (b9 p).f R C (fun i => s.testBit i) = g s := fun s => congrFun hg s
 have hP : ∀ s : Nat, s ≤ 1000 → Pure Tryz.prog 56 [val (ir p R C), .v (.int .i64 (s : Int))] (.v (.int .i64 (g s))) := fun s hs => by
  have := ucb p R C s h hB hs
  rwa [hgs] at this
 have hgb : ∀ s, -6000000 ≤ g s ∧ g s ≤ 14000000 := fun s => by rw [← hgs]; exact f_bd hB _
 refine yS fun _ K1 => ?_
 refine yR ?_
 try dsimp only [St.put]
 refine yB rfl rfl rfl ?_
 refine yA rfl rfl ?_
 refine yN ?_
 dsimp only [St.put]
 refine K1 _ ?_
 refine yS fun _ K2 => ?_
 refine yR ?_
 try dsimp only [St.put]
 refine ci rfl (c := val (ir p R C)) (jf (cs := cells (ir p R C)) rfl rfl (show 3 ≤ 3 by decide)) ?_
 try dsimp only [St.put]
 refine af rfl (bi rfl rfl rfl (hP 0 (by omega)) ?_)
 refine yA rfl rfl ?_
 refine yN ?_
 dsimp only [St.put]
 refine K2 _ ?_
 refine yS fun _ K3 => ?_
 refine yS fun _ K4 => ?_
 refine yR ?_
 refine yF rfl rfl rfl rfl ?_
 refine yL rfl rfl rfl ?_
 refine aa rfl (bk rfl rfl (List.length_map _)) ?_
 refine aa rfl (vh (n := (bj (bf p) R).length) rfl rfl rfl (by rw [hl1]; omega)) ?_
 refine yM rfl rfl ?_
 refine yN ?_
 dsimp only [St.put]
 refine K4 _ ?_
 refine bg ?_
 refine co 12 ?_
 refine zQ ?_
 refine dh (G) zX ?_
 dsimp only
 refine dg (X := Nat) (fun s => s ≤ 2 ^ bf p) (fun s => 2 ^ bf p - s) (fun s => [(3, .v (.int .i64 (jr g s))), (4, .any), (11, .v (.int .i64 (s : Int)))]) (fun s G' => G') 0 rfl ?_ ?_ (fun _ _ h => h) ?_ ?_ ?_
 ·exact Nat.zero_le _
 ·exact zF
 ·rintro s hI
  exact zL
 ·exact fun _ _ _ _ h => .inl h
 rintro s hI
 dsimp only at hI ⊢
 refine yS fun _ K5 => ?_
 refine yR ?_
 refine aa rfl (cm rfl rfl rfl) ?_
 refine yN ?_
 dsimp only [St.put]
 refine K5 _ ?_
 refine yS fun _ K6 => ?_
 refine aq rfl (fun hc => ?_) (fun hc => ?_)
 ·replace hc := of_decide_eq_true hc
  have hlt : s < 2 ^ bf p := by
   have : (s : Int) < ((2 ^ (bj (bf p) R).length : Nat) : Int) := hc
   rw [hl1] at this
   omega
  have hmb := yy hgb s
  have hgb1 := hgb s
  refine az ?_
  refine K6 _ ?_
  refine yS fun _ K7 => ?_
  refine bg ?_
  refine yS fun _ K8 => ?_
  refine yR ?_
  refine yM rfl rfl ?_
  refine yA rfl rfl ?_
  refine yN ?_
  dsimp only [St.put]
  refine K8 _ ?_
  refine yR ?_
  refine yM rfl rfl ?_
  try dsimp only [St.put]
  refine ci rfl (c := val (ir p R C)) (jf (cs := cells (ir p R C)) rfl rfl (show 3 ≤ 3 by decide)) ?_
  refine yM rfl rfl ?_
  try dsimp only [St.put]
  refine af rfl (bi rfl rfl rfl (hP s (by omega)) ?_)
  refine aa rfl (vk rfl rfl rfl rfl) ?_
  refine yA rfl rfl ?_
  refine yN ?_
  dsimp only [St.put]
  refine K7 _ ?_
  refine yR ?_
  refine aa rfl (bv rfl rfl rfl (by omega)) ?_
  refine yM rfl rfl ?_
  refine yN ?_
  dsimp only [St.put]
  rw [show min (jr g s) (g s) = jr g (s + 1) from rfl]
  exact ⟨s + 1, by omega, by omega, ⟨⟨rfl, rfl⟩, zF, zB, zN, zX⟩⟩
 replace hc := of_decide_eq_false hc
 obtain rfl : s = 2 ^ bf p := by
  have : ¬ (s : Int) < ((2 ^ (bj (bf p) R).length : Nat) : Int) := hc
  rw [hl1] at this
  omega
 refine c7 ?_
 refine K3 _ ?_
 refine yS fun _ K9 => ?_
 refine yR ?_
 refine yM rfl rfl ?_
 refine yA rfl rfl ?_
 refine yN ?_
 dsimp only [St.put]
 refine K9 _ ?_
 refine ar ?_
 refine bl rfl (by constructor) zN zS ?_
 exact vi (by unfold Net.most; rw [hg]; rfl)
theorem ucd (p : ah) (R C : Nat → Int) (j : Nat) (x : ay) (h : ff p) (hx : p.pages[j]? = some x) : Pure Tryz.prog 43 [val (ir p R C), .v (.int .i64 (j : Int))] (.v (.int .i64 ((b9 p).alone R C j))) := by
 refine da Tryz.func43 rfl (fun m => .v) fun G nx => ?_
 simp only [Tryz.ntmps43, List.length_cons, List.length_nil, Nat.reduceAdd, Nat.reduceSub]
 refine cb fun hlt => ?_
 dsimp only at hlt
 have hjl := (List.getElem?_eq_some_iff.1 hx).1
 have hCj := jx C hjl
 have hrx := ut hx
 have hn1 := h.nf
 have hn2 := h.ns
 have hnr : bf p = p.firsts.length + p.seconds.length := rfl
 have hrl := qp p x
 refine yS fun _ K1 => ?_
 refine yR ?_
 try dsimp only [St.put]
 refine yB rfl rfl rfl ?_
 refine yA rfl rfl ?_
 refine yN ?_
 dsimp only [St.put]
 refine K1 _ ?_
 refine yS fun _ K2 => ?_
 refine yR ?_
 refine yF rfl rfl rfl rfl ?_
 refine yL rfl rfl rfl ?_
 refine yM rfl rfl ?_
 refine aa rfl (bu rfl rfl rfl rfl (bp (by assumption)) (Enc.len _)) ?_
 refine yL rfl rfl rfl ?_
 refine yA rfl rfl ?_
 refine yN ?_
 dsimp only [St.put]
 refine K2 _ ?_
 refine yS fun _ K3 => ?_
 refine yS fun _ K4 => ?_
 refine yR ?_
 refine yF rfl rfl rfl rfl ?_
 refine yL rfl rfl rfl ?_
 refine yM rfl rfl ?_
 refine aa rfl (bu rfl rfl rfl rfl (bp (by assumption)) (Enc.len _)) ?_
 refine yL rfl rfl rfl ?_
 refine aa rfl (bk rfl rfl (List.length_map _)) ?_
 refine yM rfl rfl ?_
 refine yN ?_
 dsimp only [St.put]
 refine K4 _ ?_
 refine bg ?_
 refine co 20 ?_
 refine zQ ?_
 refine dh (G) zX ?_
 dsimp only
 refine dg (X := Nat) (fun k => k ≤ (di p x).length) (fun k => (di p x).length - k) (fun k => [(5, .v (.int .i64 (p6 R (C j) ((di p x).take k)))), (7, .any), (19, .v (.int .i64 (k : Int)))]) (fun k G' => G') 0 rfl ?_ ?_ (fun _ _ h => h) ?_ ?_ ?_
 ·exact Nat.zero_le _
 ·exact zF
 ·rintro k hI
  exact zL
 ·exact fun _ _ _ _ h => .inl h
 rintro k hI
 dsimp only at hI ⊢
 refine yS fun _ K5 => ?_
 refine yR ?_
 refine aa rfl (cm rfl rfl rfl) ?_
 refine yN ?_
 dsimp only [St.put]
 refine K5 _ ?_
 refine yS fun _ K6 => ?_
 refine aq rfl (fun hc => ?_) (fun hc => ?_)
 ·replace hc := of_decide_eq_true hc
  obtain ⟨zn, hz, hz6⟩ := se h hx (k := k) (by omega)
  have hRz := jx R hz6
  refine az ?_
  refine K6 _ ?_
  refine yS fun _ K7 => ?_
  refine bg ?_
  refine yS fun _ K8 => ?_
  refine yR ?_
  refine aa rfl (bu rfl rfl rfl rfl (bp (by assumption)) (Enc.len _)) ?_
  refine yL rfl rfl rfl ?_
  refine yA rfl rfl ?_
  refine yN ?_
  dsimp only [St.put]
  refine K8 _ ?_
  refine yR ?_
  refine yM rfl rfl ?_
  refine yF rfl rfl rfl rfl ?_
  refine yL rfl rfl rfl ?_
  refine yM rfl rfl ?_
  refine aa rfl (bu rfl rfl rfl rfl (bp (by assumption)) (Enc.len _)) ?_
  refine yL rfl rfl rfl ?_
  refine aa rfl (vk rfl rfl rfl rfl) ?_
  refine yA rfl rfl ?_
  refine yN ?_
  dsimp only [St.put]
  refine K7 _ ?_
  refine yR ?_
  refine aa rfl (bv rfl rfl rfl (by omega)) ?_
  refine yM rfl rfl ?_
  refine yN ?_
  dsimp only [St.put]
  have e := uc2 (R := R) (c := C j) hz
  rw [Int.toNat_natCast] at e
  rw [← e]
  exact ⟨k + 1, by omega, by omega, ⟨⟨rfl, rfl⟩, zF, zB, zN, zX⟩⟩
 replace hc := of_decide_eq_false hc
 refine c7 ?_
 refine K3 _ ?_
 refine yS fun _ K9 => ?_
 refine yR ?_
 refine yM rfl rfl ?_
 refine yA rfl rfl ?_
 refine yN ?_
 dsimp only [St.put]
 refine K9 _ ?_
 refine ar ?_
 refine bl rfl (by constructor) zN zS ?_
 exact vi (by rw [ey (show (di p x).length ≤ k by omega), ufc hx])
end Go.Proofs.YtbbdginipiljdaaGreatDoor
namespace Go.AB
open Go Go.RowKit
open Go.AB.Enc (cells)
section
variable {P : Program} {o : Oper} {st : St} {K : St → Prop}
/-- append to a slice without room: a copy, owned. -/
theorem uek {α : Type} [Enc α] {t e : TypeId} {bytes : Nat} [AppT P t e (Enc.n α) bytes] {s x : Operand} {tok tk : Tok} {rows : List (List C)} (ys : List α) (ho : o.op = .call { callee := .builtin .append, args := #[s, x], argTypes := #[t, t] }) (hs : evC st s = .list [] tok) (htok : tok = .zero ∨ tok = .nil) (hx : evC st x = .list rows tk) (hy : rows = ys.map cells) (hne : ys ≠ []) (hn : 1 ≤ Enc.n α) (hb : ys.length * bytes ≤ 140737488355328) (hm : ys.length ≤ 9223372036854775807)
  (h : K (St.put { st with G := ai st.G st.nx (.arr 0 0 e (Enc.n α) ys.length (dc ys)), nx := st.nx + 1 } o.dst (.own st.nx 0 ys.length))) : EStep P o st K :=
 ko fun E w a hsim => by
  subst hy
  obtain ⟨ht, i, z, hie, hz, h1, h2, h3⟩ := AppT.spec (P := P) (t := t) (e := e) (sz := Enc.n α) (bytes := bytes)
  obtain ⟨sa, cap, _, _, e1, _, _, _, _, _, _, _, z1, z2, _⟩ := (hs ▸ hsim.ev s).list_inv
  have hcap : cap = 0 := by
   rcases htok with h | h
   ·exact z2 h
   ·exact (z1 h).2
  subst hcap
  have hrl : (ys.map (cells (α := α))).length = ys.length := List.length_map _
  obtain ⟨ao, c, news, e2, hl, hnews, hr, hone, h1c⟩ := w9 (hx ▸ hsim.ev x) (mb ys)
  rw [hrl] at e2 hl hnews
  have hy0 : ys.length ≠ 0 := fun e => hne (List.eq_nil_of_length_eq_zero e)
  obtain ⟨ad, rfl, hcells⟩ := hnews.resolve_left hy0
  have hl2 : news.length = ys.length * i.size := by rw [hl, h1]
  have key : ∃ nc, (Builtin.append_ #[t, t] o.type #[.slice sa 0 0, .slice (some ad) ys.length c]).run P w = .ok (.slice (some ⟨w.heap.size, 0, none⟩) ys.length nc) (w.drew.alloc (.cells (news.toArray ++ Builtin.zeroCells z.cells (nc - ys.length)) e)) ∧ ys.length ≤ nc ∧ nc ≤ maxLen := by
   refine ⟨grownCap w (0 + ys.length) 0 e, ?_, ?_, ?_⟩
   ·cases sa with
    | none =>
     have := run_append_nil (P := P) w t o.type e i z ht hie hz ad ys.length c news hl2 hcells (by omega) (by omega) (by rw [h2]; omega)
     simpa using this
    | some a0 =>
     have := run_append_grow (P := P) w t o.type e i z ht hie hz a0 0 0 [] (by simp) (by simp) ad ys.length c news hl2 hcells (by omega) (by omega) (growslice_fits (by omega) (by rw [h2]; simpa using hb))
     simpa using this
   ·have := grownCap_ge w (0 + ys.length) 0 e; omega
   ·exact grownCap_le_maxLen w (0 + ys.length) 0 e (by unfold maxLen; omega)
  obtain ⟨nc, hrun, hnc, hnm⟩ := key
  obtain ⟨ob, hob⟩ : ∃ ob, ob = Obj.cells (news.toArray ++ Builtin.zeroCells z.cells (nc - ys.length)) e := ⟨_, rfl⟩
  rw [← hob] at hrun
  have hev := Ev.laid hsim.g (o := ob) 0 (.inr rfl)
  have hg := SimG.laid hsim.g (o := ob) 0 (.inr rfl)
  have hnew : (w.drew.alloc ob).heap[w.heap.size]? = some ob := nj w.drew ob
  have hsz : (w.drew.alloc ob).heap.size = w.heap.size + 1 := by simp
  have hold : ∀ n tt b, (E.lay w.heap.size 0).T n = some tt → blk tt.2.2 = some b → b < w.heap.size := fun n tt b h5 h6 => (hsim.g.tb n _ _ _ b h5 h6).2
  have hnx := hsim.g.nx
  have hfr : ∀ b o', blk (.slice (some ⟨w.heap.size, 0, none⟩) ys.length nc) = some b → w.heap[b]? = some o' → False := fun b o' hbk ho' => by
   simp only [blk, Option.some.injEq] at hbk
   subst hbk
   have := (Array.getElem?_eq_some_iff.1 ho').1
   omega
  have hev2 := hev.thenName (.slice (some ⟨w.heap.size, 0, none⟩) ys.length nc) hfr
  have hg2 := SimG.name hg (.slice (some ⟨w.heap.size, 0, none⟩) ys.length nc) (.arr 0 0 e (Enc.n α) ys.length (dc ys)) (fun b hbk => by
   simp only [blk, Option.some.injEq] at hbk
   subst hbk
   exact ⟨hsim.g.base, by rw [hsz]; omega, fun n tt h5 h6 => absurd (hold n tt _ h5 h6) (by omega)⟩) (by
   refine ⟨.slice (some ⟨w.heap.size, 0, none⟩) ys.length nc, news, ?_, ⟨hl, .inr ⟨w.heap.size, nc, _, rfl, hsim.g.base, hnew.trans (by rw [hob]), hnc, hnm, ?_, ?_⟩⟩, fun c hc => ?_, hr.ev hev2, fun b hbk => ?_, hn⟩
   ·simp [Env.name, Env.lay, hnx]
   ·simp only [Array.size_append, List.size_toArray, size_zeroCells, hl]
    rw [h3, ← Nat.add_mul]
    congr 1
    omega
   ·simp only [Array.toList_append]
    rw [List.take_append_of_le_length (by simp [hl]), List.take_of_length_le (by simp [hl])]
   ·obtain ⟨r, hr1, hr2⟩ := List.mem_flatten.1 hc
    exact hone r hr1 c hr2
   ·simp only [blk, Option.some.injEq] at hbk
    subst hbk
    simp [Env.name, Env.lay])
  refine ⟨.slice (some ⟨w.heap.size, 0, none⟩) ys.length nc, w.drew.alloc ob, _, _, _, .own st.nx 0 ys.length, ?_, hev2, ?_, hg2, h⟩
  ·simp only [execOp, ho, resolve, invoke, builtin, Sem.run_bind, Sem.run_pure, Result.andThen_ok, List.map_toArray, List.map_cons, List.map_nil, e1, e2]
   simp only [List.length_nil]
   rw [hrun]; rfl
  ·refine R.own (by simp [Env.name, Env.lay]; omega) hnc hnm fun ver wv val htt => ?_
   simp only [Env.name, Env.lay, hnx, if_true, Option.some.injEq, Prod.mk.injEq] at htt
   obtain ⟨rfl, rfl, rfl⟩ := htt
   exact ⟨Nat.le_refl _, fun _ => ⟨_, Nat.le_refl _, rfl⟩⟩
end
/-- A function that gives nothing back ends. -/
theorem gn {P : Program} {st : St} {fn : Func} {G : Nat → Option GObj} {nx : Nat} {e : Exit} (hf : fn.results = #[]) (he : e = .normal ∨ e = .ret) (hn : nx ≤ st.nx) (hG : ∀ n o, G n = some o → st.G n = some o) : ow P fn (.tup []) G nx e st := by
 have : n9 P fn st (.tup []) := fun E w a _ => ⟨_, results_none hf _ _ _, R.undef E w⟩
 rcases he with rfl | rfl
 ·exact ⟨this, hn, hG⟩
 ·exact ⟨this, hn, hG⟩
end Go.AB
namespace Go.AB
open Go Go.RowKit
variable {ρ : Option Nat}
section
variable {P : Program} {ops : Array Oper} {Q : Exit → Act → World → Prop} {S : World → Prop} {late : Nat → Bool}
/-- Values alone: whatever has come up. -/
theorem ufu {S2 : World → Prop} (fin : Act → World → Prop) (fuel : Nat) (hs : Region.noSelect ops = true) (hQ : ∀ (o : Option Tmp) (v : Value) c a w, Q (.panic c) (a.put o v) w → Q (.panic c) a w) :
  ∀ (π : List (Nat × Option Nat)) (listed : Array Bool) (a : Act) (w : World), Closed .any ops listed → m5 ops late (fun _ => true) π listed = true →
   (∀ a, fin a w → jc P .any ops Q S late fuel (l7 π listed) a w) → gr P ops (jd fin) S2 late (fun _ => false) (fun _ => true) π a w → jc P .any ops Q S late (gw π + fuel) listed a w := by
 intro π
 induction π with
 | nil =>
  intro listed a w _ _ hf h
  have := hf a h
  simpa [gw, l7] using this
 | cons p rest ih =>
  obtain ⟨i, m⟩ := p
  intro listed a w hcl hc hf h
  cases m with
  | some j => simp [m5] at hc
  | none =>
   simp only [m5, Bool.and_eq_true] at hc
   obtain ⟨⟨⟨⟨hready, hfree⟩, hsome⟩, hlate⟩, hc2⟩ := hc
   simp only [gr, Bool.false_eq_true, if_false] at h
   cases ho : ops[i]? with
   | none => rw [ho] at hsome; cases hsome
   | some o =>
    rw [ho] at h
    obtain ⟨v, hy, hrest⟩ := h
    have hi : i ∈ Region.ready .any ops listed := by simpa using hready
    have hrec := ih _ _ _ (hcl.set hi) hc2 hf hrest
    have hp : gw ((i, none) :: rest) + fuel = gw rest + fuel + 1 := by simp only [gw]; omega
    rw [hp]
    simp only [if_true] at hy
    exact rn (depth := ops.size) (fun _ => True) ho (Region.noSelect_spec hs) (fun c a w => hQ o.dst v c a w) (.inl fun _ => trivial) (gw rest + fuel) listed a w hcl (Region.free_spec ho hfree) hi hy trivial hrec
end
section
variable (P : Program) (ol : List Oper) (K : St → Prop) (D : List Nat) (late : Nat → Bool)
/-- What is left, in whatever order; b: something late has come up. -/
def oy (b : Bool) (fuel : Nat) (listed : List Bool) (st : St) : Prop :=
 ∀ (E0 : Env) (w0 : World) (Q : Act → World → Prop), (∀ a' w' st' E', Ev E0 w0 E' w' → Sim E' w' st' a' → K st' → Q a' w') →
  ∀ E1 w1 a, Ev E0 w0 E1 w1 → Sim E1 w1 st a → (b = false → ∀ n ∈ D, E1.T n = E0.T n) → jc P .any ol.toArray (jd Q) (Keeps E0 (· ∈ D) w0) late fuel listed.toArray a w1
def tz (b : Bool) (fuel : Nat) (listed : List Bool) (i : Nat) (st : St) : Prop :=
 ∃ o, ol[i]? = some o ∧ fj ol.toArray st o = some true ∧ ((b = false ∧ EStep P o st fun st' => ov D st st' ∧ oy P ol K D late false fuel (listed.set i true) st') ∨ (late i = true ∧ EStep P o st (oy P ol K D late true fuel (listed.set i true))))
def t7 (b : Bool) (fuel : Nat) (listed : List Bool) (st : St) : List Nat → Prop
 | [] => True
 | i :: is => tz P ol K D late b fuel listed i st ∧ t7 b fuel listed st is
end
section
variable {P : Program} {ol : List Oper} {K : St → Prop} {D : List Nat} {late : Nat → Bool} {b : Bool} {fuel : Nat} {listed : List Bool} {st : St} {i : Nat} {is : List Nat} {o : Oper} {c : C}
theorem aw : t7 P ol K D late b fuel listed st [] := trivial
theorem am (h : tz P ol K D late b fuel listed i st) (k : t7 P ol K D late b fuel listed st is) : t7 P ol K D late b fuel listed st (i :: is) := ⟨h, k⟩
theorem cj (hol : ol[i]? = some o) (hg : fj ol.toArray st o = some true) {listed' : List Bool} (hl : listed.set i true = listed') (h : EStep P o st fun st' => ov D st st' ∧ oy P ol K D late false fuel listed' st') : tz P ol K D late false fuel listed i st :=
 ⟨o, hol, hg, .inl ⟨rfl, by rw [hl]; exact h⟩⟩
theorem bw (hL : late i = true) (hol : ol[i]? = some o) (hg : fj ol.toArray st o = some true) {listed' : List Bool} (hl : listed.set i true = listed') (h : EStep P o st (oy P ol K D late true fuel listed')) : tz P ol K D late b fuel listed i st :=
 ⟨o, hol, hg, .inr ⟨hL, by rw [hl]; exact h⟩⟩
theorem gq (hr : (Region.ready .any ol.toArray listed.toArray == []) = true) (h : K st) : oy P ol K D late b fuel listed st := by
 intro E0 w0 Q hQ E1 w1 a hev hs _
 have hr' : Region.ready .any ol.toArray listed.toArray = [] := by simpa using hr
 have hq := hQ a w1 st E1 hev hs h
 cases fuel with
 | zero => exact ⟨hr', hq⟩
 | succ n => exact ⟨fun _ => hq, fun i hi => by rw [hr'] at hi; cases hi⟩
theorem ax (is : List Nat) (hr : (Region.ready .any ol.toArray listed.toArray == is) = true) (hne : is ≠ []) (h : t7 P ol K D late b fuel listed st is) : oy P ol K D late b (fuel + 1) listed st := by
 intro E0 w0 Q hQ E1 w1 a hev hs hb
 have hr' : Region.ready .any ol.toArray listed.toArray = is := by simpa using hr
 refine ⟨fun e => absurd (hr'.symm.trans e) hne, fun i hi => ?_⟩
 rw [hr'] at hi
 have hi' : tz P ol K D late b fuel listed i st := by
  clear hr hr' hne
  induction is with
  | nil => cases hi
  | cons j is ih =>
   rcases List.mem_cons.1 hi with rfl | hi
   ·exact h.1
   ·exact ih h.2 hi
 obtain ⟨o, hol, hg, hcase⟩ := hi'
 have ho : ol.toArray[i]? = some o := by simpa using hol
 have hset : listed.toArray.setIfInBounds i true = (listed.set i true).toArray := by simp
 refine wpOp_step ho fun Kr hK => ?_
 rw [if_pos (l6 hg hs)]
 rcases hcase with ⟨rfl, h1⟩ | ⟨hL, h1⟩
 ·refine h1 E1 w1 a hs Kr _ fun a' w' st' E' q1 q2 q3 => ?_
  have hk := ta hs q1 q2 q3.1
  refine hK a' w' ⟨.inr fun hS => ⟨fun b j hj => (q1.cell b j (Nat.lt_of_lt_of_le hj (hev.L b))).trans (hS.1 b j hj), fun n hn ver wv val b ht hb' => ?_⟩, ?_⟩
  ·have := hb rfl n hn
   exact ((hk n hn).2 ver wv val b (this.trans ht) hb').trans (hS.2 n hn ver wv val b ht hb')
  ·rw [hset]
   exact q3.2 E0 w0 Q hQ E' w' a' (hev.trans q1) q2 fun e n hn => (hk n hn).1.trans (hb rfl n hn)
 ·refine h1 E1 w1 a hs Kr _ fun a' w' st' E' q1 q2 q3 => ?_
  refine hK a' w' ⟨.inl hL, ?_⟩
  rw [hset]
  exact q3 E0 w0 Q hQ E' w' a' (hev.trans q1) q2 fun e => by cases e
theorem cy {total : Nat} (π : List (Nat × Option Nat)) (fuel : Nat) (listed' : List Bool)
  (hchk : (zu ol.toArray listed.toArray && (Region.noSelect ol.toArray && (m5 ol.toArray late (fun _ => true) π listed.toArray && ((l7 π listed.toArray).toList == listed' && total == gw π + fuel)))) = true)
  (h : jw P ol.toArray (fun st' => ov D st st' ∧ oy P ol K D late b fuel listed' st') [] late (fun _ => false) (fun _ => true) π st) : oy P ol K D late b total listed st := by
 simp only [Bool.and_eq_true, beq_iff_eq] at hchk
 obtain ⟨h0, h1, h2, h3, h4⟩ := hchk
 subst h4
 intro E0 w0 Q hQ E1 w1 a hev hs hb
 have hend : l7 π listed.toArray = listed'.toArray := by rw [← h3]
 refine ufu (S2 := Keeps E1 (· ∈ ([] : List Nat)) w1) (fun a' w' => jc P .any ol.toArray (jd Q) (Keeps E0 (· ∈ D) w0) late fuel listed'.toArray a' w') fuel h1 (fun _ _ _ _ _ h => h) π _ a w1 (ueo h0) h2 (fun a' h' => by rw [hend]; exact h') ?_
 exact h E1 w1 _ (fun a' w' st' E' q1 q2 q3 => q3.2 E0 w0 Q hQ E' w' a' (hev.trans q1) q2 fun e n hn => ((ta hs q1 q2 q3.1) n hn).1.trans (hb e n hn)) a hs
theorem ue4 {id : Nat} {l : List Oper} {Q : Exit → St → Prop} (π : List (Nat × Option Nat)) (late N : Nat → Bool) (fuel : Nat) (listed : List Bool) (D : List Nat) (hm : P.follows .mixedOrders = true)
  (hchk : (qr l && (Region.noSelect l.toArray && (m5 l.toArray late N π (Array.replicate l.toArray.size false) && ((l7 π (Array.replicate l.toArray.size false)).toList == listed && gw π + fuel == l.toArray.size)))) = true)
  (h : jw P l.toArray (fun st' => ov D st st' ∧ oy P l (Q .normal) D late false fuel listed st') D late (fun _ => false) N π st) : AW ρ P (.region id l.toArray true) Q st := by
 intro E w a hs
 simp only [Bool.and_eq_true, beq_iff_eq] at hchk
 obtain ⟨h0, h1, h2, h3, h4⟩ := hchk
 have hev : Ev E w E w.drew := Ev.same ((Below.refl _ _).drew) rfl
 have hend : l7 π (Array.replicate l.toArray.size false) = listed.toArray := by rw [← h3]
 have key : jc P .any l.toArray (jd fun a' w' => ni E w Q .normal a' w') (Keeps E (· ∈ D) w.drew) late (gw π + fuel) (Array.replicate l.toArray.size false) a w.drew := by
  refine xd (fun a' w' => jc P .any l.toArray (jd fun a' w' => ni E w Q .normal a' w') (Keeps E (· ∈ D) w.drew) late fuel listed.toArray a' w') fuel h1 (fun _ _ _ _ _ h => h) π _ a w.drew ?_ h2 (Keeps.refl _ _ _) (fun a' h' => by rw [hend]; exact h') ?_
  ·intro j o _ hj
   rw [Array.getD_eq_getD_getElem?, Array.getElem?_replicate] at hj
   split at hj <;> simp at hj
  ·exact h E w.drew _ (fun a' w' st' E' q1 q2 q3 => q3.2 E w.drew _ (fun a2 w2 st2 E2 r1 r2 r3 => ⟨st2, E2, hev.trans r1, r2, r3⟩) E' w' a' q1 q2 fun _ n hn => ((ta hs.drew q1 q2 q3.1) n hn).1) a hs.drew
 rw [h4] at key
 refine iw (Q := jd fun a' w' => ni E w Q .normal a' w') ?_ (zt hm h0 (t8 _ _ _ _ key))
 intro e a' w' hq
 cases e with
 | normal => exact hq
 | _ => exact hq.elim
end
/-- Four objects that are changed. -/
theorem gl {g H : Nat → Option GObj} {a b c d : Nat} {oa ob oc od : GObj} (ha : H a = some oa) (hb : H b = some ob) (hc : H c = some oc) (hd : H d = some od) (h : ∀ n o, n ≠ a → n ≠ b → n ≠ c → n ≠ d → g n = some o → H n = some o) :
  ∀ n o, ai (ai (ai (ai g a oa) b ob) c oc) d od n = some o → H n = some o := by
 intro n o hn
 by_cases e1 : n = d
 ·subst e1; rw [jz] at hn; rw [hd]; exact hn
 ·rw [cv e1] at hn
  by_cases e2 : n = c
  ·subst e2; rw [jz] at hn; rw [hc]; exact hn
  ·rw [cv e2] at hn
   by_cases e3 : n = b
   ·subst e3; rw [jz] at hn; rw [hb]; exact hn
   ·rw [cv e3] at hn
    by_cases e4 : n = a
    ·subst e4; rw [jz] at hn; rw [ha]; exact hn
    ·rw [cv e4] at hn
     exact h n o e4 e3 e2 e1 hn
end Go.AB
namespace Go.AB
open Go Go.RowKit
open Go.Maps (Keyed)
section
variable {P : Program} {k t e : TypeId} {w : World} {r : Nat} {es : Array MapEntry} {clock : Nat}
end
section
variable {P : Program} {o : Oper} {st : St} {K : St → Prop} {α : Type} [KeyV α]
end
/-- Three numbers. -/
instance : KeyV Go.PB.PlaceD where
 kv x := .agg #[.int .i64 x.ch, .int .i64 x.ln, .int .i64 x.wd]
 kc x := .agg [.v (.int .i64 x.ch), .v (.int .i64 x.ln), .v (.int .i64 x.wd)]
 inv h := by
  obtain ⟨vs, rfl, h1, _⟩ := h.agg_inv
  match vs, h1 with
  | [a, b, c], h1 =>
   have e1 := (h1.2 0 _ _ rfl rfl).v_inv
   have e2 := (h1.2 1 _ _ rfl rfl).v_inv
   have e3 := (h1.2 2 _ _ rfl rfl).v_inv
   subst e1; subst e2; subst e3; rfl
  | [], h => exact absurd h.1 (by simp)
  | [_], h => exact absurd h.1 (by simp)
  | [_, _], h => exact absurd h.1 (by simp)
  | _ :: _ :: _ :: _ :: _, h => exact absurd h.1 (by simp)
 inj h := by
  rename_i x y
  obtain ⟨a, b, c⟩ := x
  obtain ⟨d, e, f⟩ := y
  simpa using h
 any {E w x v} h E' w' := by
  obtain ⟨vs, rfl, h1, _⟩ := h.agg_inv
  match vs, h1 with
  | [a, b, c], h1 =>
   have e1 := h1.2 0 _ _ rfl rfl
   have e2 := h1.2 1 _ _ rfl rfl
   have e3 := h1.2 2 _ _ rfl rfl
   cases e1 with | v e1 =>
   cases e2 with | v e2 =>
   cases e3 with | v e3 =>
   exact (Rs.cons (.v e1) (Rs.cons (.v e2) (Rs.cons (.v e3) Rs.nil))).agg (by intro c hc; simp only [List.mem_cons, List.not_mem_nil, or_false] at hc; rcases hc with rfl | rfl | rfl <;> rfl)
  | [], h => exact absurd h.1 (by simp)
  | [_], h => exact absurd h.1 (by simp)
  | [_, _], h => exact absurd h.1 (by simp)
  | _ :: _ :: _ :: _ :: _, h => exact absurd h.1 (by simp)
end Go.AB
namespace Go.AB
open Go Go.RowKit
open Go.PB (bh aj PlaceD bq bt br)
def uds (P : Program) (k u : TypeId) : Bool := match P.underlying k with
 | some (.struct fs) => (match fs.toList with
  | [a, b, c] => a.type == u && b.type == u && c.type == u && a.offset == 0 && b.offset == 1 && c.offset == 2 && fs.all (·.name != "_")
  | _ => false)
 | _ => false
theorem key3 {P : Program} {k u : TypeId} (h : uds P k u = true) (hu : P.underlying u = some (.int .i64)) (h3 : P.cellsOf k = 3) (h1 : P.cellsOf u = 1) (hk : P.keyType k = true) (hm : ∃ m, P.types.size = m + 3) {x y z : Int} (hx : (Lit.int .i64 x).wf = true) (hy : (Lit.int .i64 y).wf = true) (hz : (Lit.int .i64 z).wf = true) : ∃ l, keyOf P k (.agg #[.int .i64 x, .int .i64 y, .int .i64 z]) = some l := by
 obtain ⟨m, hm⟩ := hm
 unfold uds at h
 split at h
 ·rename_i fs hfs
  split at h
  ·rename_i a b c habc
   simp only [Bool.and_eq_true, beq_iff_eq] at h
   obtain ⟨⟨⟨⟨⟨⟨e1, e2⟩, e3⟩, e4⟩, e5⟩, e6⟩, e7⟩ := h
   have hf : (Value.agg #[.int .i64 x, .int .i64 y, .int .i64 z]).formed P k = true := by simp [Value.formed, hfs, h3]
   refine ⟨.string (keyBytes [.int .i64 x, .int .i64 y, .int .i64 z]), ?_⟩
   unfold keyOf
   rw [hfs]
   simp only [hk, hf, Bool.and_self, if_true]
   have hl : P.keyLits (P.types.size + 1) k (Value.agg #[.int .i64 x, .int .i64 y, .int .i64 z]).cells.toList = some [.int .i64 x, .int .i64 y, .int .i64 z] := by
    rw [hm]
    unfold Program.keyLits
    simp only [hfs, h3, h1, e1, e2, e3, e4, e5, e6, e7, habc, Value.cells]
    unfold Program.keyLits
    simp [hu, h1, e1, e2, e3, e4, e5, e6, hx, hy, hz]
   rw [hl]
   rfl
  ·cases h
 ·cases h
end Go.AB
namespace Go.Proofs.YtbbdginipiljdaaGreatDoor
set_option maxRecDepth 10000
open Go Go.RowKit Go.AB
open Go.PB (bh aj PlaceD bq bt br)
theorem uiw : Go.Maps.Keyed Tryz.prog 61 := Go.Maps.Keyed.of_law (deep_law_laid y8 (m := 2) (by omega) (of_decide_eq_true (by kernel_rfl)) (by kernel_rfl) (by kernel_rfl))
instance : KeyT Tryz.prog 61 PlaceD where
 keyed := uiw
 has {E w x v} h := by
  obtain ⟨vs, rfl, h1, _⟩ := R.agg_inv h
  match vs, h1 with
  | [a, b, c], h1 => exact key3 (u := 3) (by kernel_rfl) xj (by kernel_rfl) (by kernel_rfl) (by kernel_rfl) ukj (vu (v7 (h1.2 0 _ _ rfl rfl))) (vu (v7 (h1.2 1 _ _ rfl rfl))) (vu (v7 (h1.2 2 _ _ rfl rfl)))
  | [], h => exact absurd h.1 (by simp)
  | [_], h => exact absurd h.1 (by simp)
  | [_, _], h => exact absurd h.1 (by simp)
  | _ :: _ :: _ :: _ :: _, h => exact absurd h.1 (by simp)
end Go.Proofs.YtbbdginipiljdaaGreatDoor
namespace Go.AB
open Go Go.RowKit
open Go.AB.Enc (cells)
open Go.PB (bh aj PlaceD bq bt br ca ay ah dj c9 du dt)
/-- who is found, as a map -/
def gy (f : PlaceD → Bool) : PlaceD → Option C := fun q => bif f q then some (.v (.bool true)) else none
theorem uck (f : PlaceD → Bool) (q : PlaceD) : (gy f q).getD (ou (.bool false)) = .v (.bool (f q)) := by
 unfold gy
 cases f q <;> rfl
theorem ujp : gy (fun q => decide (q ∈ ([] : List PlaceD))) = fun _ => none := by funext q; simp [gy]
theorem ujq {F : List PlaceD} {k : Nat} {q : PlaceD} (h : F[k]? = some q) : kj (gy fun x => decide (x ∈ F.take k)) q (.v (.bool true)) = gy fun x => decide (x ∈ F.take (k + 1)) := by
 funext x
 unfold kj gy
 have hm : decide (x ∈ F.take (k + 1)) = (decide (x ∈ F.take k) || decide (x = q)) := by
  rw [List.take_add_one, h, Option.toList_some, Bool.eq_iff_iff]; simp
 dsimp only
 by_cases e : x = q
 ·rw [hm, decide_eq_true e, Bool.or_true, if_pos e]; rfl
 rw [hm, decide_eq_false e, Bool.or_false, if_neg e]
theorem ucj {F W : List PlaceD} (hW : W.Nodup) {k : Nat} {q : PlaceD} (h : W[k]? = some q) (hq : q ∈ F) : p7 (gy (gm F (W.take k))) q = gy (gm F (W.take (k + 1))) := by
 funext x
 unfold p7 gy
 rw [ucl hW h x]
 by_cases e : x = q
 ·rw [if_pos e, decide_eq_true e, decide_eq_true hq]; rfl
 rw [if_neg e, decide_eq_false e]; rfl
theorem uci {F W : List PlaceD} (hW : W.Nodup) {k : Nat} {q : PlaceD} (h : W[k]? = some q) (hq : q ∉ F) : kj (gy (gm F (W.take k))) q (.v (.bool true)) = gy (gm F (W.take (k + 1))) := by
 funext x
 unfold kj gy
 rw [ucl hW h x]
 by_cases e : x = q
 ·rw [if_pos e, decide_eq_true e, decide_eq_false hq]; rfl
 rw [if_neg e, decide_eq_false e]; rfl
theorem onceM_ne {f : PlaceD → Bool} {q : PlaceD} : gy f q ≠ none ↔ f q = true := by
 unfold gy
 cases f q <;> simp
theorem yj {f : PlaceD → Bool} {q : PlaceD} {c : C} (h : gy f q = some c) : c = .v (.bool true) := by
 unfold gy at h
 cases hf : f q <;> rw [hf] at h
 ·cases h
 cases h; rfl
theorem ne (f : PlaceD → Bool) (n : Nat) : ∀ x c, gy f x = some c → C.low n c := fun x c h => by rw [yj h]; exact .v
def sx (ks done : List PlaceD) : Nat := (ks.filter fun y => decide (y ∉ done)).length
theorem ude {ks done : List PlaceD} {y : PlaceD} (hy : y ∈ ks) (hn : y ∉ done) : sx ks (done ++ [y]) < sx ks done := by
 unfold sx
 induction ks with
 | nil => cases hy
 | cons z ks ih =>
  have hle : (ks.filter fun y' => decide (y' ∉ done ++ [y])).length ≤ (ks.filter fun y' => decide (y' ∉ done)).length := by
   rw [← List.countP_eq_length_filter, ← List.countP_eq_length_filter]
   refine List.countP_mono_left fun a _ ha => ?_
   simp only [decide_eq_true_eq, List.mem_append, not_or] at ha ⊢
   exact ha.1
  by_cases e : z = y
  ·subst e
   rw [List.filter_cons_of_neg (by simp), List.filter_cons_of_pos (by simpa using hn)]
   simp only [List.length_cons]
   omega
  have hy' : y ∈ ks := by
   rcases List.mem_cons.1 hy with h | h
   ·exact absurd h.symm e
   exact h
  have := ih hy'
  by_cases hz : z ∈ done
  ·rw [List.filter_cons_of_neg (by simp [hz]), List.filter_cons_of_neg (by simp [hz])]
   exact this
  rw [List.filter_cons_of_pos (by simp [hz, e]), List.filter_cons_of_pos (by simp [hz])]
  simp only [List.length_cons]
  omega
theorem uer {p : ah} {x : ay} {q : PlaceD} {k : Nat} {last : Int} (hp : n3 p last x) (hB : eg p.text x = []) (hq : x.well[k]? = some q) : q ∉ x.found := fun hf => by
 have : q ∈ eg p.text x := by
  show q ∈ (dx p.text).filter _
  rw [List.mem_filter, Bool.and_eq_true, decide_eq_true_eq, decide_eq_true_eq, allQ_mem]
  exact ⟨(mx hp.found hf).1, hf, List.mem_of_getElem? hq⟩
 rw [hB] at this; cases this
theorem ucf {p : PlaceD → Prop} : Ord3 p ma := by
 have key : ∀ a b, ma a b < 0 ↔ ltW (dr a) (dr b) := fun a b => ny (by rfl)
 refine ⟨fun x _ => ?_, fun x y z _ _ _ h k => ?_, fun x y z _ _ _ h k => ?_⟩
 ·rw [key]; exact pd _
 ·rw [key] at h k ⊢; exact qx h k
 rw [key] at h k ⊢
 intro hxz
 by_cases h1 : ltW (dr y) (dr x)
 ·exact k (qx h1 hxz)
 rw [y5 (a := dr x) (b := dr y) rfl h h1] at hxz; exact k hxz
def PBd9 (q : PlaceD) : Prop := (0 ≤ q.ch ∧ q.ch ≤ 100000) ∧ (0 ≤ q.ln ∧ q.ln ≤ 100000) ∧ 0 ≤ q.wd ∧ q.wd ≤ 100000
theorem PBd9.plain {a : PlaceD} (h : PBd9 a) : Plain (cells a) := fun c hc => by
 obtain ⟨h1, h2, h3⟩ := h
 have hc' : c ∈ [C.v (.int .i64 a.ch), C.v (.int .i64 a.ln), C.v (.int .i64 a.wd)] := hc
 simp only [List.mem_cons, List.not_mem_nil, or_false] at hc'
 rcases hc' with rfl | rfl | rfl
 ·exact ⟨_, rfl, la (by omega)⟩
 ·exact ⟨_, rfl, la (by omega)⟩
 exact ⟨_, rfl, la (by omega)⟩
theorem ub2 {t : aj} (ht : d7 t = true) {q : PlaceD} (h : fw t q = true) : PBd9 q := by
 obtain ⟨l, hw, hw1, hw2⟩ := placeB_true.1 h
 have := ub ht hw
 exact ⟨by omega, by omega, by omega, by omega⟩
theorem ucg {p : ah} {x : ay} {last : Int} (hp : n3 p last x) {q : PlaceD} (h : gm x.found x.well q = true) : fw p.text q = true := by
 unfold gm at h
 by_cases h1 : q ∈ x.found
 ·exact (mx hp.found h1).1
 by_cases h2 : q ∈ x.well
 ·exact (mx hp.well h2).1
 simp [h1, h2] at h
theorem uch {p : ah} {x : ay} {last : Int} (hp : n3 p last x) (ht : d7 p.text = true) {done : List PlaceD} (h : ∀ q ∈ done, gm x.found x.well q = true) : ∀ q ∈ done, PBd9 q := fun q hq => ub2 ht (ucg hp (h q hq))
theorem umm {p : ah} {x : ay} {last : Int} (_ : n3 p last x) (ht : d7 p.text = true) {q : PlaceD} (h : q ∈ eg p.text x) : PBd9 q := by
 have : q ∈ (dx p.text).filter _ := h
 exact ub2 ht (allQ_mem.1 (List.mem_filter.1 this).1)
theorem vd {p : ah} {x : ay} {last : Int} (hp : n3 p last x) {done : List PlaceD} (hn : done.Nodup) (h : ∀ q ∈ done, gm x.found x.well q = true) : done.length ≤ (dx p.text).length :=
 ucr hn fun q hq => allQ_mem.2 (ucg hp (h q hq))
section
variable {P : Program} {o : Oper} {st : St} {K : St → Prop}
/-- A slice that is nil is nil. -/
theorem ulx {t t' e : TypeId} [Elt P t e] {x : Operand} {rows : List (List C)} (ho : o.op = .binOp .eql t x (.const (.slice none 0 0)) t') (hx : evC st x = .list rows .nil) (h : K (st.put o.dst (.v (.bool true)))) : EStep P o st K :=
 ko fun E w a hsim => by
  have hr := hx ▸ hsim.ev x
  obtain ⟨ad, cap, _, _, hv, h1, _, _, _, _, _, h7, z1, _⟩ := R.list_inv hr
  obtain ⟨rfl, rfl⟩ := z1 rfl
  have q1 := Elt.spec (P := P) (t := t) (e := e)
  refine ⟨.bool true, w, E, st.G, st.nx, .v (.bool true), ?_, Ev.refl E w, .v rfl, hsim.g, h⟩
  have hq := run_equal_slice_nil (P := P) w t e none rows.length 0 q1
  have he2 : a.eval (.const (.slice none 0 0)) = .slice none 0 0 := rfl
  simp [execOp, ho, hv, he2, eqGuard, binOp, hq]
/-- .. one in which something is, is not. -/
theorem ueh {t t' e : TypeId} [Elt P t e] {x : Operand} {rows : List (List C)} {tok : Tok} (hne : rows ≠ []) (ho : o.op = .binOp .eql t x (.const (.slice none 0 0)) t') (hx : evC st x = .list rows tok) (h : K (st.put o.dst (.v (.bool false)))) : EStep P o st K :=
 uei ho hx fun b hb => by rw [hb hne]; exact h
end
end Go.AB
namespace Go.Proofs.YtbbdginipiljdaaGreatDoor
set_option maxRecDepth 10000
open Go Go.RowKit Go.AB
open Go.AB.Enc (cells)
open Go.PB (bh aj PlaceD bq bt br ca ay ah dj c9 du dt)
instance : Ty Tryz.prog (srt_Place_ren.t 24) true (Enc.n PlaceD) := inferInstanceAs (Ty Tryz.prog 61 true 3)
theorem umb : Pure Tryz.prog 104 [.list [] .nil] (.list [] .nil) := by
 refine da Tryz.func104 rfl (fun m => (.list (fun r hr => by cases hr) (fun k hk => by cases hk))) fun G nx => ?_
 simp only [Tryz.ntmps104, List.length_cons, List.length_nil, Nat.reduceAdd, Nat.reduceSub]
 refine cb fun hlt => ?_
 dsimp only at hlt
 refine yS fun _ K1 => ?_
 refine yR ?_
 refine yA rfl rfl ?_
 refine yN ?_
 dsimp only [St.put]
 refine K1 _ ?_
 refine yS fun _ K2 => ?_
 refine yS fun _ K3 => ?_
 refine yR ?_
 refine yM rfl rfl ?_
 refine af rfl (ulx rfl rfl ?_)
 refine yN ?_
 dsimp only [St.put]
 refine K3 _ ?_
 refine aq rfl (fun hc => ?_) (fun hc => ?_)
 ·try replace hc := of_decide_eq_true hc
  refine yS fun _ K4 => ?_
  refine yR ?_
  refine yA rfl rfl ?_
  refine yN ?_
  dsimp only [St.put]
  refine K4 _ ?_
  refine ar ?_
  refine bl rfl (by constructor) zN zS ?_
  rfl
 try replace hc := of_decide_eq_false hc
 refine az ?_
 refine K2 _ ?_
 refine yS fun _ K5 => ?_
 refine yR ?_
 try dsimp only [St.put]
 refine af rfl (tp rfl ?_)
 refine yM rfl rfl ?_
 try dsimp only [St.put]
 refine af rfl (wt rfl rfl (.inl rfl) rfl (show 1 ≤ 3 by decide) (fun r hr => by cases hr) (by simp) (by simp) ?_)
 refine yA rfl rfl ?_
 refine yN ?_
 dsimp only [St.put]
 refine K5 _ ?_
 refine ar ?_
 exact absurd hc (by decide)
theorem uma (l : List PlaceD) (hne : l ≠ []) (hl : l.length ≤ 1000) (G : Nat → Option GObj) (nx : Nat) : PC Tryz.prog 104 [lst l] G nx fun r G' nx' => r = .own nx 0 l.length ∧ G' = ai G nx (.arr 0 0 61 3 l.length (dc l)) ∧ nx' = nx + 1 := by
 refine lw (ai G nx (.arr 0 0 61 3 l.length (dc l))) (nx + 1) Tryz.func104 rfl (.own (Nat.lt_succ_self _)) zN (fun hlt => (by (repeat' (refine mc ?_ (by (try dsimp only); omega) ?_)); all_goals (first | exact me zS | (repeat' (first | exact trivial | refine ⟨?_, ?_⟩ | exact .v | exact .any | refine .elem ?_ | exact ck _ _ | exact fy _ _ | exact et _ _ | exact f9 _ (by (try dsimp only); omega) | exact .box (by (try dsimp only); omega) | exact fm | exact dz | exact fg _ | refine ge ?_ ?_ | exact .arr (by (try dsimp only); omega) | exact .own (by (try dsimp only); omega) | exact .map (by (try dsimp only); omega) | exact fg _ | refine c6 ?_ ?_ | exact ck _ _))))) ?_
 simp only [Tryz.ntmps104, List.length_cons, List.length_nil, Nat.reduceAdd, Nat.reduceSub]
 refine cb fun hlt => ?_
 dsimp only at hlt
 refine yS fun _ K1 => ?_
 refine yR ?_
 refine yA rfl rfl ?_
 refine yN ?_
 dsimp only [St.put]
 refine K1 _ ?_
 refine yS fun _ K2 => ?_
 refine yS fun _ K3 => ?_
 refine yR ?_
 refine yM rfl rfl ?_
 refine af rfl (ueh (fun e => hne (by simpa using e)) rfl rfl ?_)
 refine yN ?_
 dsimp only [St.put]
 refine K3 _ ?_
 refine aq rfl (fun hc => ?_) (fun hc => ?_)
 ·try replace hc := of_decide_eq_true hc
  refine yS fun _ K4 => ?_
  refine yR ?_
  refine yA rfl rfl ?_
  refine yN ?_
  dsimp only [St.put]
  refine K4 _ ?_
  refine ar ?_
  exact absurd hc (by decide)
 try replace hc := of_decide_eq_false hc
 refine az ?_
 refine K2 _ ?_
 refine yS fun _ K5 => ?_
 refine yR ?_
 try dsimp only [St.put]
 refine af rfl (tp rfl ?_)
 refine yM rfl rfl ?_
 try dsimp only [St.put]
 refine af rfl (uek l rfl rfl (.inl rfl) rfl rfl hne (by decide) (by omega) (by omega) ?_)
 refine yA rfl rfl ?_
 refine yN ?_
 dsimp only [St.put]
 refine K5 _ ?_
 refine ar ?_
 refine bl rfl (by constructor) zN zS ?_
 rfl
set_option maxHeartbeats 4000000 in
theorem um4 (p : ah) (last : Int) (x : ay) (ws : List Int) (al bo : List (List PlaceD)) (nB a1 a2 a3 V : Nat) (ht : d7 p.text = true) (hp : n3 p last x) (hw : ws.length ≤ 100) (ha : al.length ≤ 100) (hb : bo.length ≤ 100) (G : Nat → Option GObj) (nx : Nat) (hN : nB < nx) (h1 : a1 < nx) (h2 : a2 < nx) (h3 : a3 < nx) (d1 : nB ≠ a1) (d2 : nB ≠ a2) (d3 : nB ≠ a3) (d4 : a1 ≠ a2) (d5 : a1 ≠ a3) (d6 : a2 ≠ a3)
  (hGB : G nB = some (((.box (V) [lst p.text, lst p.firsts, lst p.seconds, lst p.pages, .list ((ws).map cells) (.tip a1), .list ((al).map cells) (.tip a2), .list ((bo).map cells) (.tip a3)])))) (hG1 : G a1 = some (.tip ws.length 3 1)) (hG2 : G a2 = some (.tip al.length 56 1)) (hG3 : G a3 = some (.tip bo.length 56 1)) :
  PC Tryz.prog 85 [.box nB 0 0, val x, lst (mo p.text p.text.length)] G nx fun r' G' nx' => r' = .tup [] ∧ G' = ai (ai (ai (ai G nB (((.box ((V + 1 + 1 + 1)) [lst p.text, lst p.firsts, lst p.seconds, lst p.pages, .list (((ws ++ [(ec p.text x : Int)])).map cells) (.tip a1), .list (((al ++ [dl p.text x])).map cells) (.tip a2), .list (((bo ++ [eg p.text x])).map cells) (.tip a3)])))) a1 (.tip (ws ++ [(ec p.text x : Int)]).length 3 1)) a2 (.tip (al ++ [dl p.text x]).length 56 1)) a3 (.tip (bo ++ [eg p.text x]).length 56 1) ∧ nx' = nx := by
 refine lw (ai (ai (ai (ai G nB (((.box ((V + 1 + 1 + 1)) [lst p.text, lst p.firsts, lst p.seconds, lst p.pages, .list (((ws ++ [(ec p.text x : Int)])).map cells) (.tip a1), .list (((al ++ [dl p.text x])).map cells) (.tip a2), .list (((bo ++ [eg p.text x])).map cells) (.tip a3)])))) a1 (.tip (ws ++ [(ec p.text x : Int)]).length 3 1)) a2 (.tip (al ++ [dl p.text x]).length 56 1)) a3 (.tip (bo ++ [eg p.text x]).length 56 1)) (nx) Tryz.func85 rfl (.tup dz) zN (fun hlt => zH) ?_
 simp only [Tryz.ntmps85, List.length_cons, List.length_nil, Nat.reduceAdd, Nat.reduceSub]
 refine cb fun hlt => ?_
 dsimp only at hlt
 obtain ⟨hl1, hl2, hl3⟩ := lu ht
 have hal := n2 ht
 have hnd1 := xu (wl hp.found)
 have hnd2 := xu (wl hp.well)
 have hfl := nw hp.found
 have hwl := nw hp.well
 have hbl := umn p.text x
 have hgl := ra p.text x
 have hwx := uc p.text x
 have hwt : ∀ (f : PlaceD → Bool) (l : List PlaceD), (l.filter f).length ≤ l.length := fun f l => List.length_filter_le f l
 have hstl := ua3 p.text p.text.length
 have hmw : x.well.take x.well.length = x.well := List.take_length
 refine yS fun _ K1 => ?_
 refine yR ?_
 try dsimp only [St.put]
 refine yB rfl rfl rfl ?_
 refine yN ?_
 dsimp only [St.put]
 refine K1 _ ?_
 refine yS fun _ K2 => ?_
 refine yR ?_
 refine yA rfl rfl ?_
 refine yN ?_
 dsimp only [St.put]
 rw [show (0 : Int) = ((gd p.text x (dx (p.text.take 0)) : Nat) : Int) from rfl]
 refine K2 _ ?_
 refine yS fun _ K3 => ?_
 refine yS fun _ K4 => ?_
 refine yR ?_
 refine yM rfl rfl ?_
 refine aa rfl (cp rfl rfl) ?_
 refine aa rfl (bn rfl rfl) ?_
 refine aa rfl (bn rfl rfl) ?_
 refine aa rfl (bn rfl rfl) ?_
 try dsimp only [St.put]
 refine ci rfl (e9 rfl rfl zG trivial (by first | rfl | assumption)) ?_
 refine aa rfl (bk rfl rfl (List.length_map _)) ?_
 refine yM rfl rfl ?_
 refine yN ?_
 dsimp only [St.put]
 refine K4 _ ?_
 refine bg ?_
 refine co 27 ?_
 refine zQ ?_
 refine dg (X := Nat) (fun k => k ≤ p.text.length) (fun k => p.text.length - k) (fun k => [(6, .v (.int .i64 ((gd p.text x (dx (p.text.take k)) : Nat) : Int))), (7, .any), (8, .any), (9, .any), (10, .any), (26, .v (.int .i64 (k : Int)))]) (fun k G' => G') 0 rfl ?_ ?_ (fun _ _ h => h) ?_ ?_ ?_
 ·exact Nat.zero_le _
 ·exact zF
 ·rintro k hI
  exact zL
 ·exact fun _ _ _ _ h => .inl h
 rintro k hI
 dsimp only at hI ⊢
 refine yS fun _ K5 => ?_
 refine yR ?_
 refine aa rfl (cm rfl rfl rfl) ?_
 refine yN ?_
 dsimp only [St.put]
 refine K5 _ ?_
 refine yS fun _ K6 => ?_
 refine aq rfl (fun hc => ?_) (fun hc => ?_)
 ·replace hc := of_decide_eq_true hc
  obtain ⟨c, hcx⟩ : ∃ c, p.text[k]? = some c := dn (by omega)
  have hll := (hl3 c (fo hcx)).2.1
  have hwo := (hl3 c (fo hcx)).2.2
  have hst := ua4 (t := p.text) (k := p.text.length) (i := k) (by omega)
  have hsb := uh ht k (by omega)
  refine az ?_
  refine K6 _ ?_
  refine yS fun _ K7 => ?_
  refine bg ?_
  refine yS fun _ K8 => ?_
  refine yR ?_
  refine yM rfl rfl ?_
  refine aa rfl (bu rfl rfl rfl rfl (bp (by assumption)) (Enc.len _)) ?_
  refine yE rfl rfl rfl ?_
  try dsimp only [St.put]
  refine af rfl (dp rfl ?_)
  refine yA rfl rfl ?_
  try dsimp only [St.put]
  refine af rfl (c4 rfl rfl rfl zG rfl rfl (by rfl) ?_)
  refine yN ?_
  dsimp only [St.put]
  refine K8 _ ?_
  refine f4 (i := 8) rfl zG zC ?_
  dsimp only
  refine yS fun _ K9 => ?_
  refine yR ?_
  refine yF rfl rfl rfl rfl ?_
  refine yL rfl rfl rfl ?_
  refine aa rfl (bk rfl rfl (List.length_map _)) ?_
  refine yM rfl rfl ?_
  refine yN ?_
  dsimp only [St.put]
  rw [ufh p.text k c.lines]
  refine K9 _ ?_
  refine bg ?_
  refine co 35 ?_
  refine zQ ?_
  refine dg (X := Nat) (fun n => n ≤ c.lines.length) (fun n => c.lines.length - n) (fun n => [(6, .v (.int .i64 ((gd p.text x (g9 p.text k c.lines n) : Nat) : Int))), (9, .any), (10, .any), (34, .v (.int .i64 (n : Int)))]) (fun n G' => G') 0 rfl ?_ ?_ (fun _ _ h => h) ?_ ?_ ?_
  ·exact Nat.zero_le _
  ·exact zF
  ·rintro n hI
   exact zL
  ·exact fun _ _ _ _ h => .inl h
  rintro n hJ
  dsimp only at hJ ⊢
  refine yS fun _ K10 => ?_
  refine yR ?_
  refine aa rfl (cm rfl rfl rfl) ?_
  refine yN ?_
  dsimp only [St.put]
  refine K10 _ ?_
  refine yS fun _ K11 => ?_
  refine aq rfl (fun hc => ?_) (fun hc => ?_)
  ·replace hc := of_decide_eq_true hc
   obtain ⟨l, hn⟩ : ∃ l, c.lines[n]? = some l := dn (by omega)
   have hlb := hwo l (fo hn)
   have hqb : gd p.text x (g9 p.text k c.lines n) ≤ 600 := by
    have hle := ufg ht hcx hn 0
    rw [← uff] at hle
    have := hwt (fq p.text x) (g9 p.text k c.lines n)
    unfold gd
    omega
   refine az ?_
   refine K11 _ ?_
   refine yS fun _ K12 => ?_
   refine bg ?_
   refine yS fun _ K13 => ?_
   refine yR ?_
   refine yM rfl rfl ?_
   refine aa rfl (bu rfl rfl rfl rfl (bp (by assumption)) (Enc.len _)) ?_
   refine yL rfl rfl rfl ?_
   refine yA rfl rfl ?_
   refine yA rfl rfl ?_
   refine yN ?_
   dsimp only [St.put]
   refine K13 _ ?_
   refine yS fun _ K14 => ?_
   refine fb [(0, none), (1, none), (2, none), (3, none), (4, none), (5, none), (6, none), (7, none), (8, none), (9, none), (10, none), (11, none)] (fun i => [11].contains i) (fun i => [10, 11].contains i) (fun i => [0, 2, 4, 5, 6, 8, 9].contains i) [] (by kernel_rfl) (by kernel_rfl) ?_
   refine ae rfl rfl rfl rfl (cr rfl rfl rfl) ?_
   try dsimp only [St.put]
   refine av rfl rfl rfl rfl (bz rfl rfl) ?_
   refine ae rfl rfl rfl rfl (cr rfl rfl rfl) ?_
   try dsimp only [St.put]
   refine av rfl rfl rfl rfl (bz rfl rfl) ?_
   refine xM rfl rfl rfl rfl rfl ?_
   refine xM rfl rfl rfl rfl rfl ?_
   try dsimp only [St.put]
   refine ae rfl rfl rfl rfl (bu rfl rfl rfl rfl (bp (by assumption)) (Enc.len _)) ?_
   try dsimp only [St.put]
   refine av rfl rfl rfl rfl (bz rfl rfl) ?_
   refine xM rfl rfl rfl rfl rfl ?_
   refine ae rfl rfl rfl rfl (bv rfl rfl rfl (by omega)) ?_
   refine il ?_
   try dsimp only [St.put]
   refine ia rfl rfl rfl (ct rfl rfl rfl (by decide) (by decide) zR (by decide) ⟨zD, ?_⟩)
   try dsimp only [St.put]
   refine fl rfl rfl rfl rfl (bi rfl rfl rfl (oe _ _ [_]) ?_)
   refine ij ?_
   dsimp only [St.put]
   refine K14 _ ?_
   refine aq rfl (fun hc => ?_) (fun hc => ?_)
   ·have hpg : inB ((f5 p.text k : Int) + (n : Int)) x.fr x.to = true := by rw [g8] at hc; exact hc
    refine yR ?_
    refine yM rfl rfl ?_
    refine yM rfl rfl ?_
    refine aa rfl (bk rfl rfl (List.length_map _)) ?_
    refine aa rfl (bv rfl rfl rfl (by omega)) ?_
    refine yA rfl rfl ?_
    refine yN ?_
    dsimp only [St.put]
    refine K12 _ ?_
    refine yR ?_
    refine aa rfl (bv rfl rfl rfl (by omega)) ?_
    refine yM rfl rfl ?_
    refine yN ?_
    dsimp only [St.put]
    have e := uan p.text x (k := k) hn
    first
    | (rw [hpg, cond_true] at e
       rw [show ((gd p.text x (g9 p.text k c.lines n) : Nat) : Int) + (l.length : Int) = ((gd p.text x (g9 p.text k c.lines (n + 1)) : Nat) : Int) by rw [e]; rfl]
       exact ⟨n + 1, by omega, by omega, ⟨⟨rfl, rfl⟩, zF, zB, zN, zX⟩⟩)
    | (rw [hpn, cond_false] at e
       rw [show gd p.text x (g9 p.text k c.lines n) = gd p.text x (g9 p.text k c.lines (n + 1)) from e.symm]
       exact ⟨n + 1, by omega, by omega, ⟨⟨rfl, rfl⟩, zF, zB, zN, zX⟩⟩)
   have hpn : inB ((f5 p.text k : Int) + (n : Int)) x.fr x.to = false := by rw [g8] at hc; exact hc
   refine az ?_
   refine K12 _ ?_
   refine yR ?_
   refine aa rfl (bv rfl rfl rfl (by omega)) ?_
   refine yM rfl rfl ?_
   refine yN ?_
   dsimp only [St.put]
   have e := uan p.text x (k := k) hn
   first
   | (rw [hpg, cond_true] at e
      rw [show ((gd p.text x (g9 p.text k c.lines n) : Nat) : Int) + (l.length : Int) = ((gd p.text x (g9 p.text k c.lines (n + 1)) : Nat) : Int) by rw [e]; rfl]
      exact ⟨n + 1, by omega, by omega, ⟨⟨rfl, rfl⟩, zF, zB, zN, zX⟩⟩)
   | (rw [hpn, cond_false] at e
      rw [show gd p.text x (g9 p.text k c.lines n) = gd p.text x (g9 p.text k c.lines (n + 1)) from e.symm]
      exact ⟨n + 1, by omega, by omega, ⟨⟨rfl, rfl⟩, zF, zB, zN, zX⟩⟩)
  replace hc := of_decide_eq_false hc
  refine c7 ?_
  refine K7 _ ?_
  refine yR ?_
  refine aa rfl (bv rfl rfl rfl (by omega)) ?_
  refine yM rfl rfl ?_
  refine yN ?_
  dsimp only [St.put]
  rw [ufi (n := n) hcx (by omega)]
  exact ⟨k + 1, by omega, by omega, ⟨⟨rfl, rfl⟩, zF, zB, zN, zX⟩⟩
 replace hc := of_decide_eq_false hc
 obtain rfl : k = p.text.length := by omega
 rw [List.take_length, uf2]
 refine c7 ?_
 refine K3 _ ?_
 refine yS fun _ K15 => ?_
 refine yR ?_
 try dsimp only [St.put]
 refine af rfl (zp (α := PlaceD) rfl ?_)
 refine yA rfl rfl ?_
 refine yN ?_
 dsimp only [St.put]
 refine K15 _ ?_
 refine yS fun _ K16 => ?_
 refine yS fun _ K17 => ?_
 refine yR ?_
 refine yF rfl rfl rfl rfl ?_
 refine yL rfl rfl rfl ?_
 refine aa rfl (bk rfl rfl (List.length_map _)) ?_
 refine yM rfl rfl ?_
 refine yN ?_
 dsimp only [St.put]
 refine K17 _ ?_
 refine bg ?_
 refine co 62 ?_
 refine zQ ?_
 refine dh ((ai G nx (ja Tryz.prog 61 (0) ((fun _ => none))))) zX ?_
 dsimp only
 refine dg (X := Nat) (fun k => k ≤ x.found.length) (fun k => x.found.length - k) (fun k => [(13, .any), (61, .v (.int .i64 (k : Int)))]) (fun k G' => (ai G nx (ja Tryz.prog 61 (k) ((gy fun q => decide (q ∈ x.found.take k)))))) 0 rfl ?_ ?_ ?_ ?_ ?_ ?_
 ·exact Nat.zero_le _
 ·exact zF
 ·rw [show (gy fun q => decide (q ∈ x.found.take 0)) = fun _ => none from ujp]
  exact zX
 ·rintro k hI
  exact (by (try dsimp only); repeat' (first | exact trivial | refine ⟨?_, ?_⟩ | exact .v | exact .any | refine .elem ?_ | exact ck _ _ | exact fy _ _ | exact et _ _ | exact f9 _ (by (try dsimp only); omega) | exact .box (by (try dsimp only); omega) | exact fm | exact dz | exact i0 (ne _ _) | refine ge ?_ ?_ | exact .arr (by (try dsimp only); omega) | exact .own (by (try dsimp only); omega) | exact .map (by (try dsimp only); omega) | exact fg _ | refine c6 ?_ ?_ | exact ck _ _))
 ·rintro k hI
  exact (by (repeat' (refine mc ?_ (by (try dsimp only); omega) ?_)); all_goals (first | exact me zS | (repeat' (first | exact trivial | refine ⟨?_, ?_⟩ | exact .v | exact .any | refine .elem ?_ | exact ck _ _ | exact fy _ _ | exact et _ _ | exact f9 _ (by (try dsimp only); omega) | exact .box (by (try dsimp only); omega) | exact fm | exact dz | exact i0 (ne _ _) | refine ge ?_ ?_ | exact .arr (by (try dsimp only); omega) | exact .own (by (try dsimp only); omega) | exact .map (by (try dsimp only); omega) | exact fg _ | refine c6 ?_ ?_ | exact ck _ _))))
 rintro k hK
 dsimp only at hK ⊢
 refine yS fun _ K18 => ?_
 refine yR ?_
 refine aa rfl (cm rfl rfl rfl) ?_
 refine yN ?_
 dsimp only [St.put]
 refine K18 _ ?_
 refine yS fun _ K19 => ?_
 refine aq rfl (fun hc => ?_) (fun hc => ?_)
 ·replace hc := of_decide_eq_true hc
  obtain ⟨q, hq⟩ : ∃ q, x.found[k]? = some q := dn (by omega)
  refine az ?_
  refine K19 _ ?_
  refine yS fun _ K20 => ?_
  refine bg ?_
  refine yS fun _ K21 => ?_
  refine yR ?_
  refine aa rfl (bu rfl rfl rfl rfl (bp (by assumption)) (Enc.len _)) ?_
  refine yE rfl rfl rfl ?_
  try dsimp only [St.put]
  refine af rfl (dp rfl ?_)
  try dsimp only [St.put]
  refine af rfl (c4 rfl rfl rfl zG rfl rfl (by rfl) ?_)
  refine yN ?_
  dsimp only [St.put]
  refine K21 _ ?_
  refine f4 (i := 13) rfl zG zC ?_
  dsimp only
  refine yR ?_
  refine yM rfl rfl ?_
  refine yE rfl rfl rfl ?_
  try dsimp only [St.put]
  refine af rfl (tm (q) rfl rfl rfl zG rfl (ujq hq) ?_)
  refine yN ?_
  dsimp only [St.put]
  refine K20 _ ?_
  refine yR ?_
  refine aa rfl (bv rfl rfl rfl (by omega)) ?_
  refine yM rfl rfl ?_
  refine yN ?_
  dsimp only [St.put]
  exact ⟨k + 1, by omega, by omega, ⟨⟨rfl, rfl⟩, zF, zB, zN, zX⟩⟩
 replace hc := of_decide_eq_false hc
 obtain rfl : k = x.found.length := by omega
 rw [List.take_length, show (fun q => decide (q ∈ x.found)) = gm x.found (x.well.take 0) from funext fun q => (ujr x.found q).symm]
 refine c7 ?_
 refine K16 _ ?_
 refine yS fun _ K22 => ?_
 by_cases hB : eg p.text x = []
 ·refine yR ?_
  refine yA rfl rfl ?_
  refine yN ?_
  dsimp only [St.put]
  refine K22 _ ?_
  refine yS fun _ K23 => ?_
  refine yS fun _ K24 => ?_
  refine yR ?_
  refine yF rfl rfl rfl rfl ?_
  refine yL rfl rfl rfl ?_
  refine aa rfl (bk rfl rfl (List.length_map _)) ?_
  refine yM rfl rfl ?_
  refine yN ?_
  dsimp only [St.put]
  refine K24 _ ?_
  refine bg ?_
  refine co 72 ?_
  refine zQ ?_
  refine dh ((ai G nx (ja Tryz.prog 61 (x.found.length) ((gy (gm x.found (x.well.take 0))))))) zX ?_
  dsimp only
  refine dg (X := Nat) (fun k => k ≤ x.well.length) (fun k => x.well.length - k) (fun k => [(16, .any), (71, .v (.int .i64 (k : Int)))]) (fun k G' => (ai G nx (ja Tryz.prog 61 ((x.found.length + k)) ((gy (gm x.found (x.well.take k))))))) 0 rfl ?_ ?_ ?_ ?_ ?_ ?_
  ·exact Nat.zero_le _
  ·exact zF
  ·exact zX
  ·rintro k hI
   exact (by (try dsimp only); repeat' (first | exact trivial | refine ⟨?_, ?_⟩ | exact .v | exact .any | refine .elem ?_ | exact ck _ _ | exact fy _ _ | exact et _ _ | exact f9 _ (by (try dsimp only); omega) | exact .box (by (try dsimp only); omega) | exact fm | exact dz | exact i0 (ne _ _) | refine ge ?_ ?_ | exact .arr (by (try dsimp only); omega) | exact .own (by (try dsimp only); omega) | exact .map (by (try dsimp only); omega) | exact fg _ | refine c6 ?_ ?_ | exact ck _ _))
  ·rintro k hI
   exact (by (repeat' (refine mc ?_ (by (try dsimp only); omega) ?_)); all_goals (first | exact me zS | (repeat' (first | exact trivial | refine ⟨?_, ?_⟩ | exact .v | exact .any | refine .elem ?_ | exact ck _ _ | exact fy _ _ | exact et _ _ | exact f9 _ (by (try dsimp only); omega) | exact .box (by (try dsimp only); omega) | exact fm | exact dz | exact i0 (ne _ _) | refine ge ?_ ?_ | exact .arr (by (try dsimp only); omega) | exact .own (by (try dsimp only); omega) | exact .map (by (try dsimp only); omega) | exact fg _ | refine c6 ?_ ?_ | exact ck _ _))))
  rintro k hK
  dsimp only at hK ⊢
  refine yS fun _ K25 => ?_
  refine yR ?_
  refine aa rfl (cm rfl rfl rfl) ?_
  refine yN ?_
  dsimp only [St.put]
  refine K25 _ ?_
  refine yS fun _ K26 => ?_
  refine aq rfl (fun hc => ?_) (fun hc => ?_)
  ·replace hc := of_decide_eq_true hc
   obtain ⟨q, hq⟩ : ∃ q, x.well[k]? = some q := dn (by omega)
   have hbt := uet x.found x.well k
   refine az ?_
   refine K26 _ ?_
   refine yS fun _ K27 => ?_
   refine bg ?_
   refine yS fun _ K28 => ?_
   refine yR ?_
   refine aa rfl (bu rfl rfl rfl rfl (bp (by assumption)) (Enc.len _)) ?_
   refine yE rfl rfl rfl ?_
   try dsimp only [St.put]
   refine af rfl (dp rfl ?_)
   try dsimp only [St.put]
   refine af rfl (c4 rfl rfl rfl zG rfl rfl (by rfl) ?_)
   refine yN ?_
   dsimp only [St.put]
   refine K28 _ ?_
   refine f4 (i := 16) rfl zG zC ?_
   dsimp only
   refine yS fun _ K29 => ?_
   refine yR ?_
   refine yM rfl rfl ?_
   refine yE rfl rfl rfl ?_
   try dsimp only [St.put]
   refine ci rfl (uo q rfl rfl zG trivial rfl (uck _ _)) ?_
   refine yN ?_
   dsimp only [St.put]
   refine K29 _ ?_
   refine aq rfl (fun hc => ?_) (fun hc => ?_)
   ·have hin : q ∈ x.found := by
     rw [ve hnd2 hq] at hc
     exact of_decide_eq_true hc
    refine yS fun _ K30 => ?_
    refine yR ?_
    refine yM rfl rfl ?_
    refine yE rfl rfl rfl ?_
    try dsimp only [St.put]
    refine af rfl (ct rfl rfl rfl (by decide) (by decide) zR (by decide) ?_)
    try dsimp only [St.put]
    refine af rfl (wt rfl rfl (.inr rfl) rfl (show 1 ≤ 3 by decide) (fun r hr => by rw [List.mem_singleton] at hr; subst hr; rfl) (by simp) (by simp) ?_)
    refine yA rfl rfl ?_
    refine yN ?_
    dsimp only [St.put]
    refine K30 _ ?_
    refine yR ?_
    refine yM rfl rfl ?_
    refine yE rfl rfl rfl ?_
    try dsimp only [St.put]
    refine af rfl (uej q rfl rfl zG rfl (ucj hnd2 hq hin) ?_)
    refine yN ?_
    dsimp only [St.put]
    refine K27 _ ?_
    refine yR ?_
    refine aa rfl (bv rfl rfl rfl (by omega)) ?_
    refine yM rfl rfl ?_
    refine yN ?_
    dsimp only [St.put]
    first
    | exact absurd (show q ∈ x.found from hin) (uer hp hB hq)
    | exact ⟨k + 1, by omega, by omega, ⟨⟨rfl, rfl⟩, zF, zB, zN, zX⟩⟩
   have hout : q ∉ x.found := by
    rw [ve hnd2 hq] at hc
    exact of_decide_eq_false hc
   refine yR ?_
   refine yM rfl rfl ?_
   refine yE rfl rfl rfl ?_
   try dsimp only [St.put]
   refine af rfl (tm (q) rfl rfl rfl zG rfl (uci hnd2 hq hout) ?_)
   refine yN ?_
   dsimp only [St.put]
   refine K27 _ ?_
   refine yR ?_
   refine aa rfl (bv rfl rfl rfl (by omega)) ?_
   refine yM rfl rfl ?_
   refine yN ?_
   dsimp only [St.put]
   first
   | exact absurd (show q ∈ x.found from hin) (uer hp hB hq)
   | exact ⟨k + 1, by omega, by omega, ⟨⟨rfl, rfl⟩, zF, zB, zN, zX⟩⟩
  replace hc := of_decide_eq_false hc
  obtain rfl : k = x.well.length := by omega
  refine c7 ?_
  refine K23 _ ?_
  refine yS fun _ K31 => ?_
  refine yR ?_
  refine yM rfl rfl ?_
  try dsimp only [St.put]
  refine af rfl (bi rfl rfl rfl (umb) ?_)
  refine yA rfl rfl ?_
  refine yN ?_
  dsimp only [St.put]
  refine K31 _ ?_
  refine ue7 17 61 3 rfl (by decide) ?_
  dsimp only
  refine yS fun _ K32 => ?_
  refine yS fun _ K33 => ?_
  refine yR ?_
  refine yM rfl rfl ?_
  try dsimp only [St.put]
  refine af rfl (uef rfl rfl zG fun r β cl ks hnd hks0 hinj => ?_)
  refine yN ?_
  dsimp only [St.put]
  refine K33 _ ?_
  rw [hmw] at hks0
  rw [hmw]
  refine bg ?_
  refine co 91 ?_
  refine zQ ?_
  refine dh (ai (ai (ai (ai G nx (oq Tryz.prog 61 (x.found.length + x.well.length) (gy (gm x.found x.well)) β cl)) (nx + 1) (.arr 0 0 61 3 0 [])) (nx + 1 + 1) (.raw 0 (.mapIter (some r) cl (jn β ([] : List PlaceD)) cl))) (nx + 1 + 1 + 1) (.fact (.map (some r)) (.map nx))) zX ?_
  dsimp only
  refine dg (X := List PlaceD × Nat × Nat × Nat) (fun y => (∀ z ∈ y.1, z ∈ ks) ∧ y.1.Nodup) (fun y => sx ks y.1) (fun y => [(17, .own (nx + 1) y.2.2.1 (([] : List PlaceD) ++ y.1).length), (18, .any)]) (fun y G' => (ai (ai (ai (ai G nx (oq Tryz.prog 61 ((x.found.length + x.well.length)) (gy ((gm x.found x.well))) β cl)) ((nx + 1)) (.arr y.2.2.1 y.2.2.2 61 3 ((([] : List PlaceD) ++ y.1)).length (dc ((([] : List PlaceD) ++ y.1))))) ((nx + 1 + 1)) (.raw y.2.1 (.mapIter (some r) cl (jn β y.1) cl))) ((nx + 1 + 1 + 1)) (.fact (.map (some r)) (.map nx)))) ([], 0, 0, 0) rfl ?_ ?_ ?_ ?_ ?_ ?_
  ·exact ⟨fun z hz => by simp at hz, List.nodup_nil⟩
  ·exact zF
  ·exact zX
  ·rintro ⟨done, wi, vl, wv⟩ hI
   exact (by (try dsimp only); repeat' (first | exact trivial | refine ⟨?_, ?_⟩ | exact .v | exact .any | refine .elem ?_ | exact ck _ _ | exact fy _ _ | exact et _ _ | exact f9 _ (by (try dsimp only); omega) | exact .box (by (try dsimp only); omega) | exact fm | exact dz | exact wc (ne _ _) | exact fg _ | refine ge ?_ ?_ | exact .arr (by (try dsimp only); omega) | exact .own (by (try dsimp only); omega) | exact .map (by (try dsimp only); omega) | exact fg _ | refine c6 ?_ ?_ | exact ck _ _))
  ·rintro ⟨done, wi, vl, wv⟩ hI
   exact (by (repeat' (refine mc ?_ (by (try dsimp only); omega) ?_)); all_goals (first | exact me zS | (repeat' (first | exact trivial | refine ⟨?_, ?_⟩ | exact .v | exact .any | refine .elem ?_ | exact ck _ _ | exact fy _ _ | exact et _ _ | exact f9 _ (by (try dsimp only); omega) | exact .box (by (try dsimp only); omega) | exact fm | exact dz | exact wc (ne _ _) | exact fg _ | refine ge ?_ ?_ | exact .arr (by (try dsimp only); omega) | exact .own (by (try dsimp only); omega) | exact .map (by (try dsimp only); omega) | exact fg _ | refine c6 ?_ ?_ | exact ck _ _))))
  rintro ⟨done, wi, vl, wv⟩ hI8
  dsimp only at hI8 ⊢
  refine yS fun _ K34 => ?_
  refine yR ?_
  try dsimp only [St.put]
  refine af rfl (ueg (done := done) rfl rfl zG zG zG (hks0) (hinj) (hI8.1) (fun hend => ?_) (fun y c hym hyk hyd => ?_))
  ·have hdl := vd hp hI8.2 (fun q hq => onceM_ne.1 ((hks0 q).2 (hI8.1 q hq)))
   have hdk : ∀ q, q ∈ done ↔ gm x.found x.well q = true := fun q => ⟨fun hq => onceM_ne.1 ((hks0 q).2 (hI8.1 q hq)), fun hq => hend q ((hks0 q).1 (onceM_ne.2 hq))⟩
   have hpb := uch hp ht (fun q hq => (hdk q).1 hq)
   refine yX rfl rfl rfl rfl ?_
   refine yN ?_
   dsimp only [St.put]
   refine K34 _ ?_
   refine yS fun _ K35 => ?_
   refine aq rfl (fun h => by cases h) (fun _ => ?_)
   refine c7 ?_
   refine K32 _ ?_
   refine yS fun _ K36 => ?_
   have hpb2 : ∀ y ∈ ([] : List PlaceD) ++ done, PBd9 y := fun y hy => hpb y (by simpa using hy)
   refine yR ?_
   refine yM rfl rfl ?_
   try dsimp only [St.put]
   refine af rfl (uee ua7 PBd9 ma rfl rfl rfl rfl zG rfl rfl rfl (fun y hy => hy.plain) hpb2 (by first | (rw [List.length_append]; omega) | (simp only [List.nil_append]; omega)) (fun a b _ _ => ye a b _ _) ucf (fun ys hperm hsort => ?_))
   refine yN ?_
   dsimp only [St.put]
   have hlen := hperm.length_eq
   rw [← hB] at hperm hlen
   obtain rfl := ufe hp hI8.2 hdk hperm hsort
   refine K36 _ ?_
   refine tu 14 (lst ([] : List PlaceD)) rfl Wk.tok ?_
   refine uab 17 (dl p.text x) rfl zG rfl rfl (by rw [hlen, hB]) ?_
   dsimp only
   refine ue4 [(0, none), (1, none), (2, none), (3, none), (4, none), (5, none), (6, none), (7, none), (10, none), (11, none), (12, none), (13, none), (14, none), (17, none), (18, none), (19, none), (20, none), (21, none)] (fun i => [23, 26, 29, 32].contains i) (fun i => [0, 1, 2, 3, 4, 5, 7, 10, 11, 12, 14, 17, 18, 19, 21].contains i) 15 (rl [8, 2, 5, 2, 5, 11]) [nB] (by kernel_rfl) (by kernel_rfl) ?_
   refine xM rfl rfl rfl rfl rfl ?_
   refine xM rfl rfl rfl rfl rfl ?_
   refine xM rfl rfl rfl rfl rfl ?_
   refine xM rfl rfl rfl rfl rfl ?_
   refine ae rfl rfl rfl rfl (cp rfl rfl) ?_
   refine ae rfl rfl rfl rfl (bn rfl rfl) ?_
   try dsimp only [St.put]
   refine av rfl rfl rfl rfl (e9 rfl rfl zG (by simp) (by first | rfl | assumption)) ?_
   refine xM rfl rfl rfl rfl rfl ?_
   refine xM rfl rfl rfl rfl rfl ?_
   refine ae rfl rfl rfl rfl (cp rfl rfl) ?_
   refine ae rfl rfl rfl rfl (bn rfl rfl) ?_
   try dsimp only [St.put]
   refine av rfl rfl rfl rfl (e9 rfl rfl zG (by simp) (by first | rfl | assumption)) ?_
   refine xM rfl rfl rfl rfl rfl ?_
   refine xM rfl rfl rfl rfl rfl ?_
   refine ae rfl rfl rfl rfl (cp rfl rfl) ?_
   refine ae rfl rfl rfl rfl (bn rfl rfl) ?_
   try dsimp only [St.put]
   refine av rfl rfl rfl rfl (e9 rfl rfl zG (by simp) (by first | rfl | assumption)) ?_
   refine xM rfl rfl rfl rfl rfl ?_
   refine ba ⟨zD, ?_⟩
   refine ax [8, 15, 22] (by kernel_rfl) (by simp) ?_
   refine am ?_ ?_
   ·try dsimp only [St.put]
    refine cj rfl rfl rfl (ct rfl rfl rfl (by decide) (by decide) zR (by decide) ⟨zD, ?_⟩)
    refine ax [9, 15, 22] (by kernel_rfl) (by simp) ?_
    refine am ?_ ?_
    ·try dsimp only [St.put]
     refine cj rfl rfl rfl (ce ([(ec p.text x : Int)]) rfl rfl zG zE rfl rfl zA ⟨zD, ?_⟩ zA)
     refine ax [15, 22] (by kernel_rfl) (by simp) ?_
     refine am ?_ ?_
     ·try dsimp only [St.put]
      refine cj rfl rfl rfl (ct rfl rfl rfl (by decide) (by decide) zR (by decide) ⟨zD, ?_⟩)
      refine ax [16, 22] (by kernel_rfl) (by simp) ?_
      refine am ?_ ?_
      ·try dsimp only [St.put]
       refine cj rfl rfl rfl (ce ([dl p.text x]) rfl rfl zG zE rfl rfl zA ⟨zD, ?_⟩ zA)
       refine ax [22] (by kernel_rfl) (by simp) ?_
       refine am ?_ ?_
       ·try dsimp only [St.put]
        refine cj rfl rfl rfl (ct rfl rfl rfl (by decide) (by decide) zR (by decide) ⟨zD, ?_⟩)
        refine ax [23] (by kernel_rfl) (by simp) ?_
        refine am ?_ ?_
        ·try dsimp only [St.put]
         refine bw rfl rfl rfl rfl (ce ([([] : List PlaceD)]) rfl rfl zG zE rfl rfl zA ?_ zA)
         refine cy [(24, none), (25, none)] 7 (rl [26, 7]) (by kernel_rfl) ?_
         refine ae rfl rfl rfl rfl (cp rfl rfl) ?_
         refine ae rfl rfl rfl rfl (bn rfl rfl) ?_
         refine ba ⟨zD, ?_⟩
         refine ax [26] (by kernel_rfl) (by simp) ?_
         refine am ?_ ?_
         ·try dsimp only [St.put]
          refine bw rfl rfl rfl rfl (cn rfl rfl rfl zG (by constructor) rfl zO ?_)
          refine cy [(27, none), (28, none)] 4 (rl [29, 4]) (by kernel_rfl) ?_
          refine ae rfl rfl rfl rfl (cp rfl rfl) ?_
          refine ae rfl rfl rfl rfl (bn rfl rfl) ?_
          refine ba ⟨zD, ?_⟩
          refine ax [29] (by kernel_rfl) (by simp) ?_
          refine am ?_ ?_
          ·try dsimp only [St.put]
           refine bw rfl rfl rfl rfl (cn rfl rfl rfl zG (by constructor) rfl zO ?_)
           refine cy [(30, none), (31, none)] 1 (rl [32, 1]) (by kernel_rfl) ?_
           refine ae rfl rfl rfl rfl (cp rfl rfl) ?_
           refine ae rfl rfl rfl rfl (bn rfl rfl) ?_
           refine ba ⟨zD, ?_⟩
           refine ax [32] (by kernel_rfl) (by simp) ?_
           refine am ?_ ?_
           ·try dsimp only [St.put]
            refine bw rfl rfl rfl rfl (cn rfl rfl rfl zG (by constructor) rfl zO ?_)
            dsimp only [St.put]
            refine gq (by kernel_rfl) ?_
            rw [hB]
            refine gn rfl (.inl rfl) zN (gl zG zG zG zG fun n o q1 q2 q3 q4 h => ?_)
            have hn := hlt n o h
            (try dsimp only)
            repeat (first | exact h | rw [cv (by omega)] | rw [e8 (by omega)])
           exact aw
          exact aw
         exact aw
        exact aw
       exact aw
      refine am ?_ ?_
      ·try dsimp only [St.put]
       refine cj rfl rfl rfl (ct rfl rfl rfl (by decide) (by decide) zR (by decide) ⟨zD, ?_⟩)
       refine ax [16] (by kernel_rfl) (by simp) ?_
       refine am ?_ ?_
       ·try dsimp only [St.put]
        refine cj rfl rfl rfl (ce ([dl p.text x]) rfl rfl zG zE rfl rfl zA ⟨zD, ?_⟩ zA)
        refine ax [23] (by kernel_rfl) (by simp) ?_
        refine am ?_ ?_
        ·try dsimp only [St.put]
         refine bw rfl rfl rfl rfl (ce ([([] : List PlaceD)]) rfl rfl zG zE rfl rfl zA ?_ zA)
         refine cy [(24, none), (25, none)] 7 (rl [26, 7]) (by kernel_rfl) ?_
         refine ae rfl rfl rfl rfl (cp rfl rfl) ?_
         refine ae rfl rfl rfl rfl (bn rfl rfl) ?_
         refine ba ⟨zD, ?_⟩
         refine ax [26] (by kernel_rfl) (by simp) ?_
         refine am ?_ ?_
         ·try dsimp only [St.put]
          refine bw rfl rfl rfl rfl (cn rfl rfl rfl zG (by constructor) rfl zO ?_)
          refine cy [(27, none), (28, none)] 4 (rl [29, 4]) (by kernel_rfl) ?_
          refine ae rfl rfl rfl rfl (cp rfl rfl) ?_
          refine ae rfl rfl rfl rfl (bn rfl rfl) ?_
          refine ba ⟨zD, ?_⟩
          refine ax [29] (by kernel_rfl) (by simp) ?_
          refine am ?_ ?_
          ·try dsimp only [St.put]
           refine bw rfl rfl rfl rfl (cn rfl rfl rfl zG (by constructor) rfl zO ?_)
           refine cy [(30, none), (31, none)] 1 (rl [32, 1]) (by kernel_rfl) ?_
           refine ae rfl rfl rfl rfl (cp rfl rfl) ?_
           refine ae rfl rfl rfl rfl (bn rfl rfl) ?_
           refine ba ⟨zD, ?_⟩
           refine ax [32] (by kernel_rfl) (by simp) ?_
           refine am ?_ ?_
           ·try dsimp only [St.put]
            refine bw rfl rfl rfl rfl (cn rfl rfl rfl zG (by constructor) rfl zO ?_)
            dsimp only [St.put]
            refine gq (by kernel_rfl) ?_
            rw [hB]
            refine gn rfl (.inl rfl) zN (gl zG zG zG zG fun n o q1 q2 q3 q4 h => ?_)
            have hn := hlt n o h
            (try dsimp only)
            repeat (first | exact h | rw [cv (by omega)] | rw [e8 (by omega)])
           exact aw
          exact aw
         exact aw
        exact aw
       exact aw
      exact aw
     refine am ?_ ?_
     ·try dsimp only [St.put]
      refine cj rfl rfl rfl (ct rfl rfl rfl (by decide) (by decide) zR (by decide) ⟨zD, ?_⟩)
      refine ax [15] (by kernel_rfl) (by simp) ?_
      refine am ?_ ?_
      ·try dsimp only [St.put]
       refine cj rfl rfl rfl (ct rfl rfl rfl (by decide) (by decide) zR (by decide) ⟨zD, ?_⟩)
       refine ax [16] (by kernel_rfl) (by simp) ?_
       refine am ?_ ?_
       ·try dsimp only [St.put]
        refine cj rfl rfl rfl (ce ([dl p.text x]) rfl rfl zG zE rfl rfl zA ⟨zD, ?_⟩ zA)
        refine ax [23] (by kernel_rfl) (by simp) ?_
        refine am ?_ ?_
        ·try dsimp only [St.put]
         refine bw rfl rfl rfl rfl (ce ([([] : List PlaceD)]) rfl rfl zG zE rfl rfl zA ?_ zA)
         refine cy [(24, none), (25, none)] 7 (rl [26, 7]) (by kernel_rfl) ?_
         refine ae rfl rfl rfl rfl (cp rfl rfl) ?_
         refine ae rfl rfl rfl rfl (bn rfl rfl) ?_
         refine ba ⟨zD, ?_⟩
         refine ax [26] (by kernel_rfl) (by simp) ?_
         refine am ?_ ?_
         ·try dsimp only [St.put]
          refine bw rfl rfl rfl rfl (cn rfl rfl rfl zG (by constructor) rfl zO ?_)
          refine cy [(27, none), (28, none)] 4 (rl [29, 4]) (by kernel_rfl) ?_
          refine ae rfl rfl rfl rfl (cp rfl rfl) ?_
          refine ae rfl rfl rfl rfl (bn rfl rfl) ?_
          refine ba ⟨zD, ?_⟩
          refine ax [29] (by kernel_rfl) (by simp) ?_
          refine am ?_ ?_
          ·try dsimp only [St.put]
           refine bw rfl rfl rfl rfl (cn rfl rfl rfl zG (by constructor) rfl zO ?_)
           refine cy [(30, none), (31, none)] 1 (rl [32, 1]) (by kernel_rfl) ?_
           refine ae rfl rfl rfl rfl (cp rfl rfl) ?_
           refine ae rfl rfl rfl rfl (bn rfl rfl) ?_
           refine ba ⟨zD, ?_⟩
           refine ax [32] (by kernel_rfl) (by simp) ?_
           refine am ?_ ?_
           ·try dsimp only [St.put]
            refine bw rfl rfl rfl rfl (cn rfl rfl rfl zG (by constructor) rfl zO ?_)
            dsimp only [St.put]
            refine gq (by kernel_rfl) ?_
            rw [hB]
            refine gn rfl (.inl rfl) zN (gl zG zG zG zG fun n o q1 q2 q3 q4 h => ?_)
            have hn := hlt n o h
            (try dsimp only)
            repeat (first | exact h | rw [cv (by omega)] | rw [e8 (by omega)])
           exact aw
          exact aw
         exact aw
        exact aw
       exact aw
      exact aw
     exact aw
    refine am ?_ ?_
    ·try dsimp only [St.put]
     refine cj rfl rfl rfl (ct rfl rfl rfl (by decide) (by decide) zR (by decide) ⟨zD, ?_⟩)
     refine ax [9, 22] (by kernel_rfl) (by simp) ?_
     refine am ?_ ?_
     ·try dsimp only [St.put]
      refine cj rfl rfl rfl (ce ([(ec p.text x : Int)]) rfl rfl zG zE rfl rfl zA ⟨zD, ?_⟩ zA)
      refine ax [16, 22] (by kernel_rfl) (by simp) ?_
      refine am ?_ ?_
      ·try dsimp only [St.put]
       refine cj rfl rfl rfl (ce ([dl p.text x]) rfl rfl zG zE rfl rfl zA ⟨zD, ?_⟩ zA)
       refine ax [22] (by kernel_rfl) (by simp) ?_
       refine am ?_ ?_
       ·try dsimp only [St.put]
        refine cj rfl rfl rfl (ct rfl rfl rfl (by decide) (by decide) zR (by decide) ⟨zD, ?_⟩)
        refine ax [23] (by kernel_rfl) (by simp) ?_
        refine am ?_ ?_
        ·try dsimp only [St.put]
         refine bw rfl rfl rfl rfl (ce ([([] : List PlaceD)]) rfl rfl zG zE rfl rfl zA ?_ zA)
         refine cy [(24, none), (25, none)] 7 (rl [26, 7]) (by kernel_rfl) ?_
         refine ae rfl rfl rfl rfl (cp rfl rfl) ?_
         refine ae rfl rfl rfl rfl (bn rfl rfl) ?_
         refine ba ⟨zD, ?_⟩
         refine ax [26] (by kernel_rfl) (by simp) ?_
         refine am ?_ ?_
         ·try dsimp only [St.put]
          refine bw rfl rfl rfl rfl (cn rfl rfl rfl zG (by constructor) rfl zO ?_)
          refine cy [(27, none), (28, none)] 4 (rl [29, 4]) (by kernel_rfl) ?_
          refine ae rfl rfl rfl rfl (cp rfl rfl) ?_
          refine ae rfl rfl rfl rfl (bn rfl rfl) ?_
          refine ba ⟨zD, ?_⟩
          refine ax [29] (by kernel_rfl) (by simp) ?_
          refine am ?_ ?_
          ·try dsimp only [St.put]
           refine bw rfl rfl rfl rfl (cn rfl rfl rfl zG (by constructor) rfl zO ?_)
           refine cy [(30, none), (31, none)] 1 (rl [32, 1]) (by kernel_rfl) ?_
           refine ae rfl rfl rfl rfl (cp rfl rfl) ?_
           refine ae rfl rfl rfl rfl (bn rfl rfl) ?_
           refine ba ⟨zD, ?_⟩
           refine ax [32] (by kernel_rfl) (by simp) ?_
           refine am ?_ ?_
           ·try dsimp only [St.put]
            refine bw rfl rfl rfl rfl (cn rfl rfl rfl zG (by constructor) rfl zO ?_)
            dsimp only [St.put]
            refine gq (by kernel_rfl) ?_
            rw [hB]
            refine gn rfl (.inl rfl) zN (gl zG zG zG zG fun n o q1 q2 q3 q4 h => ?_)
            have hn := hlt n o h
            (try dsimp only)
            repeat (first | exact h | rw [cv (by omega)] | rw [e8 (by omega)])
           exact aw
          exact aw
         exact aw
        exact aw
       exact aw
      refine am ?_ ?_
      ·try dsimp only [St.put]
       refine cj rfl rfl rfl (ct rfl rfl rfl (by decide) (by decide) zR (by decide) ⟨zD, ?_⟩)
       refine ax [16] (by kernel_rfl) (by simp) ?_
       refine am ?_ ?_
       ·try dsimp only [St.put]
        refine cj rfl rfl rfl (ce ([dl p.text x]) rfl rfl zG zE rfl rfl zA ⟨zD, ?_⟩ zA)
        refine ax [23] (by kernel_rfl) (by simp) ?_
        refine am ?_ ?_
        ·try dsimp only [St.put]
         refine bw rfl rfl rfl rfl (ce ([([] : List PlaceD)]) rfl rfl zG zE rfl rfl zA ?_ zA)
         refine cy [(24, none), (25, none)] 7 (rl [26, 7]) (by kernel_rfl) ?_
         refine ae rfl rfl rfl rfl (cp rfl rfl) ?_
         refine ae rfl rfl rfl rfl (bn rfl rfl) ?_
         refine ba ⟨zD, ?_⟩
         refine ax [26] (by kernel_rfl) (by simp) ?_
         refine am ?_ ?_
         ·try dsimp only [St.put]
          refine bw rfl rfl rfl rfl (cn rfl rfl rfl zG (by constructor) rfl zO ?_)
          refine cy [(27, none), (28, none)] 4 (rl [29, 4]) (by kernel_rfl) ?_
          refine ae rfl rfl rfl rfl (cp rfl rfl) ?_
          refine ae rfl rfl rfl rfl (bn rfl rfl) ?_
          refine ba ⟨zD, ?_⟩
          refine ax [29] (by kernel_rfl) (by simp) ?_
          refine am ?_ ?_
          ·try dsimp only [St.put]
           refine bw rfl rfl rfl rfl (cn rfl rfl rfl zG (by constructor) rfl zO ?_)
           refine cy [(30, none), (31, none)] 1 (rl [32, 1]) (by kernel_rfl) ?_
           refine ae rfl rfl rfl rfl (cp rfl rfl) ?_
           refine ae rfl rfl rfl rfl (bn rfl rfl) ?_
           refine ba ⟨zD, ?_⟩
           refine ax [32] (by kernel_rfl) (by simp) ?_
           refine am ?_ ?_
           ·try dsimp only [St.put]
            refine bw rfl rfl rfl rfl (cn rfl rfl rfl zG (by constructor) rfl zO ?_)
            dsimp only [St.put]
            refine gq (by kernel_rfl) ?_
            rw [hB]
            refine gn rfl (.inl rfl) zN (gl zG zG zG zG fun n o q1 q2 q3 q4 h => ?_)
            have hn := hlt n o h
            (try dsimp only)
            repeat (first | exact h | rw [cv (by omega)] | rw [e8 (by omega)])
           exact aw
          exact aw
         exact aw
        exact aw
       exact aw
      exact aw
     refine am ?_ ?_
     ·try dsimp only [St.put]
      refine cj rfl rfl rfl (ct rfl rfl rfl (by decide) (by decide) zR (by decide) ⟨zD, ?_⟩)
      refine ax [9] (by kernel_rfl) (by simp) ?_
      refine am ?_ ?_
      ·try dsimp only [St.put]
       refine cj rfl rfl rfl (ce ([(ec p.text x : Int)]) rfl rfl zG zE rfl rfl zA ⟨zD, ?_⟩ zA)
       refine ax [16] (by kernel_rfl) (by simp) ?_
       refine am ?_ ?_
       ·try dsimp only [St.put]
        refine cj rfl rfl rfl (ce ([dl p.text x]) rfl rfl zG zE rfl rfl zA ⟨zD, ?_⟩ zA)
        refine ax [23] (by kernel_rfl) (by simp) ?_
        refine am ?_ ?_
        ·try dsimp only [St.put]
         refine bw rfl rfl rfl rfl (ce ([([] : List PlaceD)]) rfl rfl zG zE rfl rfl zA ?_ zA)
         refine cy [(24, none), (25, none)] 7 (rl [26, 7]) (by kernel_rfl) ?_
         refine ae rfl rfl rfl rfl (cp rfl rfl) ?_
         refine ae rfl rfl rfl rfl (bn rfl rfl) ?_
         refine ba ⟨zD, ?_⟩
         refine ax [26] (by kernel_rfl) (by simp) ?_
         refine am ?_ ?_
         ·try dsimp only [St.put]
          refine bw rfl rfl rfl rfl (cn rfl rfl rfl zG (by constructor) rfl zO ?_)
          refine cy [(27, none), (28, none)] 4 (rl [29, 4]) (by kernel_rfl) ?_
          refine ae rfl rfl rfl rfl (cp rfl rfl) ?_
          refine ae rfl rfl rfl rfl (bn rfl rfl) ?_
          refine ba ⟨zD, ?_⟩
          refine ax [29] (by kernel_rfl) (by simp) ?_
          refine am ?_ ?_
          ·try dsimp only [St.put]
           refine bw rfl rfl rfl rfl (cn rfl rfl rfl zG (by constructor) rfl zO ?_)
           refine cy [(30, none), (31, none)] 1 (rl [32, 1]) (by kernel_rfl) ?_
           refine ae rfl rfl rfl rfl (cp rfl rfl) ?_
           refine ae rfl rfl rfl rfl (bn rfl rfl) ?_
           refine ba ⟨zD, ?_⟩
           refine ax [32] (by kernel_rfl) (by simp) ?_
           refine am ?_ ?_
           ·try dsimp only [St.put]
            refine bw rfl rfl rfl rfl (cn rfl rfl rfl zG (by constructor) rfl zO ?_)
            dsimp only [St.put]
            refine gq (by kernel_rfl) ?_
            rw [hB]
            refine gn rfl (.inl rfl) zN (gl zG zG zG zG fun n o q1 q2 q3 q4 h => ?_)
            have hn := hlt n o h
            (try dsimp only)
            repeat (first | exact h | rw [cv (by omega)] | rw [e8 (by omega)])
           exact aw
          exact aw
         exact aw
        exact aw
       exact aw
      exact aw
     exact aw
    refine am ?_ ?_
    ·try dsimp only [St.put]
     refine cj rfl rfl rfl (ct rfl rfl rfl (by decide) (by decide) zR (by decide) ⟨zD, ?_⟩)
     refine ax [9, 15] (by kernel_rfl) (by simp) ?_
     refine am ?_ ?_
     ·try dsimp only [St.put]
      refine cj rfl rfl rfl (ce ([(ec p.text x : Int)]) rfl rfl zG zE rfl rfl zA ⟨zD, ?_⟩ zA)
      refine ax [15] (by kernel_rfl) (by simp) ?_
      refine am ?_ ?_
      ·try dsimp only [St.put]
       refine cj rfl rfl rfl (ct rfl rfl rfl (by decide) (by decide) zR (by decide) ⟨zD, ?_⟩)
       refine ax [16] (by kernel_rfl) (by simp) ?_
       refine am ?_ ?_
       ·try dsimp only [St.put]
        refine cj rfl rfl rfl (ce ([dl p.text x]) rfl rfl zG zE rfl rfl zA ⟨zD, ?_⟩ zA)
        refine ax [23] (by kernel_rfl) (by simp) ?_
        refine am ?_ ?_
        ·try dsimp only [St.put]
         refine bw rfl rfl rfl rfl (ce ([([] : List PlaceD)]) rfl rfl zG zE rfl rfl zA ?_ zA)
         refine cy [(24, none), (25, none)] 7 (rl [26, 7]) (by kernel_rfl) ?_
         refine ae rfl rfl rfl rfl (cp rfl rfl) ?_
         refine ae rfl rfl rfl rfl (bn rfl rfl) ?_
         refine ba ⟨zD, ?_⟩
         refine ax [26] (by kernel_rfl) (by simp) ?_
         refine am ?_ ?_
         ·try dsimp only [St.put]
          refine bw rfl rfl rfl rfl (cn rfl rfl rfl zG (by constructor) rfl zO ?_)
          refine cy [(27, none), (28, none)] 4 (rl [29, 4]) (by kernel_rfl) ?_
          refine ae rfl rfl rfl rfl (cp rfl rfl) ?_
          refine ae rfl rfl rfl rfl (bn rfl rfl) ?_
          refine ba ⟨zD, ?_⟩
          refine ax [29] (by kernel_rfl) (by simp) ?_
          refine am ?_ ?_
          ·try dsimp only [St.put]
           refine bw rfl rfl rfl rfl (cn rfl rfl rfl zG (by constructor) rfl zO ?_)
           refine cy [(30, none), (31, none)] 1 (rl [32, 1]) (by kernel_rfl) ?_
           refine ae rfl rfl rfl rfl (cp rfl rfl) ?_
           refine ae rfl rfl rfl rfl (bn rfl rfl) ?_
           refine ba ⟨zD, ?_⟩
           refine ax [32] (by kernel_rfl) (by simp) ?_
           refine am ?_ ?_
           ·try dsimp only [St.put]
            refine bw rfl rfl rfl rfl (cn rfl rfl rfl zG (by constructor) rfl zO ?_)
            dsimp only [St.put]
            refine gq (by kernel_rfl) ?_
            rw [hB]
            refine gn rfl (.inl rfl) zN (gl zG zG zG zG fun n o q1 q2 q3 q4 h => ?_)
            have hn := hlt n o h
            (try dsimp only)
            repeat (first | exact h | rw [cv (by omega)] | rw [e8 (by omega)])
           exact aw
          exact aw
         exact aw
        exact aw
       exact aw
      exact aw
     refine am ?_ ?_
     ·try dsimp only [St.put]
      refine cj rfl rfl rfl (ct rfl rfl rfl (by decide) (by decide) zR (by decide) ⟨zD, ?_⟩)
      refine ax [9] (by kernel_rfl) (by simp) ?_
      refine am ?_ ?_
      ·try dsimp only [St.put]
       refine cj rfl rfl rfl (ce ([(ec p.text x : Int)]) rfl rfl zG zE rfl rfl zA ⟨zD, ?_⟩ zA)
       refine ax [16] (by kernel_rfl) (by simp) ?_
       refine am ?_ ?_
       ·try dsimp only [St.put]
        refine cj rfl rfl rfl (ce ([dl p.text x]) rfl rfl zG zE rfl rfl zA ⟨zD, ?_⟩ zA)
        refine ax [23] (by kernel_rfl) (by simp) ?_
        refine am ?_ ?_
        ·try dsimp only [St.put]
         refine bw rfl rfl rfl rfl (ce ([([] : List PlaceD)]) rfl rfl zG zE rfl rfl zA ?_ zA)
         refine cy [(24, none), (25, none)] 7 (rl [26, 7]) (by kernel_rfl) ?_
         refine ae rfl rfl rfl rfl (cp rfl rfl) ?_
         refine ae rfl rfl rfl rfl (bn rfl rfl) ?_
         refine ba ⟨zD, ?_⟩
         refine ax [26] (by kernel_rfl) (by simp) ?_
         refine am ?_ ?_
         ·try dsimp only [St.put]
          refine bw rfl rfl rfl rfl (cn rfl rfl rfl zG (by constructor) rfl zO ?_)
          refine cy [(27, none), (28, none)] 4 (rl [29, 4]) (by kernel_rfl) ?_
          refine ae rfl rfl rfl rfl (cp rfl rfl) ?_
          refine ae rfl rfl rfl rfl (bn rfl rfl) ?_
          refine ba ⟨zD, ?_⟩
          refine ax [29] (by kernel_rfl) (by simp) ?_
          refine am ?_ ?_
          ·try dsimp only [St.put]
           refine bw rfl rfl rfl rfl (cn rfl rfl rfl zG (by constructor) rfl zO ?_)
           refine cy [(30, none), (31, none)] 1 (rl [32, 1]) (by kernel_rfl) ?_
           refine ae rfl rfl rfl rfl (cp rfl rfl) ?_
           refine ae rfl rfl rfl rfl (bn rfl rfl) ?_
           refine ba ⟨zD, ?_⟩
           refine ax [32] (by kernel_rfl) (by simp) ?_
           refine am ?_ ?_
           ·try dsimp only [St.put]
            refine bw rfl rfl rfl rfl (cn rfl rfl rfl zG (by constructor) rfl zO ?_)
            dsimp only [St.put]
            refine gq (by kernel_rfl) ?_
            rw [hB]
            refine gn rfl (.inl rfl) zN (gl zG zG zG zG fun n o q1 q2 q3 q4 h => ?_)
            have hn := hlt n o h
            (try dsimp only)
            repeat (first | exact h | rw [cv (by omega)] | rw [e8 (by omega)])
           exact aw
          exact aw
         exact aw
        exact aw
       exact aw
      exact aw
     exact aw
    exact aw
   refine am ?_ ?_
   ·try dsimp only [St.put]
    refine cj rfl rfl rfl (ct rfl rfl rfl (by decide) (by decide) zR (by decide) ⟨zD, ?_⟩)
    refine ax [8, 22] (by kernel_rfl) (by simp) ?_
    refine am ?_ ?_
    ·try dsimp only [St.put]
     refine cj rfl rfl rfl (ct rfl rfl rfl (by decide) (by decide) zR (by decide) ⟨zD, ?_⟩)
     refine ax [9, 22] (by kernel_rfl) (by simp) ?_
     refine am ?_ ?_
     ·try dsimp only [St.put]
      refine cj rfl rfl rfl (ce ([(ec p.text x : Int)]) rfl rfl zG zE rfl rfl zA ⟨zD, ?_⟩ zA)
      refine ax [16, 22] (by kernel_rfl) (by simp) ?_
      refine am ?_ ?_
      ·try dsimp only [St.put]
       refine cj rfl rfl rfl (ce ([dl p.text x]) rfl rfl zG zE rfl rfl zA ⟨zD, ?_⟩ zA)
       refine ax [22] (by kernel_rfl) (by simp) ?_
       refine am ?_ ?_
       ·try dsimp only [St.put]
        refine cj rfl rfl rfl (ct rfl rfl rfl (by decide) (by decide) zR (by decide) ⟨zD, ?_⟩)
        refine ax [23] (by kernel_rfl) (by simp) ?_
        refine am ?_ ?_
        ·try dsimp only [St.put]
         refine bw rfl rfl rfl rfl (ce ([([] : List PlaceD)]) rfl rfl zG zE rfl rfl zA ?_ zA)
         refine cy [(24, none), (25, none)] 7 (rl [26, 7]) (by kernel_rfl) ?_
         refine ae rfl rfl rfl rfl (cp rfl rfl) ?_
         refine ae rfl rfl rfl rfl (bn rfl rfl) ?_
         refine ba ⟨zD, ?_⟩
         refine ax [26] (by kernel_rfl) (by simp) ?_
         refine am ?_ ?_
         ·try dsimp only [St.put]
          refine bw rfl rfl rfl rfl (cn rfl rfl rfl zG (by constructor) rfl zO ?_)
          refine cy [(27, none), (28, none)] 4 (rl [29, 4]) (by kernel_rfl) ?_
          refine ae rfl rfl rfl rfl (cp rfl rfl) ?_
          refine ae rfl rfl rfl rfl (bn rfl rfl) ?_
          refine ba ⟨zD, ?_⟩
          refine ax [29] (by kernel_rfl) (by simp) ?_
          refine am ?_ ?_
          ·try dsimp only [St.put]
           refine bw rfl rfl rfl rfl (cn rfl rfl rfl zG (by constructor) rfl zO ?_)
           refine cy [(30, none), (31, none)] 1 (rl [32, 1]) (by kernel_rfl) ?_
           refine ae rfl rfl rfl rfl (cp rfl rfl) ?_
           refine ae rfl rfl rfl rfl (bn rfl rfl) ?_
           refine ba ⟨zD, ?_⟩
           refine ax [32] (by kernel_rfl) (by simp) ?_
           refine am ?_ ?_
           ·try dsimp only [St.put]
            refine bw rfl rfl rfl rfl (cn rfl rfl rfl zG (by constructor) rfl zO ?_)
            dsimp only [St.put]
            refine gq (by kernel_rfl) ?_
            rw [hB]
            refine gn rfl (.inl rfl) zN (gl zG zG zG zG fun n o q1 q2 q3 q4 h => ?_)
            have hn := hlt n o h
            (try dsimp only)
            repeat (first | exact h | rw [cv (by omega)] | rw [e8 (by omega)])
           exact aw
          exact aw
         exact aw
        exact aw
       exact aw
      refine am ?_ ?_
      ·try dsimp only [St.put]
       refine cj rfl rfl rfl (ct rfl rfl rfl (by decide) (by decide) zR (by decide) ⟨zD, ?_⟩)
       refine ax [16] (by kernel_rfl) (by simp) ?_
       refine am ?_ ?_
       ·try dsimp only [St.put]
        refine cj rfl rfl rfl (ce ([dl p.text x]) rfl rfl zG zE rfl rfl zA ⟨zD, ?_⟩ zA)
        refine ax [23] (by kernel_rfl) (by simp) ?_
        refine am ?_ ?_
        ·try dsimp only [St.put]
         refine bw rfl rfl rfl rfl (ce ([([] : List PlaceD)]) rfl rfl zG zE rfl rfl zA ?_ zA)
         refine cy [(24, none), (25, none)] 7 (rl [26, 7]) (by kernel_rfl) ?_
         refine ae rfl rfl rfl rfl (cp rfl rfl) ?_
         refine ae rfl rfl rfl rfl (bn rfl rfl) ?_
         refine ba ⟨zD, ?_⟩
         refine ax [26] (by kernel_rfl) (by simp) ?_
         refine am ?_ ?_
         ·try dsimp only [St.put]
          refine bw rfl rfl rfl rfl (cn rfl rfl rfl zG (by constructor) rfl zO ?_)
          refine cy [(27, none), (28, none)] 4 (rl [29, 4]) (by kernel_rfl) ?_
          refine ae rfl rfl rfl rfl (cp rfl rfl) ?_
          refine ae rfl rfl rfl rfl (bn rfl rfl) ?_
          refine ba ⟨zD, ?_⟩
          refine ax [29] (by kernel_rfl) (by simp) ?_
          refine am ?_ ?_
          ·try dsimp only [St.put]
           refine bw rfl rfl rfl rfl (cn rfl rfl rfl zG (by constructor) rfl zO ?_)
           refine cy [(30, none), (31, none)] 1 (rl [32, 1]) (by kernel_rfl) ?_
           refine ae rfl rfl rfl rfl (cp rfl rfl) ?_
           refine ae rfl rfl rfl rfl (bn rfl rfl) ?_
           refine ba ⟨zD, ?_⟩
           refine ax [32] (by kernel_rfl) (by simp) ?_
           refine am ?_ ?_
           ·try dsimp only [St.put]
            refine bw rfl rfl rfl rfl (cn rfl rfl rfl zG (by constructor) rfl zO ?_)
            dsimp only [St.put]
            refine gq (by kernel_rfl) ?_
            rw [hB]
            refine gn rfl (.inl rfl) zN (gl zG zG zG zG fun n o q1 q2 q3 q4 h => ?_)
            have hn := hlt n o h
            (try dsimp only)
            repeat (first | exact h | rw [cv (by omega)] | rw [e8 (by omega)])
           exact aw
          exact aw
         exact aw
        exact aw
       exact aw
      exact aw
     refine am ?_ ?_
     ·try dsimp only [St.put]
      refine cj rfl rfl rfl (ct rfl rfl rfl (by decide) (by decide) zR (by decide) ⟨zD, ?_⟩)
      refine ax [9] (by kernel_rfl) (by simp) ?_
      refine am ?_ ?_
      ·try dsimp only [St.put]
       refine cj rfl rfl rfl (ce ([(ec p.text x : Int)]) rfl rfl zG zE rfl rfl zA ⟨zD, ?_⟩ zA)
       refine ax [16] (by kernel_rfl) (by simp) ?_
       refine am ?_ ?_
       ·try dsimp only [St.put]
        refine cj rfl rfl rfl (ce ([dl p.text x]) rfl rfl zG zE rfl rfl zA ⟨zD, ?_⟩ zA)
        refine ax [23] (by kernel_rfl) (by simp) ?_
        refine am ?_ ?_
        ·try dsimp only [St.put]
         refine bw rfl rfl rfl rfl (ce ([([] : List PlaceD)]) rfl rfl zG zE rfl rfl zA ?_ zA)
         refine cy [(24, none), (25, none)] 7 (rl [26, 7]) (by kernel_rfl) ?_
         refine ae rfl rfl rfl rfl (cp rfl rfl) ?_
         refine ae rfl rfl rfl rfl (bn rfl rfl) ?_
         refine ba ⟨zD, ?_⟩
         refine ax [26] (by kernel_rfl) (by simp) ?_
         refine am ?_ ?_
         ·try dsimp only [St.put]
          refine bw rfl rfl rfl rfl (cn rfl rfl rfl zG (by constructor) rfl zO ?_)
          refine cy [(27, none), (28, none)] 4 (rl [29, 4]) (by kernel_rfl) ?_
          refine ae rfl rfl rfl rfl (cp rfl rfl) ?_
          refine ae rfl rfl rfl rfl (bn rfl rfl) ?_
          refine ba ⟨zD, ?_⟩
          refine ax [29] (by kernel_rfl) (by simp) ?_
          refine am ?_ ?_
          ·try dsimp only [St.put]
           refine bw rfl rfl rfl rfl (cn rfl rfl rfl zG (by constructor) rfl zO ?_)
           refine cy [(30, none), (31, none)] 1 (rl [32, 1]) (by kernel_rfl) ?_
           refine ae rfl rfl rfl rfl (cp rfl rfl) ?_
           refine ae rfl rfl rfl rfl (bn rfl rfl) ?_
           refine ba ⟨zD, ?_⟩
           refine ax [32] (by kernel_rfl) (by simp) ?_
           refine am ?_ ?_
           ·try dsimp only [St.put]
            refine bw rfl rfl rfl rfl (cn rfl rfl rfl zG (by constructor) rfl zO ?_)
            dsimp only [St.put]
            refine gq (by kernel_rfl) ?_
            rw [hB]
            refine gn rfl (.inl rfl) zN (gl zG zG zG zG fun n o q1 q2 q3 q4 h => ?_)
            have hn := hlt n o h
            (try dsimp only)
            repeat (first | exact h | rw [cv (by omega)] | rw [e8 (by omega)])
           exact aw
          exact aw
         exact aw
        exact aw
       exact aw
      exact aw
     exact aw
    refine am ?_ ?_
    ·try dsimp only [St.put]
     refine cj rfl rfl rfl (ct rfl rfl rfl (by decide) (by decide) zR (by decide) ⟨zD, ?_⟩)
     refine ax [8] (by kernel_rfl) (by simp) ?_
     refine am ?_ ?_
     ·try dsimp only [St.put]
      refine cj rfl rfl rfl (ct rfl rfl rfl (by decide) (by decide) zR (by decide) ⟨zD, ?_⟩)
      refine ax [9] (by kernel_rfl) (by simp) ?_
      refine am ?_ ?_
      ·try dsimp only [St.put]
       refine cj rfl rfl rfl (ce ([(ec p.text x : Int)]) rfl rfl zG zE rfl rfl zA ⟨zD, ?_⟩ zA)
       refine ax [16] (by kernel_rfl) (by simp) ?_
       refine am ?_ ?_
       ·try dsimp only [St.put]
        refine cj rfl rfl rfl (ce ([dl p.text x]) rfl rfl zG zE rfl rfl zA ⟨zD, ?_⟩ zA)
        refine ax [23] (by kernel_rfl) (by simp) ?_
        refine am ?_ ?_
        ·try dsimp only [St.put]
         refine bw rfl rfl rfl rfl (ce ([([] : List PlaceD)]) rfl rfl zG zE rfl rfl zA ?_ zA)
         refine cy [(24, none), (25, none)] 7 (rl [26, 7]) (by kernel_rfl) ?_
         refine ae rfl rfl rfl rfl (cp rfl rfl) ?_
         refine ae rfl rfl rfl rfl (bn rfl rfl) ?_
         refine ba ⟨zD, ?_⟩
         refine ax [26] (by kernel_rfl) (by simp) ?_
         refine am ?_ ?_
         ·try dsimp only [St.put]
          refine bw rfl rfl rfl rfl (cn rfl rfl rfl zG (by constructor) rfl zO ?_)
          refine cy [(27, none), (28, none)] 4 (rl [29, 4]) (by kernel_rfl) ?_
          refine ae rfl rfl rfl rfl (cp rfl rfl) ?_
          refine ae rfl rfl rfl rfl (bn rfl rfl) ?_
          refine ba ⟨zD, ?_⟩
          refine ax [29] (by kernel_rfl) (by simp) ?_
          refine am ?_ ?_
          ·try dsimp only [St.put]
           refine bw rfl rfl rfl rfl (cn rfl rfl rfl zG (by constructor) rfl zO ?_)
           refine cy [(30, none), (31, none)] 1 (rl [32, 1]) (by kernel_rfl) ?_
           refine ae rfl rfl rfl rfl (cp rfl rfl) ?_
           refine ae rfl rfl rfl rfl (bn rfl rfl) ?_
           refine ba ⟨zD, ?_⟩
           refine ax [32] (by kernel_rfl) (by simp) ?_
           refine am ?_ ?_
           ·try dsimp only [St.put]
            refine bw rfl rfl rfl rfl (cn rfl rfl rfl zG (by constructor) rfl zO ?_)
            dsimp only [St.put]
            refine gq (by kernel_rfl) ?_
            rw [hB]
            refine gn rfl (.inl rfl) zN (gl zG zG zG zG fun n o q1 q2 q3 q4 h => ?_)
            have hn := hlt n o h
            (try dsimp only)
            repeat (first | exact h | rw [cv (by omega)] | rw [e8 (by omega)])
           exact aw
          exact aw
         exact aw
        exact aw
       exact aw
      exact aw
     exact aw
    exact aw
   refine am ?_ ?_
   ·try dsimp only [St.put]
    refine cj rfl rfl rfl (ct rfl rfl rfl (by decide) (by decide) zR (by decide) ⟨zD, ?_⟩)
    refine ax [8, 15] (by kernel_rfl) (by simp) ?_
    refine am ?_ ?_
    ·try dsimp only [St.put]
     refine cj rfl rfl rfl (ct rfl rfl rfl (by decide) (by decide) zR (by decide) ⟨zD, ?_⟩)
     refine ax [9, 15] (by kernel_rfl) (by simp) ?_
     refine am ?_ ?_
     ·try dsimp only [St.put]
      refine cj rfl rfl rfl (ce ([(ec p.text x : Int)]) rfl rfl zG zE rfl rfl zA ⟨zD, ?_⟩ zA)
      refine ax [15] (by kernel_rfl) (by simp) ?_
      refine am ?_ ?_
      ·try dsimp only [St.put]
       refine cj rfl rfl rfl (ct rfl rfl rfl (by decide) (by decide) zR (by decide) ⟨zD, ?_⟩)
       refine ax [16] (by kernel_rfl) (by simp) ?_
       refine am ?_ ?_
       ·try dsimp only [St.put]
        refine cj rfl rfl rfl (ce ([dl p.text x]) rfl rfl zG zE rfl rfl zA ⟨zD, ?_⟩ zA)
        refine ax [23] (by kernel_rfl) (by simp) ?_
        refine am ?_ ?_
        ·try dsimp only [St.put]
         refine bw rfl rfl rfl rfl (ce ([([] : List PlaceD)]) rfl rfl zG zE rfl rfl zA ?_ zA)
         refine cy [(24, none), (25, none)] 7 (rl [26, 7]) (by kernel_rfl) ?_
         refine ae rfl rfl rfl rfl (cp rfl rfl) ?_
         refine ae rfl rfl rfl rfl (bn rfl rfl) ?_
         refine ba ⟨zD, ?_⟩
         refine ax [26] (by kernel_rfl) (by simp) ?_
         refine am ?_ ?_
         ·try dsimp only [St.put]
          refine bw rfl rfl rfl rfl (cn rfl rfl rfl zG (by constructor) rfl zO ?_)
          refine cy [(27, none), (28, none)] 4 (rl [29, 4]) (by kernel_rfl) ?_
          refine ae rfl rfl rfl rfl (cp rfl rfl) ?_
          refine ae rfl rfl rfl rfl (bn rfl rfl) ?_
          refine ba ⟨zD, ?_⟩
          refine ax [29] (by kernel_rfl) (by simp) ?_
          refine am ?_ ?_
          ·try dsimp only [St.put]
           refine bw rfl rfl rfl rfl (cn rfl rfl rfl zG (by constructor) rfl zO ?_)
           refine cy [(30, none), (31, none)] 1 (rl [32, 1]) (by kernel_rfl) ?_
           refine ae rfl rfl rfl rfl (cp rfl rfl) ?_
           refine ae rfl rfl rfl rfl (bn rfl rfl) ?_
           refine ba ⟨zD, ?_⟩
           refine ax [32] (by kernel_rfl) (by simp) ?_
           refine am ?_ ?_
           ·try dsimp only [St.put]
            refine bw rfl rfl rfl rfl (cn rfl rfl rfl zG (by constructor) rfl zO ?_)
            dsimp only [St.put]
            refine gq (by kernel_rfl) ?_
            rw [hB]
            refine gn rfl (.inl rfl) zN (gl zG zG zG zG fun n o q1 q2 q3 q4 h => ?_)
            have hn := hlt n o h
            (try dsimp only)
            repeat (first | exact h | rw [cv (by omega)] | rw [e8 (by omega)])
           exact aw
          exact aw
         exact aw
        exact aw
       exact aw
      exact aw
     refine am ?_ ?_
     ·try dsimp only [St.put]
      refine cj rfl rfl rfl (ct rfl rfl rfl (by decide) (by decide) zR (by decide) ⟨zD, ?_⟩)
      refine ax [9] (by kernel_rfl) (by simp) ?_
      refine am ?_ ?_
      ·try dsimp only [St.put]
       refine cj rfl rfl rfl (ce ([(ec p.text x : Int)]) rfl rfl zG zE rfl rfl zA ⟨zD, ?_⟩ zA)
       refine ax [16] (by kernel_rfl) (by simp) ?_
       refine am ?_ ?_
       ·try dsimp only [St.put]
        refine cj rfl rfl rfl (ce ([dl p.text x]) rfl rfl zG zE rfl rfl zA ⟨zD, ?_⟩ zA)
        refine ax [23] (by kernel_rfl) (by simp) ?_
        refine am ?_ ?_
        ·try dsimp only [St.put]
         refine bw rfl rfl rfl rfl (ce ([([] : List PlaceD)]) rfl rfl zG zE rfl rfl zA ?_ zA)
         refine cy [(24, none), (25, none)] 7 (rl [26, 7]) (by kernel_rfl) ?_
         refine ae rfl rfl rfl rfl (cp rfl rfl) ?_
         refine ae rfl rfl rfl rfl (bn rfl rfl) ?_
         refine ba ⟨zD, ?_⟩
         refine ax [26] (by kernel_rfl) (by simp) ?_
         refine am ?_ ?_
         ·try dsimp only [St.put]
          refine bw rfl rfl rfl rfl (cn rfl rfl rfl zG (by constructor) rfl zO ?_)
          refine cy [(27, none), (28, none)] 4 (rl [29, 4]) (by kernel_rfl) ?_
          refine ae rfl rfl rfl rfl (cp rfl rfl) ?_
          refine ae rfl rfl rfl rfl (bn rfl rfl) ?_
          refine ba ⟨zD, ?_⟩
          refine ax [29] (by kernel_rfl) (by simp) ?_
          refine am ?_ ?_
          ·try dsimp only [St.put]
           refine bw rfl rfl rfl rfl (cn rfl rfl rfl zG (by constructor) rfl zO ?_)
           refine cy [(30, none), (31, none)] 1 (rl [32, 1]) (by kernel_rfl) ?_
           refine ae rfl rfl rfl rfl (cp rfl rfl) ?_
           refine ae rfl rfl rfl rfl (bn rfl rfl) ?_
           refine ba ⟨zD, ?_⟩
           refine ax [32] (by kernel_rfl) (by simp) ?_
           refine am ?_ ?_
           ·try dsimp only [St.put]
            refine bw rfl rfl rfl rfl (cn rfl rfl rfl zG (by constructor) rfl zO ?_)
            dsimp only [St.put]
            refine gq (by kernel_rfl) ?_
            rw [hB]
            refine gn rfl (.inl rfl) zN (gl zG zG zG zG fun n o q1 q2 q3 q4 h => ?_)
            have hn := hlt n o h
            (try dsimp only)
            repeat (first | exact h | rw [cv (by omega)] | rw [e8 (by omega)])
           exact aw
          exact aw
         exact aw
        exact aw
       exact aw
      exact aw
     exact aw
    refine am ?_ ?_
    ·try dsimp only [St.put]
     refine cj rfl rfl rfl (ct rfl rfl rfl (by decide) (by decide) zR (by decide) ⟨zD, ?_⟩)
     refine ax [8] (by kernel_rfl) (by simp) ?_
     refine am ?_ ?_
     ·try dsimp only [St.put]
      refine cj rfl rfl rfl (ct rfl rfl rfl (by decide) (by decide) zR (by decide) ⟨zD, ?_⟩)
      refine ax [9] (by kernel_rfl) (by simp) ?_
      refine am ?_ ?_
      ·try dsimp only [St.put]
       refine cj rfl rfl rfl (ce ([(ec p.text x : Int)]) rfl rfl zG zE rfl rfl zA ⟨zD, ?_⟩ zA)
       refine ax [16] (by kernel_rfl) (by simp) ?_
       refine am ?_ ?_
       ·try dsimp only [St.put]
        refine cj rfl rfl rfl (ce ([dl p.text x]) rfl rfl zG zE rfl rfl zA ⟨zD, ?_⟩ zA)
        refine ax [23] (by kernel_rfl) (by simp) ?_
        refine am ?_ ?_
        ·try dsimp only [St.put]
         refine bw rfl rfl rfl rfl (ce ([([] : List PlaceD)]) rfl rfl zG zE rfl rfl zA ?_ zA)
         refine cy [(24, none), (25, none)] 7 (rl [26, 7]) (by kernel_rfl) ?_
         refine ae rfl rfl rfl rfl (cp rfl rfl) ?_
         refine ae rfl rfl rfl rfl (bn rfl rfl) ?_
         refine ba ⟨zD, ?_⟩
         refine ax [26] (by kernel_rfl) (by simp) ?_
         refine am ?_ ?_
         ·try dsimp only [St.put]
          refine bw rfl rfl rfl rfl (cn rfl rfl rfl zG (by constructor) rfl zO ?_)
          refine cy [(27, none), (28, none)] 4 (rl [29, 4]) (by kernel_rfl) ?_
          refine ae rfl rfl rfl rfl (cp rfl rfl) ?_
          refine ae rfl rfl rfl rfl (bn rfl rfl) ?_
          refine ba ⟨zD, ?_⟩
          refine ax [29] (by kernel_rfl) (by simp) ?_
          refine am ?_ ?_
          ·try dsimp only [St.put]
           refine bw rfl rfl rfl rfl (cn rfl rfl rfl zG (by constructor) rfl zO ?_)
           refine cy [(30, none), (31, none)] 1 (rl [32, 1]) (by kernel_rfl) ?_
           refine ae rfl rfl rfl rfl (cp rfl rfl) ?_
           refine ae rfl rfl rfl rfl (bn rfl rfl) ?_
           refine ba ⟨zD, ?_⟩
           refine ax [32] (by kernel_rfl) (by simp) ?_
           refine am ?_ ?_
           ·try dsimp only [St.put]
            refine bw rfl rfl rfl rfl (cn rfl rfl rfl zG (by constructor) rfl zO ?_)
            dsimp only [St.put]
            refine gq (by kernel_rfl) ?_
            rw [hB]
            refine gn rfl (.inl rfl) zN (gl zG zG zG zG fun n o q1 q2 q3 q4 h => ?_)
            have hn := hlt n o h
            (try dsimp only)
            repeat (first | exact h | rw [cv (by omega)] | rw [e8 (by omega)])
           exact aw
          exact aw
         exact aw
        exact aw
       exact aw
      exact aw
     exact aw
    exact aw
   exact aw
  have hz0 := yj hym
  subst hz0
  obtain ⟨z, hz⟩ : ∃ z, z = y := ⟨_, rfl⟩
  subst hz
  have hIn : ∀ z ∈ ks, ∀ x ∈ done ++ [z], x ∈ ks := fun z hz x hx => by
   rcases List.mem_append.1 hx with hx | hx
   ·exact hI8.1 x hx
   rw [List.mem_singleton] at hx; exact hx ▸ hz
  have hIu : ∀ z, z ∉ done → (done ++ [z]).Nodup := fun z hz => List.nodup_append.2 ⟨hI8.2, by simp, fun a ha b hb => by
   rw [List.mem_singleton] at hb; subst hb; exact fun e => hz (e ▸ ha)⟩
  have hdl := vd hp hI8.2 (fun q hq => onceM_ne.1 ((hks0 q).2 (hI8.1 q hq)))
  refine yX rfl rfl rfl rfl ?_
  refine yN ?_
  dsimp only [St.put]
  refine K34 _ ?_
  refine yS fun _ K37 => ?_
  refine aq rfl (fun _ => ?_) (fun h => by cases h)
  refine az ?_
  refine K37 _ ?_
  refine bg ?_
  refine yS fun _ K38 => ?_
  refine yR ?_
  try dsimp only [St.put]
  refine ci rfl (ubc (fx := nx + 1 + 1 + 1) (n := nx) rfl rfl zG trivial zG zG trivial (by assumption)) ?_
  refine yX rfl rfl rfl rfl ?_
  try dsimp only [St.put]
  refine af rfl (dp rfl ?_)
  try dsimp only [St.put]
  refine af rfl (c4 rfl rfl rfl zG rfl rfl (by rfl) ?_)
  refine yN ?_
  dsimp only [St.put]
  refine K38 _ ?_
  refine f4 (i := 18) rfl zG zC ?_
  dsimp only
  refine yR ?_
  refine yM rfl rfl ?_
  try dsimp only [St.put]
  refine ci rfl (ed rfl rfl rfl) ?_
  try dsimp only [St.put]
  refine af rfl (ct rfl rfl rfl (by decide) (by decide) zR (by decide) ?_)
  try dsimp only [St.put]
  refine af rfl (fp (xs := ([] : List PlaceD) ++ done) [z] rfl rfl zG rfl rfl rfl rfl zA zA (fun v3 => ?_))
  refine yA rfl rfl ?_
  refine yN ?_
  dsimp only [St.put]
  simp only [List.append_assoc]
  exact ⟨(done ++ [z], wi + 1, v3, wv), ude hyk hyd, ⟨hIn z hyk, hIu z hyd⟩, ⟨⟨rfl, rfl⟩, zF, zB, zN, zX⟩⟩
 refine yR ?_
 refine yA rfl rfl ?_
 refine yN ?_
 dsimp only [St.put]
 refine K22 _ ?_
 refine ll 14 61 3 rfl (by decide) ?_
 dsimp only [List.set_cons_zero, List.set_cons_succ]
 refine yS fun _ K39 => ?_
 refine yS fun _ K40 => ?_
 refine yR ?_
 refine yF rfl rfl rfl rfl ?_
 refine yL rfl rfl rfl ?_
 refine aa rfl (bk rfl rfl (List.length_map _)) ?_
 refine yM rfl rfl ?_
 refine yN ?_
 dsimp only [St.put]
 refine K40 _ ?_
 refine bg ?_
 refine co 72 ?_
 refine zQ ?_
 refine dh (ai ((ai G nx (ja Tryz.prog 61 (x.found.length) ((gy (gm x.found (x.well.take 0))))))) (nx + 1) (.tip 0 61 3)) zX ?_
 dsimp only
 refine dg (X := Nat) (fun k => k ≤ x.well.length) (fun k => x.well.length - k) (fun k => [(14, .list ((m6 x.found x.well k).map cells) (.tip (nx + 1))), (16, .any), (71, .v (.int .i64 (k : Int)))]) (fun k G' => ai ((ai G nx (ja Tryz.prog 61 ((x.found.length + k)) ((gy (gm x.found (x.well.take k))))))) (nx + 1) (.tip (m6 x.found x.well k).length 61 3)) 0 rfl ?_ ?_ ?_ ?_ ?_ ?_
 ·exact Nat.zero_le _
 ·exact zF
 ·exact zX
 ·rintro k hI
  exact (by (try dsimp only); repeat' (first | exact trivial | refine ⟨?_, ?_⟩ | exact .v | exact .any | refine .elem ?_ | exact ck _ _ | exact fy _ _ | exact et _ _ | exact f9 _ (by (try dsimp only); omega) | exact .box (by (try dsimp only); omega) | exact fm | exact dz | exact i0 (ne _ _) | refine ge ?_ ?_ | exact .arr (by (try dsimp only); omega) | exact .own (by (try dsimp only); omega) | exact .map (by (try dsimp only); omega) | exact fg _ | refine c6 ?_ ?_ | exact ck _ _))
 ·rintro k hI
  exact (by (repeat' (refine mc ?_ (by (try dsimp only); omega) ?_)); all_goals (first | exact me zS | (repeat' (first | exact trivial | refine ⟨?_, ?_⟩ | exact .v | exact .any | refine .elem ?_ | exact ck _ _ | exact fy _ _ | exact et _ _ | exact f9 _ (by (try dsimp only); omega) | exact .box (by (try dsimp only); omega) | exact fm | exact dz | exact i0 (ne _ _) | refine ge ?_ ?_ | exact .arr (by (try dsimp only); omega) | exact .own (by (try dsimp only); omega) | exact .map (by (try dsimp only); omega) | exact fg _ | refine c6 ?_ ?_ | exact ck _ _))))
 rintro k hK
 dsimp only at hK ⊢
 refine yS fun _ K41 => ?_
 refine yR ?_
 refine aa rfl (cm rfl rfl rfl) ?_
 refine yN ?_
 dsimp only [St.put]
 refine K41 _ ?_
 refine yS fun _ K42 => ?_
 refine aq rfl (fun hc => ?_) (fun hc => ?_)
 ·replace hc := of_decide_eq_true hc
  obtain ⟨q, hq⟩ : ∃ q, x.well[k]? = some q := dn (by omega)
  have hbt := uet x.found x.well k
  refine az ?_
  refine K42 _ ?_
  refine yS fun _ K43 => ?_
  refine bg ?_
  refine yS fun _ K44 => ?_
  refine yR ?_
  refine aa rfl (bu rfl rfl rfl rfl (bp (by assumption)) (Enc.len _)) ?_
  refine yE rfl rfl rfl ?_
  try dsimp only [St.put]
  refine af rfl (dp rfl ?_)
  try dsimp only [St.put]
  refine af rfl (c4 rfl rfl rfl zG rfl rfl (by rfl) ?_)
  refine yN ?_
  dsimp only [St.put]
  refine K44 _ ?_
  refine f4 (i := 16) rfl zG zC ?_
  dsimp only
  refine yS fun _ K45 => ?_
  refine yR ?_
  refine yM rfl rfl ?_
  refine yE rfl rfl rfl ?_
  try dsimp only [St.put]
  refine ci rfl (uo q rfl rfl zG trivial rfl (uck _ _)) ?_
  refine yN ?_
  dsimp only [St.put]
  refine K45 _ ?_
  refine aq rfl (fun hc => ?_) (fun hc => ?_)
  ·have hin : q ∈ x.found := by
    rw [ve hnd2 hq] at hc
    exact of_decide_eq_true hc
   refine yS fun _ K46 => ?_
   refine yR ?_
   refine yM rfl rfl ?_
   refine yE rfl rfl rfl ?_
   try dsimp only [St.put]
   refine af rfl (ct rfl rfl rfl (by decide) (by decide) zR (by decide) ?_)
   try dsimp only [St.put]
   refine af rfl (ce ([q]) rfl rfl zG zE rfl rfl zA ?_ zA)
   refine yA rfl rfl ?_
   refine yN ?_
   dsimp only [St.put]
   refine K46 _ ?_
   refine yR ?_
   refine yM rfl rfl ?_
   refine yE rfl rfl rfl ?_
   try dsimp only [St.put]
   refine af rfl (uej q rfl rfl zG rfl (ucj hnd2 hq hin) ?_)
   refine yN ?_
   dsimp only [St.put]
   refine K43 _ ?_
   refine yR ?_
   refine aa rfl (bv rfl rfl rfl (by omega)) ?_
   refine yM rfl rfl ?_
   refine yN ?_
   dsimp only [St.put]
   have e := ues (F := x.found) hq
   first
   | (have hi : q ∈ x.found := hin
      rw [decide_eq_true hi, cond_true] at e
      simp only [← e]
      exact ⟨k + 1, by omega, by omega, ⟨⟨rfl, rfl⟩, zF, zB, zN, zX⟩⟩)
   | (have hi : q ∉ x.found := hout
      rw [decide_eq_false hi, cond_false, List.append_nil] at e
      simp only [← e]
      exact ⟨k + 1, by omega, by omega, ⟨⟨rfl, rfl⟩, zF, zB, zN, zX⟩⟩)
  have hout : q ∉ x.found := by
   rw [ve hnd2 hq] at hc
   exact of_decide_eq_false hc
  refine yR ?_
  refine yM rfl rfl ?_
  refine yE rfl rfl rfl ?_
  try dsimp only [St.put]
  refine af rfl (tm (q) rfl rfl rfl zG rfl (uci hnd2 hq hout) ?_)
  refine yN ?_
  dsimp only [St.put]
  refine K43 _ ?_
  refine yR ?_
  refine aa rfl (bv rfl rfl rfl (by omega)) ?_
  refine yM rfl rfl ?_
  refine yN ?_
  dsimp only [St.put]
  have e := ues (F := x.found) hq
  first
  | (have hi : q ∈ x.found := hin
     rw [decide_eq_true hi, cond_true] at e
     simp only [← e]
     exact ⟨k + 1, by omega, by omega, ⟨⟨rfl, rfl⟩, zF, zB, zN, zX⟩⟩)
  | (have hi : q ∉ x.found := hout
     rw [decide_eq_false hi, cond_false, List.append_nil] at e
     simp only [← e]
     exact ⟨k + 1, by omega, by omega, ⟨⟨rfl, rfl⟩, zF, zB, zN, zX⟩⟩)
 replace hc := of_decide_eq_false hc
 obtain rfl : k = x.well.length := by omega
 rw [uml hp]
 refine c7 ?_
 refine K39 _ ?_
 refine yS fun _ K47 => ?_
 refine tu 14 (lst (eg p.text x)) rfl Wk.tok ?_
 refine yR ?_
 refine yM rfl rfl ?_
 try dsimp only [St.put]
 refine af rfl (tn rfl rfl rfl (uma (eg p.text x) hB (by omega) _ _) ?_)
 refine yA rfl rfl ?_
 refine yN ?_
 dsimp only [St.put]
 refine K47 _ ?_
 refine yS fun _ K48 => ?_
 refine yS fun _ K49 => ?_
 refine yR ?_
 refine yM rfl rfl ?_
 try dsimp only [St.put]
 refine af rfl (uef rfl rfl zG fun r β cl ks hnd hks0 hinj => ?_)
 refine yN ?_
 dsimp only [St.put]
 refine K49 _ ?_
 rw [hmw] at hks0
 rw [hmw]
 refine bg ?_
 refine co 91 ?_
 refine zQ ?_
 refine dh (ai (ai (ai (ai G nx (oq Tryz.prog 61 (x.found.length + x.well.length) (gy (gm x.found x.well)) β cl)) (nx + 1 + 1) (.arr 0 0 61 3 (eg p.text x).length (dc (eg p.text x)))) (nx + 1 + 1 + 1) (.raw 0 (.mapIter (some r) cl (jn β ([] : List PlaceD)) cl))) (nx + 1 + 1 + 1 + 1) (.fact (.map (some r)) (.map nx))) zX ?_
 dsimp only
 refine dg (X := List PlaceD × Nat × Nat × Nat) (fun y => (∀ z ∈ y.1, z ∈ ks) ∧ y.1.Nodup) (fun y => sx ks y.1) (fun y => [(17, .own (nx + 1 + 1) y.2.2.1 (eg p.text x ++ y.1).length), (18, .any)]) (fun y G' => (ai (ai (ai (ai G nx (oq Tryz.prog 61 ((x.found.length + x.well.length)) (gy ((gm x.found x.well))) β cl)) ((nx + 1 + 1)) (.arr y.2.2.1 y.2.2.2 61 3 ((eg p.text x ++ y.1)).length (dc ((eg p.text x ++ y.1))))) ((nx + 1 + 1 + 1)) (.raw y.2.1 (.mapIter (some r) cl (jn β y.1) cl))) ((nx + 1 + 1 + 1 + 1)) (.fact (.map (some r)) (.map nx)))) ([], 0, 0, 0) rfl ?_ ?_ ?_ ?_ ?_ ?_
 ·exact ⟨fun z hz => by simp at hz, List.nodup_nil⟩
 ·simp only [List.append_nil]
  exact zF
 ·simp only [List.append_nil]
  exact zX
 ·rintro ⟨done, wi, vl, wv⟩ hI
  exact (by (try dsimp only); repeat' (first | exact trivial | refine ⟨?_, ?_⟩ | exact .v | exact .any | refine .elem ?_ | exact ck _ _ | exact fy _ _ | exact et _ _ | exact f9 _ (by (try dsimp only); omega) | exact .box (by (try dsimp only); omega) | exact fm | exact dz | exact wc (ne _ _) | exact fg _ | refine ge ?_ ?_ | exact .arr (by (try dsimp only); omega) | exact .own (by (try dsimp only); omega) | exact .map (by (try dsimp only); omega) | exact fg _ | refine c6 ?_ ?_ | exact ck _ _))
 ·rintro ⟨done, wi, vl, wv⟩ hI
  exact (by (repeat' (refine mc ?_ (by (try dsimp only); omega) ?_)); all_goals (first | exact me zS | (repeat' (first | exact trivial | refine ⟨?_, ?_⟩ | exact .v | exact .any | refine .elem ?_ | exact ck _ _ | exact fy _ _ | exact et _ _ | exact f9 _ (by (try dsimp only); omega) | exact .box (by (try dsimp only); omega) | exact fm | exact dz | exact wc (ne _ _) | exact fg _ | refine ge ?_ ?_ | exact .arr (by (try dsimp only); omega) | exact .own (by (try dsimp only); omega) | exact .map (by (try dsimp only); omega) | exact fg _ | refine c6 ?_ ?_ | exact ck _ _))))
 rintro ⟨done, wi, vl, wv⟩ hI8
 dsimp only at hI8 ⊢
 refine yS fun _ K50 => ?_
 refine yR ?_
 try dsimp only [St.put]
 refine af rfl (ueg (done := done) rfl rfl zG zG zG (hks0) (hinj) (hI8.1) (fun hend => ?_) (fun y c hym hyk hyd => ?_))
 ·have hdl := vd hp hI8.2 (fun q hq => onceM_ne.1 ((hks0 q).2 (hI8.1 q hq)))
  have hdk : ∀ q, q ∈ done ↔ gm x.found x.well q = true := fun q => ⟨fun hq => onceM_ne.1 ((hks0 q).2 (hI8.1 q hq)), fun hq => hend q ((hks0 q).1 (onceM_ne.2 hq))⟩
  have hpb := uch hp ht (fun q hq => (hdk q).1 hq)
  refine yX rfl rfl rfl rfl ?_
  refine yN ?_
  dsimp only [St.put]
  refine K50 _ ?_
  refine yS fun _ K51 => ?_
  refine aq rfl (fun h => by cases h) (fun _ => ?_)
  refine c7 ?_
  refine K48 _ ?_
  refine yS fun _ K52 => ?_
  have hpb2 : ∀ y ∈ eg p.text x ++ done, PBd9 y := fun y hy => by
   rcases List.mem_append.1 hy with hy | hy
   ·exact umm hp ht hy
   exact hpb y hy
  refine yR ?_
  refine yM rfl rfl ?_
  try dsimp only [St.put]
  refine af rfl (uee ua7 PBd9 ma rfl rfl rfl rfl zG rfl rfl rfl (fun y hy => hy.plain) hpb2 (by first | (rw [List.length_append]; omega) | (simp only [List.nil_append]; omega)) (fun a b _ _ => ye a b _ _) ucf (fun ys hperm hsort => ?_))
  refine yN ?_
  dsimp only [St.put]
  have hlen := hperm.length_eq
  obtain rfl := ufe hp hI8.2 hdk hperm hsort
  refine K52 _ ?_
  refine uab 17 (dl p.text x) rfl zG rfl rfl hlen.symm ?_
  dsimp only
  refine ue4 [(0, none), (1, none), (2, none), (3, none), (4, none), (5, none), (6, none), (7, none), (10, none), (11, none), (12, none), (13, none), (14, none), (17, none), (18, none), (19, none), (20, none), (21, none)] (fun i => [23, 26, 29, 32].contains i) (fun i => [0, 1, 2, 3, 4, 5, 7, 10, 11, 12, 14, 17, 18, 19, 21].contains i) 15 (rl [8, 2, 5, 2, 5, 11]) [nB] (by kernel_rfl) (by kernel_rfl) ?_
  refine xM rfl rfl rfl rfl rfl ?_
  refine xM rfl rfl rfl rfl rfl ?_
  refine xM rfl rfl rfl rfl rfl ?_
  refine xM rfl rfl rfl rfl rfl ?_
  refine ae rfl rfl rfl rfl (cp rfl rfl) ?_
  refine ae rfl rfl rfl rfl (bn rfl rfl) ?_
  try dsimp only [St.put]
  refine av rfl rfl rfl rfl (e9 rfl rfl zG (by simp) (by first | rfl | assumption)) ?_
  refine xM rfl rfl rfl rfl rfl ?_
  refine xM rfl rfl rfl rfl rfl ?_
  refine ae rfl rfl rfl rfl (cp rfl rfl) ?_
  refine ae rfl rfl rfl rfl (bn rfl rfl) ?_
  try dsimp only [St.put]
  refine av rfl rfl rfl rfl (e9 rfl rfl zG (by simp) (by first | rfl | assumption)) ?_
  refine xM rfl rfl rfl rfl rfl ?_
  refine xM rfl rfl rfl rfl rfl ?_
  refine ae rfl rfl rfl rfl (cp rfl rfl) ?_
  refine ae rfl rfl rfl rfl (bn rfl rfl) ?_
  try dsimp only [St.put]
  refine av rfl rfl rfl rfl (e9 rfl rfl zG (by simp) (by first | rfl | assumption)) ?_
  refine xM rfl rfl rfl rfl rfl ?_
  refine ba ⟨zD, ?_⟩
  refine ax [8, 15, 22] (by kernel_rfl) (by simp) ?_
  refine am ?_ ?_
  ·try dsimp only [St.put]
   refine cj rfl rfl rfl (ct rfl rfl rfl (by decide) (by decide) zR (by decide) ⟨zD, ?_⟩)
   refine ax [9, 15, 22] (by kernel_rfl) (by simp) ?_
   refine am ?_ ?_
   ·try dsimp only [St.put]
    refine cj rfl rfl rfl (ce ([(ec p.text x : Int)]) rfl rfl zG zE rfl rfl zA ⟨zD, ?_⟩ zA)
    refine ax [15, 22] (by kernel_rfl) (by simp) ?_
    refine am ?_ ?_
    ·try dsimp only [St.put]
     refine cj rfl rfl rfl (ct rfl rfl rfl (by decide) (by decide) zR (by decide) ⟨zD, ?_⟩)
     refine ax [16, 22] (by kernel_rfl) (by simp) ?_
     refine am ?_ ?_
     ·try dsimp only [St.put]
      refine cj rfl rfl rfl (ce ([dl p.text x]) rfl rfl zG zE rfl rfl zA ⟨zD, ?_⟩ zA)
      refine ax [22] (by kernel_rfl) (by simp) ?_
      refine am ?_ ?_
      ·try dsimp only [St.put]
       refine cj rfl rfl rfl (ct rfl rfl rfl (by decide) (by decide) zR (by decide) ⟨zD, ?_⟩)
       refine ax [23] (by kernel_rfl) (by simp) ?_
       refine am ?_ ?_
       ·try dsimp only [St.put]
        refine bw rfl rfl rfl rfl (ce ([eg p.text x]) rfl rfl zG zE rfl rfl zA ?_ zA)
        refine cy [(24, none), (25, none)] 7 (rl [26, 7]) (by kernel_rfl) ?_
        refine ae rfl rfl rfl rfl (cp rfl rfl) ?_
        refine ae rfl rfl rfl rfl (bn rfl rfl) ?_
        refine ba ⟨zD, ?_⟩
        refine ax [26] (by kernel_rfl) (by simp) ?_
        refine am ?_ ?_
        ·try dsimp only [St.put]
         refine bw rfl rfl rfl rfl (cn rfl rfl rfl zG (by constructor) rfl zO ?_)
         refine cy [(27, none), (28, none)] 4 (rl [29, 4]) (by kernel_rfl) ?_
         refine ae rfl rfl rfl rfl (cp rfl rfl) ?_
         refine ae rfl rfl rfl rfl (bn rfl rfl) ?_
         refine ba ⟨zD, ?_⟩
         refine ax [29] (by kernel_rfl) (by simp) ?_
         refine am ?_ ?_
         ·try dsimp only [St.put]
          refine bw rfl rfl rfl rfl (cn rfl rfl rfl zG (by constructor) rfl zO ?_)
          refine cy [(30, none), (31, none)] 1 (rl [32, 1]) (by kernel_rfl) ?_
          refine ae rfl rfl rfl rfl (cp rfl rfl) ?_
          refine ae rfl rfl rfl rfl (bn rfl rfl) ?_
          refine ba ⟨zD, ?_⟩
          refine ax [32] (by kernel_rfl) (by simp) ?_
          refine am ?_ ?_
          ·try dsimp only [St.put]
           refine bw rfl rfl rfl rfl (cn rfl rfl rfl zG (by constructor) rfl zO ?_)
           dsimp only [St.put]
           refine gq (by kernel_rfl) ?_
           refine gn rfl (.inl rfl) zN (gl zG zG zG zG fun n o q1 q2 q3 q4 h => ?_)
           have hn := hlt n o h
           (try dsimp only)
           repeat (first | exact h | rw [cv (by omega)] | rw [e8 (by omega)])
          exact aw
         exact aw
        exact aw
       exact aw
      exact aw
     refine am ?_ ?_
     ·try dsimp only [St.put]
      refine cj rfl rfl rfl (ct rfl rfl rfl (by decide) (by decide) zR (by decide) ⟨zD, ?_⟩)
      refine ax [16] (by kernel_rfl) (by simp) ?_
      refine am ?_ ?_
      ·try dsimp only [St.put]
       refine cj rfl rfl rfl (ce ([dl p.text x]) rfl rfl zG zE rfl rfl zA ⟨zD, ?_⟩ zA)
       refine ax [23] (by kernel_rfl) (by simp) ?_
       refine am ?_ ?_
       ·try dsimp only [St.put]
        refine bw rfl rfl rfl rfl (ce ([eg p.text x]) rfl rfl zG zE rfl rfl zA ?_ zA)
        refine cy [(24, none), (25, none)] 7 (rl [26, 7]) (by kernel_rfl) ?_
        refine ae rfl rfl rfl rfl (cp rfl rfl) ?_
        refine ae rfl rfl rfl rfl (bn rfl rfl) ?_
        refine ba ⟨zD, ?_⟩
        refine ax [26] (by kernel_rfl) (by simp) ?_
        refine am ?_ ?_
        ·try dsimp only [St.put]
         refine bw rfl rfl rfl rfl (cn rfl rfl rfl zG (by constructor) rfl zO ?_)
         refine cy [(27, none), (28, none)] 4 (rl [29, 4]) (by kernel_rfl) ?_
         refine ae rfl rfl rfl rfl (cp rfl rfl) ?_
         refine ae rfl rfl rfl rfl (bn rfl rfl) ?_
         refine ba ⟨zD, ?_⟩
         refine ax [29] (by kernel_rfl) (by simp) ?_
         refine am ?_ ?_
         ·try dsimp only [St.put]
          refine bw rfl rfl rfl rfl (cn rfl rfl rfl zG (by constructor) rfl zO ?_)
          refine cy [(30, none), (31, none)] 1 (rl [32, 1]) (by kernel_rfl) ?_
          refine ae rfl rfl rfl rfl (cp rfl rfl) ?_
          refine ae rfl rfl rfl rfl (bn rfl rfl) ?_
          refine ba ⟨zD, ?_⟩
          refine ax [32] (by kernel_rfl) (by simp) ?_
          refine am ?_ ?_
          ·try dsimp only [St.put]
           refine bw rfl rfl rfl rfl (cn rfl rfl rfl zG (by constructor) rfl zO ?_)
           dsimp only [St.put]
           refine gq (by kernel_rfl) ?_
           refine gn rfl (.inl rfl) zN (gl zG zG zG zG fun n o q1 q2 q3 q4 h => ?_)
           have hn := hlt n o h
           (try dsimp only)
           repeat (first | exact h | rw [cv (by omega)] | rw [e8 (by omega)])
          exact aw
         exact aw
        exact aw
       exact aw
      exact aw
     exact aw
    refine am ?_ ?_
    ·try dsimp only [St.put]
     refine cj rfl rfl rfl (ct rfl rfl rfl (by decide) (by decide) zR (by decide) ⟨zD, ?_⟩)
     refine ax [15] (by kernel_rfl) (by simp) ?_
     refine am ?_ ?_
     ·try dsimp only [St.put]
      refine cj rfl rfl rfl (ct rfl rfl rfl (by decide) (by decide) zR (by decide) ⟨zD, ?_⟩)
      refine ax [16] (by kernel_rfl) (by simp) ?_
      refine am ?_ ?_
      ·try dsimp only [St.put]
       refine cj rfl rfl rfl (ce ([dl p.text x]) rfl rfl zG zE rfl rfl zA ⟨zD, ?_⟩ zA)
       refine ax [23] (by kernel_rfl) (by simp) ?_
       refine am ?_ ?_
       ·try dsimp only [St.put]
        refine bw rfl rfl rfl rfl (ce ([eg p.text x]) rfl rfl zG zE rfl rfl zA ?_ zA)
        refine cy [(24, none), (25, none)] 7 (rl [26, 7]) (by kernel_rfl) ?_
        refine ae rfl rfl rfl rfl (cp rfl rfl) ?_
        refine ae rfl rfl rfl rfl (bn rfl rfl) ?_
        refine ba ⟨zD, ?_⟩
        refine ax [26] (by kernel_rfl) (by simp) ?_
        refine am ?_ ?_
        ·try dsimp only [St.put]
         refine bw rfl rfl rfl rfl (cn rfl rfl rfl zG (by constructor) rfl zO ?_)
         refine cy [(27, none), (28, none)] 4 (rl [29, 4]) (by kernel_rfl) ?_
         refine ae rfl rfl rfl rfl (cp rfl rfl) ?_
         refine ae rfl rfl rfl rfl (bn rfl rfl) ?_
         refine ba ⟨zD, ?_⟩
         refine ax [29] (by kernel_rfl) (by simp) ?_
         refine am ?_ ?_
         ·try dsimp only [St.put]
          refine bw rfl rfl rfl rfl (cn rfl rfl rfl zG (by constructor) rfl zO ?_)
          refine cy [(30, none), (31, none)] 1 (rl [32, 1]) (by kernel_rfl) ?_
          refine ae rfl rfl rfl rfl (cp rfl rfl) ?_
          refine ae rfl rfl rfl rfl (bn rfl rfl) ?_
          refine ba ⟨zD, ?_⟩
          refine ax [32] (by kernel_rfl) (by simp) ?_
          refine am ?_ ?_
          ·try dsimp only [St.put]
           refine bw rfl rfl rfl rfl (cn rfl rfl rfl zG (by constructor) rfl zO ?_)
           dsimp only [St.put]
           refine gq (by kernel_rfl) ?_
           refine gn rfl (.inl rfl) zN (gl zG zG zG zG fun n o q1 q2 q3 q4 h => ?_)
           have hn := hlt n o h
           (try dsimp only)
           repeat (first | exact h | rw [cv (by omega)] | rw [e8 (by omega)])
          exact aw
         exact aw
        exact aw
       exact aw
      exact aw
     exact aw
    exact aw
   refine am ?_ ?_
   ·try dsimp only [St.put]
    refine cj rfl rfl rfl (ct rfl rfl rfl (by decide) (by decide) zR (by decide) ⟨zD, ?_⟩)
    refine ax [9, 22] (by kernel_rfl) (by simp) ?_
    refine am ?_ ?_
    ·try dsimp only [St.put]
     refine cj rfl rfl rfl (ce ([(ec p.text x : Int)]) rfl rfl zG zE rfl rfl zA ⟨zD, ?_⟩ zA)
     refine ax [16, 22] (by kernel_rfl) (by simp) ?_
     refine am ?_ ?_
     ·try dsimp only [St.put]
      refine cj rfl rfl rfl (ce ([dl p.text x]) rfl rfl zG zE rfl rfl zA ⟨zD, ?_⟩ zA)
      refine ax [22] (by kernel_rfl) (by simp) ?_
      refine am ?_ ?_
      ·try dsimp only [St.put]
       refine cj rfl rfl rfl (ct rfl rfl rfl (by decide) (by decide) zR (by decide) ⟨zD, ?_⟩)
       refine ax [23] (by kernel_rfl) (by simp) ?_
       refine am ?_ ?_
       ·try dsimp only [St.put]
        refine bw rfl rfl rfl rfl (ce ([eg p.text x]) rfl rfl zG zE rfl rfl zA ?_ zA)
        refine cy [(24, none), (25, none)] 7 (rl [26, 7]) (by kernel_rfl) ?_
        refine ae rfl rfl rfl rfl (cp rfl rfl) ?_
        refine ae rfl rfl rfl rfl (bn rfl rfl) ?_
        refine ba ⟨zD, ?_⟩
        refine ax [26] (by kernel_rfl) (by simp) ?_
        refine am ?_ ?_
        ·try dsimp only [St.put]
         refine bw rfl rfl rfl rfl (cn rfl rfl rfl zG (by constructor) rfl zO ?_)
         refine cy [(27, none), (28, none)] 4 (rl [29, 4]) (by kernel_rfl) ?_
         refine ae rfl rfl rfl rfl (cp rfl rfl) ?_
         refine ae rfl rfl rfl rfl (bn rfl rfl) ?_
         refine ba ⟨zD, ?_⟩
         refine ax [29] (by kernel_rfl) (by simp) ?_
         refine am ?_ ?_
         ·try dsimp only [St.put]
          refine bw rfl rfl rfl rfl (cn rfl rfl rfl zG (by constructor) rfl zO ?_)
          refine cy [(30, none), (31, none)] 1 (rl [32, 1]) (by kernel_rfl) ?_
          refine ae rfl rfl rfl rfl (cp rfl rfl) ?_
          refine ae rfl rfl rfl rfl (bn rfl rfl) ?_
          refine ba ⟨zD, ?_⟩
          refine ax [32] (by kernel_rfl) (by simp) ?_
          refine am ?_ ?_
          ·try dsimp only [St.put]
           refine bw rfl rfl rfl rfl (cn rfl rfl rfl zG (by constructor) rfl zO ?_)
           dsimp only [St.put]
           refine gq (by kernel_rfl) ?_
           refine gn rfl (.inl rfl) zN (gl zG zG zG zG fun n o q1 q2 q3 q4 h => ?_)
           have hn := hlt n o h
           (try dsimp only)
           repeat (first | exact h | rw [cv (by omega)] | rw [e8 (by omega)])
          exact aw
         exact aw
        exact aw
       exact aw
      exact aw
     refine am ?_ ?_
     ·try dsimp only [St.put]
      refine cj rfl rfl rfl (ct rfl rfl rfl (by decide) (by decide) zR (by decide) ⟨zD, ?_⟩)
      refine ax [16] (by kernel_rfl) (by simp) ?_
      refine am ?_ ?_
      ·try dsimp only [St.put]
       refine cj rfl rfl rfl (ce ([dl p.text x]) rfl rfl zG zE rfl rfl zA ⟨zD, ?_⟩ zA)
       refine ax [23] (by kernel_rfl) (by simp) ?_
       refine am ?_ ?_
       ·try dsimp only [St.put]
        refine bw rfl rfl rfl rfl (ce ([eg p.text x]) rfl rfl zG zE rfl rfl zA ?_ zA)
        refine cy [(24, none), (25, none)] 7 (rl [26, 7]) (by kernel_rfl) ?_
        refine ae rfl rfl rfl rfl (cp rfl rfl) ?_
        refine ae rfl rfl rfl rfl (bn rfl rfl) ?_
        refine ba ⟨zD, ?_⟩
        refine ax [26] (by kernel_rfl) (by simp) ?_
        refine am ?_ ?_
        ·try dsimp only [St.put]
         refine bw rfl rfl rfl rfl (cn rfl rfl rfl zG (by constructor) rfl zO ?_)
         refine cy [(27, none), (28, none)] 4 (rl [29, 4]) (by kernel_rfl) ?_
         refine ae rfl rfl rfl rfl (cp rfl rfl) ?_
         refine ae rfl rfl rfl rfl (bn rfl rfl) ?_
         refine ba ⟨zD, ?_⟩
         refine ax [29] (by kernel_rfl) (by simp) ?_
         refine am ?_ ?_
         ·try dsimp only [St.put]
          refine bw rfl rfl rfl rfl (cn rfl rfl rfl zG (by constructor) rfl zO ?_)
          refine cy [(30, none), (31, none)] 1 (rl [32, 1]) (by kernel_rfl) ?_
          refine ae rfl rfl rfl rfl (cp rfl rfl) ?_
          refine ae rfl rfl rfl rfl (bn rfl rfl) ?_
          refine ba ⟨zD, ?_⟩
          refine ax [32] (by kernel_rfl) (by simp) ?_
          refine am ?_ ?_
          ·try dsimp only [St.put]
           refine bw rfl rfl rfl rfl (cn rfl rfl rfl zG (by constructor) rfl zO ?_)
           dsimp only [St.put]
           refine gq (by kernel_rfl) ?_
           refine gn rfl (.inl rfl) zN (gl zG zG zG zG fun n o q1 q2 q3 q4 h => ?_)
           have hn := hlt n o h
           (try dsimp only)
           repeat (first | exact h | rw [cv (by omega)] | rw [e8 (by omega)])
          exact aw
         exact aw
        exact aw
       exact aw
      exact aw
     exact aw
    refine am ?_ ?_
    ·try dsimp only [St.put]
     refine cj rfl rfl rfl (ct rfl rfl rfl (by decide) (by decide) zR (by decide) ⟨zD, ?_⟩)
     refine ax [9] (by kernel_rfl) (by simp) ?_
     refine am ?_ ?_
     ·try dsimp only [St.put]
      refine cj rfl rfl rfl (ce ([(ec p.text x : Int)]) rfl rfl zG zE rfl rfl zA ⟨zD, ?_⟩ zA)
      refine ax [16] (by kernel_rfl) (by simp) ?_
      refine am ?_ ?_
      ·try dsimp only [St.put]
       refine cj rfl rfl rfl (ce ([dl p.text x]) rfl rfl zG zE rfl rfl zA ⟨zD, ?_⟩ zA)
       refine ax [23] (by kernel_rfl) (by simp) ?_
       refine am ?_ ?_
       ·try dsimp only [St.put]
        refine bw rfl rfl rfl rfl (ce ([eg p.text x]) rfl rfl zG zE rfl rfl zA ?_ zA)
        refine cy [(24, none), (25, none)] 7 (rl [26, 7]) (by kernel_rfl) ?_
        refine ae rfl rfl rfl rfl (cp rfl rfl) ?_
        refine ae rfl rfl rfl rfl (bn rfl rfl) ?_
        refine ba ⟨zD, ?_⟩
        refine ax [26] (by kernel_rfl) (by simp) ?_
        refine am ?_ ?_
        ·try dsimp only [St.put]
         refine bw rfl rfl rfl rfl (cn rfl rfl rfl zG (by constructor) rfl zO ?_)
         refine cy [(27, none), (28, none)] 4 (rl [29, 4]) (by kernel_rfl) ?_
         refine ae rfl rfl rfl rfl (cp rfl rfl) ?_
         refine ae rfl rfl rfl rfl (bn rfl rfl) ?_
         refine ba ⟨zD, ?_⟩
         refine ax [29] (by kernel_rfl) (by simp) ?_
         refine am ?_ ?_
         ·try dsimp only [St.put]
          refine bw rfl rfl rfl rfl (cn rfl rfl rfl zG (by constructor) rfl zO ?_)
          refine cy [(30, none), (31, none)] 1 (rl [32, 1]) (by kernel_rfl) ?_
          refine ae rfl rfl rfl rfl (cp rfl rfl) ?_
          refine ae rfl rfl rfl rfl (bn rfl rfl) ?_
          refine ba ⟨zD, ?_⟩
          refine ax [32] (by kernel_rfl) (by simp) ?_
          refine am ?_ ?_
          ·try dsimp only [St.put]
           refine bw rfl rfl rfl rfl (cn rfl rfl rfl zG (by constructor) rfl zO ?_)
           dsimp only [St.put]
           refine gq (by kernel_rfl) ?_
           refine gn rfl (.inl rfl) zN (gl zG zG zG zG fun n o q1 q2 q3 q4 h => ?_)
           have hn := hlt n o h
           (try dsimp only)
           repeat (first | exact h | rw [cv (by omega)] | rw [e8 (by omega)])
          exact aw
         exact aw
        exact aw
       exact aw
      exact aw
     exact aw
    exact aw
   refine am ?_ ?_
   ·try dsimp only [St.put]
    refine cj rfl rfl rfl (ct rfl rfl rfl (by decide) (by decide) zR (by decide) ⟨zD, ?_⟩)
    refine ax [9, 15] (by kernel_rfl) (by simp) ?_
    refine am ?_ ?_
    ·try dsimp only [St.put]
     refine cj rfl rfl rfl (ce ([(ec p.text x : Int)]) rfl rfl zG zE rfl rfl zA ⟨zD, ?_⟩ zA)
     refine ax [15] (by kernel_rfl) (by simp) ?_
     refine am ?_ ?_
     ·try dsimp only [St.put]
      refine cj rfl rfl rfl (ct rfl rfl rfl (by decide) (by decide) zR (by decide) ⟨zD, ?_⟩)
      refine ax [16] (by kernel_rfl) (by simp) ?_
      refine am ?_ ?_
      ·try dsimp only [St.put]
       refine cj rfl rfl rfl (ce ([dl p.text x]) rfl rfl zG zE rfl rfl zA ⟨zD, ?_⟩ zA)
       refine ax [23] (by kernel_rfl) (by simp) ?_
       refine am ?_ ?_
       ·try dsimp only [St.put]
        refine bw rfl rfl rfl rfl (ce ([eg p.text x]) rfl rfl zG zE rfl rfl zA ?_ zA)
        refine cy [(24, none), (25, none)] 7 (rl [26, 7]) (by kernel_rfl) ?_
        refine ae rfl rfl rfl rfl (cp rfl rfl) ?_
        refine ae rfl rfl rfl rfl (bn rfl rfl) ?_
        refine ba ⟨zD, ?_⟩
        refine ax [26] (by kernel_rfl) (by simp) ?_
        refine am ?_ ?_
        ·try dsimp only [St.put]
         refine bw rfl rfl rfl rfl (cn rfl rfl rfl zG (by constructor) rfl zO ?_)
         refine cy [(27, none), (28, none)] 4 (rl [29, 4]) (by kernel_rfl) ?_
         refine ae rfl rfl rfl rfl (cp rfl rfl) ?_
         refine ae rfl rfl rfl rfl (bn rfl rfl) ?_
         refine ba ⟨zD, ?_⟩
         refine ax [29] (by kernel_rfl) (by simp) ?_
         refine am ?_ ?_
         ·try dsimp only [St.put]
          refine bw rfl rfl rfl rfl (cn rfl rfl rfl zG (by constructor) rfl zO ?_)
          refine cy [(30, none), (31, none)] 1 (rl [32, 1]) (by kernel_rfl) ?_
          refine ae rfl rfl rfl rfl (cp rfl rfl) ?_
          refine ae rfl rfl rfl rfl (bn rfl rfl) ?_
          refine ba ⟨zD, ?_⟩
          refine ax [32] (by kernel_rfl) (by simp) ?_
          refine am ?_ ?_
          ·try dsimp only [St.put]
           refine bw rfl rfl rfl rfl (cn rfl rfl rfl zG (by constructor) rfl zO ?_)
           dsimp only [St.put]
           refine gq (by kernel_rfl) ?_
           refine gn rfl (.inl rfl) zN (gl zG zG zG zG fun n o q1 q2 q3 q4 h => ?_)
           have hn := hlt n o h
           (try dsimp only)
           repeat (first | exact h | rw [cv (by omega)] | rw [e8 (by omega)])
          exact aw
         exact aw
        exact aw
       exact aw
      exact aw
     exact aw
    refine am ?_ ?_
    ·try dsimp only [St.put]
     refine cj rfl rfl rfl (ct rfl rfl rfl (by decide) (by decide) zR (by decide) ⟨zD, ?_⟩)
     refine ax [9] (by kernel_rfl) (by simp) ?_
     refine am ?_ ?_
     ·try dsimp only [St.put]
      refine cj rfl rfl rfl (ce ([(ec p.text x : Int)]) rfl rfl zG zE rfl rfl zA ⟨zD, ?_⟩ zA)
      refine ax [16] (by kernel_rfl) (by simp) ?_
      refine am ?_ ?_
      ·try dsimp only [St.put]
       refine cj rfl rfl rfl (ce ([dl p.text x]) rfl rfl zG zE rfl rfl zA ⟨zD, ?_⟩ zA)
       refine ax [23] (by kernel_rfl) (by simp) ?_
       refine am ?_ ?_
       ·try dsimp only [St.put]
        refine bw rfl rfl rfl rfl (ce ([eg p.text x]) rfl rfl zG zE rfl rfl zA ?_ zA)
        refine cy [(24, none), (25, none)] 7 (rl [26, 7]) (by kernel_rfl) ?_
        refine ae rfl rfl rfl rfl (cp rfl rfl) ?_
        refine ae rfl rfl rfl rfl (bn rfl rfl) ?_
        refine ba ⟨zD, ?_⟩
        refine ax [26] (by kernel_rfl) (by simp) ?_
        refine am ?_ ?_
        ·try dsimp only [St.put]
         refine bw rfl rfl rfl rfl (cn rfl rfl rfl zG (by constructor) rfl zO ?_)
         refine cy [(27, none), (28, none)] 4 (rl [29, 4]) (by kernel_rfl) ?_
         refine ae rfl rfl rfl rfl (cp rfl rfl) ?_
         refine ae rfl rfl rfl rfl (bn rfl rfl) ?_
         refine ba ⟨zD, ?_⟩
         refine ax [29] (by kernel_rfl) (by simp) ?_
         refine am ?_ ?_
         ·try dsimp only [St.put]
          refine bw rfl rfl rfl rfl (cn rfl rfl rfl zG (by constructor) rfl zO ?_)
          refine cy [(30, none), (31, none)] 1 (rl [32, 1]) (by kernel_rfl) ?_
          refine ae rfl rfl rfl rfl (cp rfl rfl) ?_
          refine ae rfl rfl rfl rfl (bn rfl rfl) ?_
          refine ba ⟨zD, ?_⟩
          refine ax [32] (by kernel_rfl) (by simp) ?_
          refine am ?_ ?_
          ·try dsimp only [St.put]
           refine bw rfl rfl rfl rfl (cn rfl rfl rfl zG (by constructor) rfl zO ?_)
           dsimp only [St.put]
           refine gq (by kernel_rfl) ?_
           refine gn rfl (.inl rfl) zN (gl zG zG zG zG fun n o q1 q2 q3 q4 h => ?_)
           have hn := hlt n o h
           (try dsimp only)
           repeat (first | exact h | rw [cv (by omega)] | rw [e8 (by omega)])
          exact aw
         exact aw
        exact aw
       exact aw
      exact aw
     exact aw
    exact aw
   exact aw
  refine am ?_ ?_
  ·try dsimp only [St.put]
   refine cj rfl rfl rfl (ct rfl rfl rfl (by decide) (by decide) zR (by decide) ⟨zD, ?_⟩)
   refine ax [8, 22] (by kernel_rfl) (by simp) ?_
   refine am ?_ ?_
   ·try dsimp only [St.put]
    refine cj rfl rfl rfl (ct rfl rfl rfl (by decide) (by decide) zR (by decide) ⟨zD, ?_⟩)
    refine ax [9, 22] (by kernel_rfl) (by simp) ?_
    refine am ?_ ?_
    ·try dsimp only [St.put]
     refine cj rfl rfl rfl (ce ([(ec p.text x : Int)]) rfl rfl zG zE rfl rfl zA ⟨zD, ?_⟩ zA)
     refine ax [16, 22] (by kernel_rfl) (by simp) ?_
     refine am ?_ ?_
     ·try dsimp only [St.put]
      refine cj rfl rfl rfl (ce ([dl p.text x]) rfl rfl zG zE rfl rfl zA ⟨zD, ?_⟩ zA)
      refine ax [22] (by kernel_rfl) (by simp) ?_
      refine am ?_ ?_
      ·try dsimp only [St.put]
       refine cj rfl rfl rfl (ct rfl rfl rfl (by decide) (by decide) zR (by decide) ⟨zD, ?_⟩)
       refine ax [23] (by kernel_rfl) (by simp) ?_
       refine am ?_ ?_
       ·try dsimp only [St.put]
        refine bw rfl rfl rfl rfl (ce ([eg p.text x]) rfl rfl zG zE rfl rfl zA ?_ zA)
        refine cy [(24, none), (25, none)] 7 (rl [26, 7]) (by kernel_rfl) ?_
        refine ae rfl rfl rfl rfl (cp rfl rfl) ?_
        refine ae rfl rfl rfl rfl (bn rfl rfl) ?_
        refine ba ⟨zD, ?_⟩
        refine ax [26] (by kernel_rfl) (by simp) ?_
        refine am ?_ ?_
        ·try dsimp only [St.put]
         refine bw rfl rfl rfl rfl (cn rfl rfl rfl zG (by constructor) rfl zO ?_)
         refine cy [(27, none), (28, none)] 4 (rl [29, 4]) (by kernel_rfl) ?_
         refine ae rfl rfl rfl rfl (cp rfl rfl) ?_
         refine ae rfl rfl rfl rfl (bn rfl rfl) ?_
         refine ba ⟨zD, ?_⟩
         refine ax [29] (by kernel_rfl) (by simp) ?_
         refine am ?_ ?_
         ·try dsimp only [St.put]
          refine bw rfl rfl rfl rfl (cn rfl rfl rfl zG (by constructor) rfl zO ?_)
          refine cy [(30, none), (31, none)] 1 (rl [32, 1]) (by kernel_rfl) ?_
          refine ae rfl rfl rfl rfl (cp rfl rfl) ?_
          refine ae rfl rfl rfl rfl (bn rfl rfl) ?_
          refine ba ⟨zD, ?_⟩
          refine ax [32] (by kernel_rfl) (by simp) ?_
          refine am ?_ ?_
          ·try dsimp only [St.put]
           refine bw rfl rfl rfl rfl (cn rfl rfl rfl zG (by constructor) rfl zO ?_)
           dsimp only [St.put]
           refine gq (by kernel_rfl) ?_
           refine gn rfl (.inl rfl) zN (gl zG zG zG zG fun n o q1 q2 q3 q4 h => ?_)
           have hn := hlt n o h
           (try dsimp only)
           repeat (first | exact h | rw [cv (by omega)] | rw [e8 (by omega)])
          exact aw
         exact aw
        exact aw
       exact aw
      exact aw
     refine am ?_ ?_
     ·try dsimp only [St.put]
      refine cj rfl rfl rfl (ct rfl rfl rfl (by decide) (by decide) zR (by decide) ⟨zD, ?_⟩)
      refine ax [16] (by kernel_rfl) (by simp) ?_
      refine am ?_ ?_
      ·try dsimp only [St.put]
       refine cj rfl rfl rfl (ce ([dl p.text x]) rfl rfl zG zE rfl rfl zA ⟨zD, ?_⟩ zA)
       refine ax [23] (by kernel_rfl) (by simp) ?_
       refine am ?_ ?_
       ·try dsimp only [St.put]
        refine bw rfl rfl rfl rfl (ce ([eg p.text x]) rfl rfl zG zE rfl rfl zA ?_ zA)
        refine cy [(24, none), (25, none)] 7 (rl [26, 7]) (by kernel_rfl) ?_
        refine ae rfl rfl rfl rfl (cp rfl rfl) ?_
        refine ae rfl rfl rfl rfl (bn rfl rfl) ?_
        refine ba ⟨zD, ?_⟩
        refine ax [26] (by kernel_rfl) (by simp) ?_
        refine am ?_ ?_
        ·try dsimp only [St.put]
         refine bw rfl rfl rfl rfl (cn rfl rfl rfl zG (by constructor) rfl zO ?_)
         refine cy [(27, none), (28, none)] 4 (rl [29, 4]) (by kernel_rfl) ?_
         refine ae rfl rfl rfl rfl (cp rfl rfl) ?_
         refine ae rfl rfl rfl rfl (bn rfl rfl) ?_
         refine ba ⟨zD, ?_⟩
         refine ax [29] (by kernel_rfl) (by simp) ?_
         refine am ?_ ?_
         ·try dsimp only [St.put]
          refine bw rfl rfl rfl rfl (cn rfl rfl rfl zG (by constructor) rfl zO ?_)
          refine cy [(30, none), (31, none)] 1 (rl [32, 1]) (by kernel_rfl) ?_
          refine ae rfl rfl rfl rfl (cp rfl rfl) ?_
          refine ae rfl rfl rfl rfl (bn rfl rfl) ?_
          refine ba ⟨zD, ?_⟩
          refine ax [32] (by kernel_rfl) (by simp) ?_
          refine am ?_ ?_
          ·try dsimp only [St.put]
           refine bw rfl rfl rfl rfl (cn rfl rfl rfl zG (by constructor) rfl zO ?_)
           dsimp only [St.put]
           refine gq (by kernel_rfl) ?_
           refine gn rfl (.inl rfl) zN (gl zG zG zG zG fun n o q1 q2 q3 q4 h => ?_)
           have hn := hlt n o h
           (try dsimp only)
           repeat (first | exact h | rw [cv (by omega)] | rw [e8 (by omega)])
          exact aw
         exact aw
        exact aw
       exact aw
      exact aw
     exact aw
    refine am ?_ ?_
    ·try dsimp only [St.put]
     refine cj rfl rfl rfl (ct rfl rfl rfl (by decide) (by decide) zR (by decide) ⟨zD, ?_⟩)
     refine ax [9] (by kernel_rfl) (by simp) ?_
     refine am ?_ ?_
     ·try dsimp only [St.put]
      refine cj rfl rfl rfl (ce ([(ec p.text x : Int)]) rfl rfl zG zE rfl rfl zA ⟨zD, ?_⟩ zA)
      refine ax [16] (by kernel_rfl) (by simp) ?_
      refine am ?_ ?_
      ·try dsimp only [St.put]
       refine cj rfl rfl rfl (ce ([dl p.text x]) rfl rfl zG zE rfl rfl zA ⟨zD, ?_⟩ zA)
       refine ax [23] (by kernel_rfl) (by simp) ?_
       refine am ?_ ?_
       ·try dsimp only [St.put]
        refine bw rfl rfl rfl rfl (ce ([eg p.text x]) rfl rfl zG zE rfl rfl zA ?_ zA)
        refine cy [(24, none), (25, none)] 7 (rl [26, 7]) (by kernel_rfl) ?_
        refine ae rfl rfl rfl rfl (cp rfl rfl) ?_
        refine ae rfl rfl rfl rfl (bn rfl rfl) ?_
        refine ba ⟨zD, ?_⟩
        refine ax [26] (by kernel_rfl) (by simp) ?_
        refine am ?_ ?_
        ·try dsimp only [St.put]
         refine bw rfl rfl rfl rfl (cn rfl rfl rfl zG (by constructor) rfl zO ?_)
         refine cy [(27, none), (28, none)] 4 (rl [29, 4]) (by kernel_rfl) ?_
         refine ae rfl rfl rfl rfl (cp rfl rfl) ?_
         refine ae rfl rfl rfl rfl (bn rfl rfl) ?_
         refine ba ⟨zD, ?_⟩
         refine ax [29] (by kernel_rfl) (by simp) ?_
         refine am ?_ ?_
         ·try dsimp only [St.put]
          refine bw rfl rfl rfl rfl (cn rfl rfl rfl zG (by constructor) rfl zO ?_)
          refine cy [(30, none), (31, none)] 1 (rl [32, 1]) (by kernel_rfl) ?_
          refine ae rfl rfl rfl rfl (cp rfl rfl) ?_
          refine ae rfl rfl rfl rfl (bn rfl rfl) ?_
          refine ba ⟨zD, ?_⟩
          refine ax [32] (by kernel_rfl) (by simp) ?_
          refine am ?_ ?_
          ·try dsimp only [St.put]
           refine bw rfl rfl rfl rfl (cn rfl rfl rfl zG (by constructor) rfl zO ?_)
           dsimp only [St.put]
           refine gq (by kernel_rfl) ?_
           refine gn rfl (.inl rfl) zN (gl zG zG zG zG fun n o q1 q2 q3 q4 h => ?_)
           have hn := hlt n o h
           (try dsimp only)
           repeat (first | exact h | rw [cv (by omega)] | rw [e8 (by omega)])
          exact aw
         exact aw
        exact aw
       exact aw
      exact aw
     exact aw
    exact aw
   refine am ?_ ?_
   ·try dsimp only [St.put]
    refine cj rfl rfl rfl (ct rfl rfl rfl (by decide) (by decide) zR (by decide) ⟨zD, ?_⟩)
    refine ax [8] (by kernel_rfl) (by simp) ?_
    refine am ?_ ?_
    ·try dsimp only [St.put]
     refine cj rfl rfl rfl (ct rfl rfl rfl (by decide) (by decide) zR (by decide) ⟨zD, ?_⟩)
     refine ax [9] (by kernel_rfl) (by simp) ?_
     refine am ?_ ?_
     ·try dsimp only [St.put]
      refine cj rfl rfl rfl (ce ([(ec p.text x : Int)]) rfl rfl zG zE rfl rfl zA ⟨zD, ?_⟩ zA)
      refine ax [16] (by kernel_rfl) (by simp) ?_
      refine am ?_ ?_
      ·try dsimp only [St.put]
       refine cj rfl rfl rfl (ce ([dl p.text x]) rfl rfl zG zE rfl rfl zA ⟨zD, ?_⟩ zA)
       refine ax [23] (by kernel_rfl) (by simp) ?_
       refine am ?_ ?_
       ·try dsimp only [St.put]
        refine bw rfl rfl rfl rfl (ce ([eg p.text x]) rfl rfl zG zE rfl rfl zA ?_ zA)
        refine cy [(24, none), (25, none)] 7 (rl [26, 7]) (by kernel_rfl) ?_
        refine ae rfl rfl rfl rfl (cp rfl rfl) ?_
        refine ae rfl rfl rfl rfl (bn rfl rfl) ?_
        refine ba ⟨zD, ?_⟩
        refine ax [26] (by kernel_rfl) (by simp) ?_
        refine am ?_ ?_
        ·try dsimp only [St.put]
         refine bw rfl rfl rfl rfl (cn rfl rfl rfl zG (by constructor) rfl zO ?_)
         refine cy [(27, none), (28, none)] 4 (rl [29, 4]) (by kernel_rfl) ?_
         refine ae rfl rfl rfl rfl (cp rfl rfl) ?_
         refine ae rfl rfl rfl rfl (bn rfl rfl) ?_
         refine ba ⟨zD, ?_⟩
         refine ax [29] (by kernel_rfl) (by simp) ?_
         refine am ?_ ?_
         ·try dsimp only [St.put]
          refine bw rfl rfl rfl rfl (cn rfl rfl rfl zG (by constructor) rfl zO ?_)
          refine cy [(30, none), (31, none)] 1 (rl [32, 1]) (by kernel_rfl) ?_
          refine ae rfl rfl rfl rfl (cp rfl rfl) ?_
          refine ae rfl rfl rfl rfl (bn rfl rfl) ?_
          refine ba ⟨zD, ?_⟩
          refine ax [32] (by kernel_rfl) (by simp) ?_
          refine am ?_ ?_
          ·try dsimp only [St.put]
           refine bw rfl rfl rfl rfl (cn rfl rfl rfl zG (by constructor) rfl zO ?_)
           dsimp only [St.put]
           refine gq (by kernel_rfl) ?_
           refine gn rfl (.inl rfl) zN (gl zG zG zG zG fun n o q1 q2 q3 q4 h => ?_)
           have hn := hlt n o h
           (try dsimp only)
           repeat (first | exact h | rw [cv (by omega)] | rw [e8 (by omega)])
          exact aw
         exact aw
        exact aw
       exact aw
      exact aw
     exact aw
    exact aw
   exact aw
  refine am ?_ ?_
  ·try dsimp only [St.put]
   refine cj rfl rfl rfl (ct rfl rfl rfl (by decide) (by decide) zR (by decide) ⟨zD, ?_⟩)
   refine ax [8, 15] (by kernel_rfl) (by simp) ?_
   refine am ?_ ?_
   ·try dsimp only [St.put]
    refine cj rfl rfl rfl (ct rfl rfl rfl (by decide) (by decide) zR (by decide) ⟨zD, ?_⟩)
    refine ax [9, 15] (by kernel_rfl) (by simp) ?_
    refine am ?_ ?_
    ·try dsimp only [St.put]
     refine cj rfl rfl rfl (ce ([(ec p.text x : Int)]) rfl rfl zG zE rfl rfl zA ⟨zD, ?_⟩ zA)
     refine ax [15] (by kernel_rfl) (by simp) ?_
     refine am ?_ ?_
     ·try dsimp only [St.put]
      refine cj rfl rfl rfl (ct rfl rfl rfl (by decide) (by decide) zR (by decide) ⟨zD, ?_⟩)
      refine ax [16] (by kernel_rfl) (by simp) ?_
      refine am ?_ ?_
      ·try dsimp only [St.put]
       refine cj rfl rfl rfl (ce ([dl p.text x]) rfl rfl zG zE rfl rfl zA ⟨zD, ?_⟩ zA)
       refine ax [23] (by kernel_rfl) (by simp) ?_
       refine am ?_ ?_
       ·try dsimp only [St.put]
        refine bw rfl rfl rfl rfl (ce ([eg p.text x]) rfl rfl zG zE rfl rfl zA ?_ zA)
        refine cy [(24, none), (25, none)] 7 (rl [26, 7]) (by kernel_rfl) ?_
        refine ae rfl rfl rfl rfl (cp rfl rfl) ?_
        refine ae rfl rfl rfl rfl (bn rfl rfl) ?_
        refine ba ⟨zD, ?_⟩
        refine ax [26] (by kernel_rfl) (by simp) ?_
        refine am ?_ ?_
        ·try dsimp only [St.put]
         refine bw rfl rfl rfl rfl (cn rfl rfl rfl zG (by constructor) rfl zO ?_)
         refine cy [(27, none), (28, none)] 4 (rl [29, 4]) (by kernel_rfl) ?_
         refine ae rfl rfl rfl rfl (cp rfl rfl) ?_
         refine ae rfl rfl rfl rfl (bn rfl rfl) ?_
         refine ba ⟨zD, ?_⟩
         refine ax [29] (by kernel_rfl) (by simp) ?_
         refine am ?_ ?_
         ·try dsimp only [St.put]
          refine bw rfl rfl rfl rfl (cn rfl rfl rfl zG (by constructor) rfl zO ?_)
          refine cy [(30, none), (31, none)] 1 (rl [32, 1]) (by kernel_rfl) ?_
          refine ae rfl rfl rfl rfl (cp rfl rfl) ?_
          refine ae rfl rfl rfl rfl (bn rfl rfl) ?_
          refine ba ⟨zD, ?_⟩
          refine ax [32] (by kernel_rfl) (by simp) ?_
          refine am ?_ ?_
          ·try dsimp only [St.put]
           refine bw rfl rfl rfl rfl (cn rfl rfl rfl zG (by constructor) rfl zO ?_)
           dsimp only [St.put]
           refine gq (by kernel_rfl) ?_
           refine gn rfl (.inl rfl) zN (gl zG zG zG zG fun n o q1 q2 q3 q4 h => ?_)
           have hn := hlt n o h
           (try dsimp only)
           repeat (first | exact h | rw [cv (by omega)] | rw [e8 (by omega)])
          exact aw
         exact aw
        exact aw
       exact aw
      exact aw
     exact aw
    refine am ?_ ?_
    ·try dsimp only [St.put]
     refine cj rfl rfl rfl (ct rfl rfl rfl (by decide) (by decide) zR (by decide) ⟨zD, ?_⟩)
     refine ax [9] (by kernel_rfl) (by simp) ?_
     refine am ?_ ?_
     ·try dsimp only [St.put]
      refine cj rfl rfl rfl (ce ([(ec p.text x : Int)]) rfl rfl zG zE rfl rfl zA ⟨zD, ?_⟩ zA)
      refine ax [16] (by kernel_rfl) (by simp) ?_
      refine am ?_ ?_
      ·try dsimp only [St.put]
       refine cj rfl rfl rfl (ce ([dl p.text x]) rfl rfl zG zE rfl rfl zA ⟨zD, ?_⟩ zA)
       refine ax [23] (by kernel_rfl) (by simp) ?_
       refine am ?_ ?_
       ·try dsimp only [St.put]
        refine bw rfl rfl rfl rfl (ce ([eg p.text x]) rfl rfl zG zE rfl rfl zA ?_ zA)
        refine cy [(24, none), (25, none)] 7 (rl [26, 7]) (by kernel_rfl) ?_
        refine ae rfl rfl rfl rfl (cp rfl rfl) ?_
        refine ae rfl rfl rfl rfl (bn rfl rfl) ?_
        refine ba ⟨zD, ?_⟩
        refine ax [26] (by kernel_rfl) (by simp) ?_
        refine am ?_ ?_
        ·try dsimp only [St.put]
         refine bw rfl rfl rfl rfl (cn rfl rfl rfl zG (by constructor) rfl zO ?_)
         refine cy [(27, none), (28, none)] 4 (rl [29, 4]) (by kernel_rfl) ?_
         refine ae rfl rfl rfl rfl (cp rfl rfl) ?_
         refine ae rfl rfl rfl rfl (bn rfl rfl) ?_
         refine ba ⟨zD, ?_⟩
         refine ax [29] (by kernel_rfl) (by simp) ?_
         refine am ?_ ?_
         ·try dsimp only [St.put]
          refine bw rfl rfl rfl rfl (cn rfl rfl rfl zG (by constructor) rfl zO ?_)
          refine cy [(30, none), (31, none)] 1 (rl [32, 1]) (by kernel_rfl) ?_
          refine ae rfl rfl rfl rfl (cp rfl rfl) ?_
          refine ae rfl rfl rfl rfl (bn rfl rfl) ?_
          refine ba ⟨zD, ?_⟩
          refine ax [32] (by kernel_rfl) (by simp) ?_
          refine am ?_ ?_
          ·try dsimp only [St.put]
           refine bw rfl rfl rfl rfl (cn rfl rfl rfl zG (by constructor) rfl zO ?_)
           dsimp only [St.put]
           refine gq (by kernel_rfl) ?_
           refine gn rfl (.inl rfl) zN (gl zG zG zG zG fun n o q1 q2 q3 q4 h => ?_)
           have hn := hlt n o h
           (try dsimp only)
           repeat (first | exact h | rw [cv (by omega)] | rw [e8 (by omega)])
          exact aw
         exact aw
        exact aw
       exact aw
      exact aw
     exact aw
    exact aw
   refine am ?_ ?_
   ·try dsimp only [St.put]
    refine cj rfl rfl rfl (ct rfl rfl rfl (by decide) (by decide) zR (by decide) ⟨zD, ?_⟩)
    refine ax [8] (by kernel_rfl) (by simp) ?_
    refine am ?_ ?_
    ·try dsimp only [St.put]
     refine cj rfl rfl rfl (ct rfl rfl rfl (by decide) (by decide) zR (by decide) ⟨zD, ?_⟩)
     refine ax [9] (by kernel_rfl) (by simp) ?_
     refine am ?_ ?_
     ·try dsimp only [St.put]
      refine cj rfl rfl rfl (ce ([(ec p.text x : Int)]) rfl rfl zG zE rfl rfl zA ⟨zD, ?_⟩ zA)
      refine ax [16] (by kernel_rfl) (by simp) ?_
      refine am ?_ ?_
      ·try dsimp only [St.put]
       refine cj rfl rfl rfl (ce ([dl p.text x]) rfl rfl zG zE rfl rfl zA ⟨zD, ?_⟩ zA)
       refine ax [23] (by kernel_rfl) (by simp) ?_
       refine am ?_ ?_
       ·try dsimp only [St.put]
        refine bw rfl rfl rfl rfl (ce ([eg p.text x]) rfl rfl zG zE rfl rfl zA ?_ zA)
        refine cy [(24, none), (25, none)] 7 (rl [26, 7]) (by kernel_rfl) ?_
        refine ae rfl rfl rfl rfl (cp rfl rfl) ?_
        refine ae rfl rfl rfl rfl (bn rfl rfl) ?_
        refine ba ⟨zD, ?_⟩
        refine ax [26] (by kernel_rfl) (by simp) ?_
        refine am ?_ ?_
        ·try dsimp only [St.put]
         refine bw rfl rfl rfl rfl (cn rfl rfl rfl zG (by constructor) rfl zO ?_)
         refine cy [(27, none), (28, none)] 4 (rl [29, 4]) (by kernel_rfl) ?_
         refine ae rfl rfl rfl rfl (cp rfl rfl) ?_
         refine ae rfl rfl rfl rfl (bn rfl rfl) ?_
         refine ba ⟨zD, ?_⟩
         refine ax [29] (by kernel_rfl) (by simp) ?_
         refine am ?_ ?_
         ·try dsimp only [St.put]
          refine bw rfl rfl rfl rfl (cn rfl rfl rfl zG (by constructor) rfl zO ?_)
          refine cy [(30, none), (31, none)] 1 (rl [32, 1]) (by kernel_rfl) ?_
          refine ae rfl rfl rfl rfl (cp rfl rfl) ?_
          refine ae rfl rfl rfl rfl (bn rfl rfl) ?_
          refine ba ⟨zD, ?_⟩
          refine ax [32] (by kernel_rfl) (by simp) ?_
          refine am ?_ ?_
          ·try dsimp only [St.put]
           refine bw rfl rfl rfl rfl (cn rfl rfl rfl zG (by constructor) rfl zO ?_)
           dsimp only [St.put]
           refine gq (by kernel_rfl) ?_
           refine gn rfl (.inl rfl) zN (gl zG zG zG zG fun n o q1 q2 q3 q4 h => ?_)
           have hn := hlt n o h
           (try dsimp only)
           repeat (first | exact h | rw [cv (by omega)] | rw [e8 (by omega)])
          exact aw
         exact aw
        exact aw
       exact aw
      exact aw
     exact aw
    exact aw
   exact aw
  exact aw
 have hz0 := yj hym
 subst hz0
 obtain ⟨z, hz⟩ : ∃ z, z = y := ⟨_, rfl⟩
 subst hz
 have hIn : ∀ z ∈ ks, ∀ x ∈ done ++ [z], x ∈ ks := fun z hz x hx => by
  rcases List.mem_append.1 hx with hx | hx
  ·exact hI8.1 x hx
  rw [List.mem_singleton] at hx; exact hx ▸ hz
 have hIu : ∀ z, z ∉ done → (done ++ [z]).Nodup := fun z hz => List.nodup_append.2 ⟨hI8.2, by simp, fun a ha b hb => by
  rw [List.mem_singleton] at hb; subst hb; exact fun e => hz (e ▸ ha)⟩
 have hdl := vd hp hI8.2 (fun q hq => onceM_ne.1 ((hks0 q).2 (hI8.1 q hq)))
 refine yX rfl rfl rfl rfl ?_
 refine yN ?_
 dsimp only [St.put]
 refine K50 _ ?_
 refine yS fun _ K53 => ?_
 refine aq rfl (fun _ => ?_) (fun h => by cases h)
 refine az ?_
 refine K53 _ ?_
 refine bg ?_
 refine yS fun _ K54 => ?_
 refine yR ?_
 try dsimp only [St.put]
 refine ci rfl (ubc (fx := nx + 1 + 1 + 1 + 1) (n := nx) rfl rfl zG trivial zG zG trivial (by assumption)) ?_
 refine yX rfl rfl rfl rfl ?_
 try dsimp only [St.put]
 refine af rfl (dp rfl ?_)
 try dsimp only [St.put]
 refine af rfl (c4 rfl rfl rfl zG rfl rfl (by rfl) ?_)
 refine yN ?_
 dsimp only [St.put]
 refine K54 _ ?_
 refine f4 (i := 18) rfl zG zC ?_
 dsimp only
 refine yR ?_
 refine yM rfl rfl ?_
 try dsimp only [St.put]
 refine ci rfl (ed rfl rfl rfl) ?_
 try dsimp only [St.put]
 refine af rfl (ct rfl rfl rfl (by decide) (by decide) zR (by decide) ?_)
 try dsimp only [St.put]
 refine af rfl (fp (xs := eg p.text x ++ done) [z] rfl rfl zG rfl rfl rfl rfl zA zA (fun v3 => ?_))
 refine yA rfl rfl ?_
 refine yN ?_
 dsimp only [St.put]
 simp only [List.append_assoc]
 exact ⟨(done ++ [z], wi + 1, v3, wv), ude hyk hyd, ⟨hIn z hyk, hIu z hyd⟩, ⟨⟨rfl, rfl⟩, zF, zB, zN, zX⟩⟩
end Go.Proofs.YtbbdginipiljdaaGreatDoor
namespace Go.AB
open Go Go.RowKit
open Go.AB.Enc (cells)
open Go.PB (bh aj PlaceD bq bt br ca ay ah dj c9 du dt)
end Go.AB
namespace Go.Proofs.YtbbdginipiljdaaGreatDoor
set_option maxRecDepth 10000
open Go Go.RowKit Go.AB
open Go.AB.Enc (cells)
open Go.PB (bh aj PlaceD bq bt br ca ay ah dj c9 du dt)
theorem umc (l : List Int) (he : l = []) : Pure Tryz.prog 88 [lst l] (lst l) := by
 subst he
 refine da Tryz.func88 rfl (fun m => (ck _ _)) fun G nx => ?_
 simp only [Tryz.ntmps88, List.length_cons, List.length_nil, Nat.reduceAdd, Nat.reduceSub]
 refine cb fun hlt => ?_
 dsimp only at hlt
 refine yS fun _ K1 => ?_
 refine yR ?_
 refine yA rfl rfl ?_
 refine yN ?_
 dsimp only [St.put]
 refine K1 _ ?_
 refine yS fun _ K2 => ?_
 refine yS fun _ K3 => ?_
 refine yR ?_
 refine yM rfl rfl ?_
 refine af rfl (uei rfl rfl fun b _ => ?_)
 refine yN ?_
 dsimp only [St.put]
 refine K3 _ ?_
 refine aq rfl (fun hc => ?_) (fun hc => ?_)
 ·try replace hc := of_decide_eq_true hc
  refine yS fun _ K4 => ?_
  refine yR ?_
  refine yA rfl rfl ?_
  refine yN ?_
  dsimp only [St.put]
  refine K4 _ ?_
  refine ar ?_
  refine lk rfl (eb (by constructor)) zN zS ?_
  exact zW
 try replace hc := of_decide_eq_false hc
 refine az ?_
 refine K2 _ ?_
 refine yS fun _ K5 => ?_
 refine yR ?_
 try dsimp only [St.put]
 refine af rfl (tp rfl ?_)
 refine yM rfl rfl ?_
 try dsimp only [St.put]
 refine af rfl (wt rfl rfl (.inl rfl) rfl (show 1 ≤ 1 by decide) (fun r hr => by cases hr) (by simp) (by simp) ?_)
 refine yA rfl rfl ?_
 refine yN ?_
 dsimp only [St.put]
 refine K5 _ ?_
 refine ar ?_
 refine lk rfl (eb (by constructor)) zN zS ?_
 exact zW
theorem zv (l : List Int) (hne : l ≠ []) (hl : l.length ≤ 1000) (G : Nat → Option GObj) (nx : Nat) : PC Tryz.prog 88 [lst l] G nx fun r G' nx' => r = .own nx 0 l.length ∧ G' = ai G nx (.arr 0 0 3 1 l.length (dc l)) ∧ nx' = nx + 1 := by
 refine lw (ai G nx (.arr 0 0 3 1 l.length (dc l))) (nx + 1) Tryz.func88 rfl (.own (Nat.lt_succ_self _)) zN (fun hlt => (by (repeat' (refine mc ?_ (by (try dsimp only); omega) ?_)); all_goals (first | exact me zS | (repeat' (first | exact trivial | refine ⟨?_, ?_⟩ | exact .v | exact .any | refine .elem ?_ | exact ck _ _ | exact fy _ _ | exact et _ _ | exact f9 _ (by (try dsimp only); omega) | exact .box (by (try dsimp only); omega) | exact fm | exact dz | exact fg _ | refine ge ?_ ?_ | exact .arr (by (try dsimp only); omega) | exact .own (by (try dsimp only); omega) | exact .map (by (try dsimp only); omega) | exact fg _ | refine c6 ?_ ?_ | exact ck _ _))))) ?_
 simp only [Tryz.ntmps88, List.length_cons, List.length_nil, Nat.reduceAdd, Nat.reduceSub]
 refine cb fun hlt => ?_
 dsimp only at hlt
 refine yS fun _ K1 => ?_
 refine yR ?_
 refine yA rfl rfl ?_
 refine yN ?_
 dsimp only [St.put]
 refine K1 _ ?_
 refine yS fun _ K2 => ?_
 refine yS fun _ K3 => ?_
 refine yR ?_
 refine yM rfl rfl ?_
 refine af rfl (ueh (fun e => hne (by simpa using e)) rfl rfl ?_)
 refine yN ?_
 dsimp only [St.put]
 refine K3 _ ?_
 refine aq rfl (fun hc => ?_) (fun hc => ?_)
 ·try replace hc := of_decide_eq_true hc
  refine yS fun _ K4 => ?_
  refine yR ?_
  refine yA rfl rfl ?_
  refine yN ?_
  dsimp only [St.put]
  refine K4 _ ?_
  refine ar ?_
  exact absurd hc (by decide)
 try replace hc := of_decide_eq_false hc
 refine az ?_
 refine K2 _ ?_
 refine yS fun _ K5 => ?_
 refine yR ?_
 try dsimp only [St.put]
 refine af rfl (tp rfl ?_)
 refine yM rfl rfl ?_
 try dsimp only [St.put]
 refine af rfl (uek l rfl rfl (.inl rfl) rfl rfl hne (by decide) (by omega) (by omega) ?_)
 refine yA rfl rfl ?_
 refine yN ?_
 dsimp only [St.put]
 refine K5 _ ?_
 refine ar ?_
 refine bl rfl (by constructor) zN zS ?_
 rfl
set_option maxHeartbeats 1000000 in
theorem ui4 (p : ah) (R C : Nat → Int) (j : Nat) (x : ay) (n : Int) (h : ff p) (h0 : 0 < bf p) (hx : p.pages[j]? = some x) (hn : -1000000 ≤ n ∧ n ≤ 1000000) (hR : ∀ i, -1000000 ≤ R i ∧ R i ≤ 1000000) : Pure Tryz.prog 51 [val (ir p R C), .v (.int .i64 (j : Int)), .v (.int .i64 n)] (val (ir p ((b9 p).lessR R j n) (fa C j))) := by
 refine da Tryz.func51 rfl (fun m => (et _ _)) fun G nx => ?_
 simp only [Tryz.ntmps51, List.length_cons, List.length_nil, Nat.reduceAdd, Nat.reduceSub]
 refine cb fun hlt => ?_
 dsimp only at hlt
 have hjl := (List.getElem?_eq_some_iff.1 hx).1
 have hrx := ut hx
 have hn1 := h.nf
 have hn2 := h.ns
 have hnp := h.np
 have hnr : bf p = p.firsts.length + p.seconds.length := rfl
 have hrl := qp p x
 have hl1 := gt (bf p) R
 have hl2 := gt p.pages.length C
 have hne2 : bj p.pages.length C ≠ [] := fun e => by rw [e] at hl2; simp at hl2; omega
 have hne1 : bj (bf p) R ≠ [] := fun e => by rw [e] at hl1; simp at hl1; omega
 refine yS fun _ K1 => ?_
 refine yR ?_
 try dsimp only [St.put]
 refine af rfl (zr rfl rfl ?_)
 try dsimp only [St.put]
 refine af rfl (dp rfl ?_)
 refine yN ?_
 dsimp only [St.put]
 refine K1 _ ?_
 refine yS fun _ K2 => ?_
 refine fb [(0, none), (1, none), (3, none), (4, none), (2, none), (6, none), (5, none), (7, none), (8, none), (9, none)] (fun i => [5, 7, 9].contains i) (fun i => [2, 5, 7, 9].contains i) (fun i => [0, 3, 6, 8].contains i) [nx] (by kernel_rfl) (by kernel_rfl) ?_
 refine ae rfl rfl rfl rfl (bn rfl rfl) ?_
 try dsimp only [St.put]
 refine av rfl rfl rfl rfl (e9 rfl rfl zG (by simp) (by first | rfl | assumption)) ?_
 refine ae rfl rfl rfl rfl (bn rfl rfl) ?_
 try dsimp only [St.put]
 refine av rfl rfl rfl rfl (e9 rfl rfl zG (by simp) (by first | rfl | assumption)) ?_
 refine il ?_
 try dsimp only [St.put]
 refine ia rfl rfl rfl (tn rfl rfl rfl (zv (bj (bf p) R) hne1 (by omega) _ _) ⟨zD, ?_⟩)
 refine ep rfl rfl rfl rfl (bn rfl rfl) ?_
 try dsimp only [St.put]
 refine fl rfl rfl rfl rfl (tn rfl rfl rfl (zv (bj p.pages.length C) hne2 (by omega) _ _) ?_)
 try dsimp only [St.put]
 refine fl rfl rfl rfl rfl (cn rfl rfl rfl zG (by constructor) rfl zO ?_)
 refine ep rfl rfl rfl rfl (bn rfl rfl) ?_
 try dsimp only [St.put]
 refine fl rfl rfl rfl rfl (cn rfl rfl rfl zG (by constructor) rfl (by show 1 < 3; decide) ?_)
 refine ij ?_
 dsimp only [St.put]
 simp only [hl1, hl2]
 refine K2 _ ?_
 refine yS fun _ K3 => ?_
 refine yS fun _ K4 => ?_
 refine yR ?_
 refine aa rfl (bn rfl rfl) ?_
 try dsimp only [St.put]
 refine ci rfl (e9 rfl rfl zG trivial (by first | rfl | assumption)) ?_
 refine yM rfl rfl ?_
 refine aa rfl (bu rfl rfl rfl rfl (bp (by assumption)) (Enc.len _)) ?_
 refine yL rfl rfl rfl ?_
 refine aa rfl (bk rfl rfl (List.length_map _)) ?_
 refine yM rfl rfl ?_
 refine yN ?_
 dsimp only [St.put]
 refine K4 _ ?_
 refine bg ?_
 refine co 24 ?_
 refine zQ ?_
 refine dh ((ai (ai (ai (ai G nx (.box 2 [.own (nx + 1 + 1) 0 (bf p), .own (nx + 1 + 1 + 1) 0 p.pages.length, lst (p.pages.map (di p))])) (nx + 1) (.box 0 [.list [] .nil, .list [] .nil, .list [] .nil])) (nx + 1 + 1) (.arr 0 0 3 1 (bf p) (dc (bj (bf p) (R))))) (nx + 1 + 1 + 1) (.arr 0 0 3 1 p.pages.length (dc (bj p.pages.length C))))) zX ?_
 dsimp only
 refine dg (X := Nat) (fun k => k ≤ (di p x).length ∧ ∀ i, -1000000 - k * 1000000 ≤ jm R n ((di p x).take k) i ∧ jm R n ((di p x).take k) i ≤ 1000000 + k * 1000000) (fun k => (di p x).length - k) (fun k => [(8, .any), (23, .v (.int .i64 (k : Int)))]) (fun k G' => (ai (ai (ai (ai G nx (.box 2 [.own (nx + 1 + 1) 0 (bf p), .own (nx + 1 + 1 + 1) 0 p.pages.length, lst (p.pages.map (di p))])) (nx + 1) (.box 0 [.list [] .nil, .list [] .nil, .list [] .nil])) (nx + 1 + 1) (.arr 0 k 3 1 (bf p) (dc (bj (bf p) ((jm R n ((di p x).take k))))))) (nx + 1 + 1 + 1) (.arr 0 0 3 1 p.pages.length (dc (bj p.pages.length C))))) 0 rfl ?_ ?_ ?_ ?_ ?_ ?_
 ·exact ⟨Nat.zero_le _, fun i => by have := hR i; simp only [List.take_zero, ua0]; omega⟩
 ·exact zF
 ·exact zX
 ·rintro k hI
  exact zL
 ·rintro k hI
  exact zH
 rintro k hI
 dsimp only at hI ⊢
 refine yS fun _ K5 => ?_
 refine yR ?_
 refine aa rfl (cm rfl rfl rfl) ?_
 refine yN ?_
 dsimp only [St.put]
 refine K5 _ ?_
 refine yS fun _ K6 => ?_
 refine aq rfl (fun hc => ?_) (fun hc => ?_)
 ·replace hc := of_decide_eq_true hc
  obtain ⟨zn, hz, hz6⟩ := se h hx (k := k) (by omega)
  have hst := uaz (R := R) (n := n) hz
  rw [Int.toNat_natCast] at hst
  have hI2 : ∀ i, -1000000 - ((k + 1 : Nat) : Int) * 1000000 ≤ jm R n ((di p x).take (k + 1)) i ∧ jm R n ((di p x).take (k + 1)) i ≤ 1000000 + ((k + 1 : Nat) : Int) * 1000000 := fun i => by
   rw [hst]
   have h1 := hI.2 i
   have h2 := hI.2 zn
   dsimp only
   cases decide (i = zn)
   ·rw [cond_false]
    omega
   rw [cond_true]
   omega
  have hI3 := hI.2 zn
  obtain ⟨S, hS⟩ : ∃ S, jm R n ((di p x).take k) = S := ⟨_, rfl⟩
  rw [hS] at hst hI3 ⊢
  have hset := rt S (S zn - n) hz6
  rw [← hst] at hset
  refine az ?_
  refine K6 _ ?_
  refine yS fun _ K7 => ?_
  refine bg ?_
  refine yS fun _ K8 => ?_
  refine yR ?_
  refine aa rfl (bu rfl rfl rfl rfl (bp (by assumption)) (Enc.len _)) ?_
  refine yL rfl rfl rfl ?_
  refine yA rfl rfl ?_
  refine yN ?_
  dsimp only [St.put]
  refine K8 _ ?_
  refine yR ?_
  refine aa rfl (bn rfl rfl) ?_
  try dsimp only [St.put]
  refine ci rfl (e9 rfl rfl zG trivial (by first | rfl | assumption)) ?_
  refine yM rfl rfl ?_
  try dsimp only [St.put]
  refine aa rfl (mq rfl rfl zG rfl rfl hz6) ?_
  try dsimp only [St.put]
  refine ci rfl (kb rfl rfl zG (by simp) (ud0 (by rw [Nat.mul_one]; exact jx S hz6))) ?_
  refine yM rfl rfl ?_
  refine aa rfl (gh rfl rfl rfl (by omega)) ?_
  try dsimp only [St.put]
  refine aa rfl (mq rfl rfl zG rfl rfl hz6) ?_
  try dsimp only [St.put]
  refine af rfl (tl (k := zn) (j := 0) (z := S zn) (z' := S zn - n) rfl rfl rfl zG rfl rfl (jx S hz6) rfl (by decide) rfl ?_)
  refine yN ?_
  dsimp only [St.put]
  refine K7 _ ?_
  refine yR ?_
  refine aa rfl (bv rfl rfl rfl (by omega)) ?_
  refine yM rfl rfl ?_
  refine yN ?_
  dsimp only [St.put]
  rw [hset]
  exact ⟨k + 1, by omega, ⟨by omega, hI2⟩, ⟨⟨rfl, rfl⟩, zF, zB, zN, zX⟩⟩
 replace hc := of_decide_eq_false hc
 rw [ey (show (di p x).length ≤ k by omega), ← udd h hx]
 refine c7 ?_
 refine K3 _ ?_
 refine yS fun _ K9 => ?_
 refine yR ?_
 refine aa rfl (bn rfl rfl) ?_
 try dsimp only [St.put]
 refine ci rfl (e9 rfl rfl zG trivial (by first | rfl | assumption)) ?_
 refine yM rfl rfl ?_
 try dsimp only [St.put]
 refine aa rfl (mq rfl rfl zG rfl rfl hjl) ?_
 try dsimp only [St.put]
 refine af rfl (tl (k := j) (j := 0) (z := C j) (z' := 0) rfl rfl rfl zG rfl rfl (jx C hjl) rfl (by decide) rfl ?_)
 refine yN ?_
 dsimp only [St.put]
 rw [show (bj p.pages.length C).set j 0 = bj p.pages.length (fa C j) from rt C 0 hjl]
 refine K9 _ ?_
 refine yS fun _ K10 => ?_
 refine pq nx 0 (bj (bf p) ((b9 p).lessR R j n)) zG rfl zG (by omega) rfl rfl (gt _ _).symm ?_
 refine pq nx 1 (bj p.pages.length (fa C j)) zG rfl zG (by omega) rfl rfl (gt _ _).symm ?_
 dsimp only [List.set_cons_zero, List.set_cons_succ]
 refine yR ?_
 try dsimp only [St.put]
 refine ci rfl (gu rfl rfl zG trivial (by rfl)) ?_
 try dsimp only [St.put]
 refine af rfl (c4 rfl rfl rfl zG rfl rfl (by rfl) ?_)
 refine yN ?_
 dsimp only [St.put]
 refine K10 _ ?_
 refine ar ?_
 refine lk rfl (jg rfl zG (by rfl) zC rfl) zN zS ?_
 exact zW
set_option maxHeartbeats 1000000 in
theorem ui5 (p : ah) (R C : Nat → Int) (j : Nat) (x : ay) (n : Int) (h : ff p) (h0 : bf p = 0) (hx : p.pages[j]? = some x) (hn : -1000000 ≤ n ∧ n ≤ 1000000) (hR : ∀ i, -1000000 ≤ R i ∧ R i ≤ 1000000) : Pure Tryz.prog 51 [val (ir p R C), .v (.int .i64 (j : Int)), .v (.int .i64 n)] (val (ir p ((b9 p).lessR R j n) (fa C j))) := by
 refine da Tryz.func51 rfl (fun m => (et _ _)) fun G nx => ?_
 simp only [Tryz.ntmps51, List.length_cons, List.length_nil, Nat.reduceAdd, Nat.reduceSub]
 refine cb fun hlt => ?_
 dsimp only at hlt
 have hjl := (List.getElem?_eq_some_iff.1 hx).1
 have hrx := ut hx
 have hn1 := h.nf
 have hn2 := h.ns
 have hnp := h.np
 have hnr : bf p = p.firsts.length + p.seconds.length := rfl
 have hrl := qp p x
 have hl1 := gt (bf p) R
 have hl2 := gt p.pages.length C
 have hne2 : bj p.pages.length C ≠ [] := fun e => by rw [e] at hl2; simp at hl2; omega
 have he1 : bj (bf p) R = [] := by rw [h0]; rfl
 refine yS fun _ K1 => ?_
 refine yR ?_
 try dsimp only [St.put]
 refine af rfl (zr rfl rfl ?_)
 try dsimp only [St.put]
 refine af rfl (dp rfl ?_)
 refine yN ?_
 dsimp only [St.put]
 refine K1 _ ?_
 refine yS fun _ K2 => ?_
 refine fb [(0, none), (1, none), (3, none), (4, none), (2, none), (6, none), (5, none), (7, none), (8, none), (9, none)] (fun i => [5, 7, 9].contains i) (fun i => [2, 5, 7, 9].contains i) (fun i => [0, 3, 6, 8].contains i) [nx] (by kernel_rfl) (by kernel_rfl) ?_
 refine ae rfl rfl rfl rfl (bn rfl rfl) ?_
 try dsimp only [St.put]
 refine av rfl rfl rfl rfl (e9 rfl rfl zG (by simp) (by first | rfl | assumption)) ?_
 refine ae rfl rfl rfl rfl (bn rfl rfl) ?_
 try dsimp only [St.put]
 refine av rfl rfl rfl rfl (e9 rfl rfl zG (by simp) (by first | rfl | assumption)) ?_
 refine il ?_
 try dsimp only [St.put]
 refine ia rfl rfl rfl (bi rfl rfl rfl (umc (bj (bf p) R) he1) ⟨zD, ?_⟩)
 refine ep rfl rfl rfl rfl (bn rfl rfl) ?_
 try dsimp only [St.put]
 refine fl rfl rfl rfl rfl (tn rfl rfl rfl (zv (bj p.pages.length C) hne2 (by omega) _ _) ?_)
 try dsimp only [St.put]
 refine fl rfl rfl rfl rfl (cn rfl rfl rfl zG (by constructor) rfl zO ?_)
 refine ep rfl rfl rfl rfl (bn rfl rfl) ?_
 try dsimp only [St.put]
 refine fl rfl rfl rfl rfl (cn rfl rfl rfl zG (by constructor) rfl (by show 1 < 3; decide) ?_)
 refine ij ?_
 dsimp only [St.put]
 simp only [hl1, hl2]
 refine K2 _ ?_
 refine yS fun _ K3 => ?_
 refine yS fun _ K4 => ?_
 refine yR ?_
 refine aa rfl (bn rfl rfl) ?_
 try dsimp only [St.put]
 refine ci rfl (e9 rfl rfl zG trivial (by first | rfl | assumption)) ?_
 refine yM rfl rfl ?_
 refine aa rfl (bu rfl rfl rfl rfl (bp (by assumption)) (Enc.len _)) ?_
 refine yL rfl rfl rfl ?_
 refine aa rfl (bk rfl rfl (List.length_map _)) ?_
 refine yM rfl rfl ?_
 refine yN ?_
 dsimp only [St.put]
 refine K4 _ ?_
 refine bg ?_
 refine co 24 ?_
 refine zQ ?_
 refine dg (X := Nat) (fun k => k ≤ (di p x).length) (fun k => (di p x).length - k) (fun k => [(8, .any), (23, .v (.int .i64 (k : Int)))]) (fun k G' => G') 0 rfl ?_ ?_ (fun _ _ h => h) ?_ ?_ ?_
 ·exact Nat.zero_le _
 ·exact zF
 ·rintro k hI
  exact zL
 ·exact fun _ _ _ _ h => .inl h
 rintro k hI
 dsimp only at hI ⊢
 refine yS fun _ K5 => ?_
 refine yR ?_
 refine aa rfl (cm rfl rfl rfl) ?_
 refine yN ?_
 dsimp only [St.put]
 refine K5 _ ?_
 refine yS fun _ K6 => ?_
 refine aq rfl (fun hc => ?_) (fun hc => ?_)
 ·replace hc := of_decide_eq_true hc
  obtain ⟨zn, hz, hz6⟩ := se h hx (k := k) (by omega)
  omega
 replace hc := of_decide_eq_false hc
 refine c7 ?_
 refine K3 _ ?_
 refine yS fun _ K7 => ?_
 refine yR ?_
 refine aa rfl (bn rfl rfl) ?_
 try dsimp only [St.put]
 refine ci rfl (e9 rfl rfl zG trivial (by first | rfl | assumption)) ?_
 refine yM rfl rfl ?_
 try dsimp only [St.put]
 refine aa rfl (mq rfl rfl zG rfl rfl hjl) ?_
 try dsimp only [St.put]
 refine af rfl (tl (k := j) (j := 0) (z := C j) (z' := 0) rfl rfl rfl zG rfl rfl (jx C hjl) rfl (by decide) rfl ?_)
 refine yN ?_
 dsimp only [St.put]
 rw [show (bj p.pages.length C).set j 0 = bj p.pages.length (fa C j) from rt C 0 hjl]
 refine K7 _ ?_
 refine yS fun _ K8 => ?_
 refine pq nx 1 (bj p.pages.length (fa C j)) zG rfl zG (by omega) rfl rfl (gt _ _).symm ?_
 dsimp only [List.set_cons_zero, List.set_cons_succ]
 rw [show bj (bf p) R = bj (bf p) ((b9 p).lessR R j n) by rw [h0]; rfl]
 refine yR ?_
 try dsimp only [St.put]
 refine ci rfl (gu rfl rfl zG trivial (by rfl)) ?_
 try dsimp only [St.put]
 refine af rfl (c4 rfl rfl rfl zG rfl rfl (by rfl) ?_)
 refine yN ?_
 dsimp only [St.put]
 refine K8 _ ?_
 refine ar ?_
 refine lk rfl (jg rfl zG (by rfl) zC rfl) zN zS ?_
 exact zW
theorem ub9 (p : ah) (R C : Nat → Int) (j : Nat) (x : ay) (n : Int) (h : ff p) (hx : p.pages[j]? = some x) (hn : -1000000 ≤ n ∧ n ≤ 1000000) (hR : ∀ i, -1000000 ≤ R i ∧ R i ≤ 1000000) : Pure Tryz.prog 51 [val (ir p R C), .v (.int .i64 (j : Int)), .v (.int .i64 n)] (val (ir p ((b9 p).lessR R j n) (fa C j))) := by
 by_cases h0 : bf p = 0
 ·exact ui5 p R C j x n h h0 hx hn hR
 exact ui4 p R C j x n h (by omega) hx hn hR
end Go.Proofs.YtbbdginipiljdaaGreatDoor
namespace Go.AB
open Go Go.RowKit
open Go.AB.Enc (cells)
def lm (n : Nat) (F : GObj) (P : Program) (f : FuncId) (args : List C) (r : C) : Prop := ∀ G nx, G n = some F → n < nx → PC P f args G nx fun r' G' nx' => r' = r ∧ G' = G ∧ nx' = nx
theorem jb {n : Nat} {F : GObj} {P : Program} {o : Oper} {st : St} {f : FuncId} [Fun P f] {fv : Operand} {args : List Operand} {ats : Array TypeId} {caps al : List C} {K : St → Prop} {r : C} (ho : o.op = .call { callee := .value fv, args := args.toArray, argTypes := ats }) (hf : evC st fv = .fn (.func f) caps) (has : args.map (evC st) ++ caps = al)
  (hp : lm n F P f al r) (hG : st.G n = some F) (hn : n < st.nx) (h : K (st.put o.dst r)) : EStep P o st K := ulz ho hf has (hp _ _ hG hn) h
end Go.AB
