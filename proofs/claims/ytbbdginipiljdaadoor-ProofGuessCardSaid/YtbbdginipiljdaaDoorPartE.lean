/-
  What the walks through the program rest on: values, states, steps, calls (RlChief, SaAlive, PkGuess, SbFacts, ScGuess, OpenL, OpenW, OpenS, Trod).
-/
import Derived.Test.YtbbdginipiljdaaDoorPartD
import Derived.Test.YtbbdginipiljdaaDoorPartC
import Derived.Test.YtbbdginipiljdaaDoorRows
import Derived.LaidMore
import Derived.RowKitVeiled
import Derived.Carry
namespace Go.AB
open Go Go.RowKit
open Go.AB.Enc (cells)
open Go.PB (av aj PlaceD az bd bc bi am ah cc bg ct cw)
/-- whether a set is taken, and how often one was -/
def kb (so : Nat → Bool) (n k : Nat) : Bool := so k && match ei so n k with
 | none => true
 | some b => ig (ed n k) b
def lj (so : Nat → Bool) (n : Nat) : Nat → Nat
 | 0 => 0
 | k + 1 => lj so n k + (kb so n k).toNat
theorem wr {so : Nat → Bool} {n k : Nat} (h : kb so n k = true) : ei so n (k + 1) = some (ed n k) ∧ lj so n (k + 1) = lj so n k + 1 := by
 refine ⟨?_, by show lj so n k + (kb so n k).toNat = _; rw [h]; rfl⟩
 unfold kb at h
 rw [Bool.and_eq_true] at h
 cases hb : ei so n k with
 | none => exact umi hb h.1
 | some b =>
  have h2 := h.2
  rw [hb] at h2
  have h3 : ig (ed n k) b = true := h2
  rw [umg hb h.1, h3]; rfl
theorem wt {so : Nat → Bool} {n k : Nat} (h : kb so n k = false) : ei so n (k + 1) = ei so n k ∧ lj so n (k + 1) = lj so n k := by
 refine ⟨?_, by show lj so n k + (kb so n k).toNat = _; rw [h]; rfl⟩
 unfold kb at h
 cases hs : so k
 ·exact umf hs
 rw [hs, Bool.true_and] at h
 cases hb : ei so n k with
 | none => rw [hb] at h; cases h
 | some b =>
  rw [hb] at h
  have h3 : ig (ed n k) b = false := h
  rw [ume hb h3]
theorem uf5 {so : Nat → Bool} {n k : Nat} (h : so k = false) : kb so n k = false := by unfold kb; rw [h]; rfl
theorem uf6 {so : Nat → Bool} {n k : Nat} (h : so k = true) (hb : ei so n k = none) : kb so n k = true := by unfold kb; rw [h, hb]; rfl
theorem ua {so : Nat → Bool} {n k : Nat} {b : List Int} (h : so k = true) (hb : ei so n k = some b) : kb so n k = ig (ed n k) b := by unfold kb; rw [h, hb]; rfl
end Go.AB
namespace Go.Proofs.YtbbdginipiljdaaDoor
set_option maxRecDepth 10000
open Go Go.RowKit Go.AB
open Go.AB.Enc (cells)
open Go.PB (av aj PlaceD az bd bc bi am ah cc bg ct cw)
theorem uac (m : Nat) : Pure Tryd.prog 55 [.v (.int .i64 (m : Int))] (.fn (.func 85) [.elem [.v (.int .i64 (m : Int))]]) := by
 refine co Tryd.func55 rfl (fun m => (.fn (bv (.elem (bv .v cv)) cv))) fun G nx => ?_
 simp only [Tryd.ntmps55, List.length_cons, List.length_nil, Nat.reduceAdd, Nat.reduceSub]
 refine bl fun hlt => ?_
 dsimp only at hlt
 refine yS fun _ K1 => ?_
 refine yR ?_
 try dsimp only [St.put]
 refine yB rfl rfl rfl ?_
 refine yA rfl rfl ?_
 refine yN ?_
 dsimp only [St.put]
 refine K1 _ ?_
 refine yS fun _ K2 => ?_
 refine yR ?_
 refine aa rfl (pc rfl rfl) ?_
 refine yA rfl rfl ?_
 refine yN ?_
 dsimp only [St.put]
 refine K2 _ ?_
 refine aq ?_
 refine ba rfl (by constructor) zN zS ?_
 rfl
set_option maxHeartbeats 1000000 in
theorem uc6 (n : Nat) (m : Nat) (so : Nat → Bool) (k0 : FuncId) (caps : List C) [Fun Tryd.prog k0] (hm : m ≤ 8) (hcl : ∀ N, ∀ c ∈ caps, C.low N c) (hso : ∀ s : Nat, s < 2 ^ m → AB.Pure Tryd.prog k0 (.v (.int .i64 (s : Int)) :: lst (ed m s) :: caps) (.v (.bool (so s)))) : ep n em Tryd.prog 54 [.fn (.func 85) [.elem [.v (.int .i64 (m : Int))]], .fn (.func k0) caps, .fn (.func 59) []] (lst (mw so m)) := fun G nx hF hnx => by
 refine ie (G) (nx) Tryd.func54 rfl ((bj _ _)) zN (fun hlt => zH) ?_
 simp only [Tryd.ntmps54, List.length_cons, List.length_nil, Nat.reduceAdd, Nat.reduceSub]
 refine bl fun hlt => ?_
 dsimp only at hlt
 refine yS fun _ K1 => ?_
 refine yR ?_
 try dsimp only [St.put]
 refine yB rfl rfl rfl ?_
 try dsimp only [St.put]
 refine yB rfl rfl rfl ?_
 refine yA rfl rfl ?_
 refine yN ?_
 dsimp only [St.put]
 refine K1 _ ?_
 refine yS fun _ K2 => ?_
 refine yR ?_
 try dsimp only [St.put]
 refine ae rfl (dm rfl ?_)
 refine yN ?_
 dsimp only [St.put]
 refine K2 _ ?_
 refine yS fun _ K3 => ?_
 refine yR ?_
 try dsimp only [St.put]
 refine ae rfl (dm rfl ?_)
 try dsimp only [St.put]
 refine ae rfl (cp rfl rfl rfl zG rfl rfl (by rfl) ?_)
 refine yN ?_
 dsimp only [St.put]
 refine K3 _ ?_
 refine yS fun _ K4 => ?_
 refine yS fun _ K5 => ?_
 refine y7 nx 0 [lst ([] : List Int)] zG zW ?_
 refine yR ?_
 refine yM rfl rfl ?_
 refine yN ?_
 dsimp only [St.put]
 refine K5 _ ?_
 refine bh ?_
 refine ck 12 ?_
 refine zQ ?_
 refine dd ((ak (ak G nx (.box (lj so m 0) [lst ((ei so m 0).getD [])])) (nx + 1) (.box (1 + lj so m 0) [.v (.bool (ei so m 0).isSome)]))) zX ?_
 dsimp only
 refine uei [12, 13] (fun k => (ak (ak G nx (.box (lj so m k) [lst ((ei so m k).getD [])])) (nx + 1) (.box (1 + lj so m k) [.v (.bool (ei so m k).isSome)]))) (fun k => [(13, lst (ed m k)), (12, .v (.int .i64 (k : Int)))]) (ugz n m hm) (fun k => zG) (by (try dsimp only); omega) rfl rfl (fun _ => rfl) ?_ ?_ ?_ (fun lr k hrk => ?_) ?_
 ·intro k
  rfl
 ·exact zX
 ·intro k
  exact zH
 ·have hbl := umh (so := so) (n := m) (k := k)
  have hml := sj m k
  refine yS fun _ K6 => ?_
  refine yR ?_
  refine yA rfl rfl ?_
  refine yN ?_
  dsimp only [St.put]
  refine K6 _ ?_
  refine yR ?_
  refine yA rfl rfl ?_
  refine yN ?_
  dsimp only [St.put]
  show AW _ _ _ _ _
  refine bh ?_
  refine yS fun _ K7 => ?_
  refine yR ?_
  refine yL rfl rfl rfl ?_
  refine yM rfl rfl ?_
  refine yM rfl rfl ?_
  try dsimp only [St.put]
  refine ae rfl (ay rfl rfl rfl (hso k hrk) ?_)
  refine yM rfl rfl ?_
  refine ef (fun hs => ?_) (fun hs => ?_)
  ·have hw : so k = true := hs
   try dsimp only [St.put]
   refine bq rfl (fj rfl rfl zG trivial (by first | rfl | assumption)) ?_
   refine aa rfl (dp rfl rfl) ?_
   refine yM rfl rfl ?_
   refine ef (fun hs => ?_) (fun hs => ?_)
   ·have hb0 : ei so m k = none := by simpa using hs
    have htk := wr (uf6 hw hb0)
    refine yK rfl ?_
    refine yK rfl ?_
    refine yK rfl ?_
    refine yK rfl ?_
    refine yK rfl ?_
    refine aa rfl (bk rfl rfl (by constructor)) ?_
    refine aa rfl (bk rfl rfl (by constructor)) ?_
    refine yN ?_
    dsimp only [St.put]
    refine K7 _ ?_
    refine ar rfl (fun _ => ?_) (fun h => by cases h)
    first
    | (have hbf : ig (ed m k) b = true := (uh _ _).symm.trans hc
       have htk := wr ((ua hw hb0).trans hbf))
    | skip
    refine yR ?_
    refine yM rfl rfl ?_
    try dsimp only [St.put]
    refine ae rfl (cp rfl rfl rfl zG rfl rfl (by rfl) ?_)
    try dsimp only [St.put]
    refine ae rfl (cp rfl rfl rfl zG rfl rfl (by rfl) ?_)
    refine yN ?_
    dsimp only [St.put]
    dsimp only [rg, tv]
    first
    | (rw [htk.1, htk.2]
       exact zX)
    | (rw [hke.1, hke.2]
       try rw [hb0]
       exact zX)
   obtain ⟨b, hb0⟩ : ∃ b, ei so m k = some b := by
     cases hb : ei so m k with
     | none => rw [hb] at hs; cases hs
     | some b => exact ⟨b, rfl⟩
   rw [hb0] at hbl
   rw [hb0]
   have hbl2 : b.length ≤ m := hbl
   refine yL rfl rfl rfl ?_
   refine yM rfl rfl ?_
   try dsimp only [St.put]
   refine bq rfl (fj rfl rfl zG trivial (by first | rfl | assumption)) ?_
   try dsimp only [St.put]
   refine ae rfl (ay rfl rfl rfl (uig (ed m k) b (by omega) (by omega)) ?_)
   refine aa rfl (ci rfl rfl rfl) ?_
   refine aa rfl (cg rfl rfl (by constructor)) ?_
   refine aa rfl (bk rfl rfl (by constructor)) ?_
   refine yN ?_
   dsimp only [St.put]
   refine K7 _ ?_
   refine ar rfl (fun hc => ?_) (fun hc => ?_)
   ·first
    | (have hbf : ig (ed m k) b = true := (uh _ _).symm.trans hc
       have htk := wr ((ua hw hb0).trans hbf))
    | skip
    refine yR ?_
    refine yM rfl rfl ?_
    try dsimp only [St.put]
    refine ae rfl (cp rfl rfl rfl zG rfl rfl (by rfl) ?_)
    try dsimp only [St.put]
    refine ae rfl (cp rfl rfl rfl zG rfl rfl (by rfl) ?_)
    refine yN ?_
    dsimp only [St.put]
    dsimp only [rg, tv]
    first
    | (rw [htk.1, htk.2]
       exact zX)
    | (rw [hke.1, hke.2]
       try rw [hb0]
       exact zX)
   first
   | (have hbf : ig (ed m k) b = false := (uh _ _).symm.trans hc
      have hke := wt ((ua hw hb0).trans hbf))
   | skip
   refine ax ?_
   dsimp only [rg, tv]
   first
   | (rw [htk.1, htk.2]
      exact zX)
   | (rw [hke.1, hke.2]
      try rw [hb0]
      exact zX)
  have hw : so k = false := hs
  have hke := wt (uf5 (n := m) hw)
  refine yK rfl ?_
  refine yK rfl ?_
  refine yK rfl ?_
  refine yK rfl ?_
  refine yK rfl ?_
  refine yK rfl ?_
  refine yK rfl ?_
  refine yK rfl ?_
  refine yK rfl ?_
  refine aa rfl (cg rfl rfl (by constructor)) ?_
  refine yN ?_
  dsimp only [St.put]
  refine K7 _ ?_
  refine ar rfl (fun h => by cases h) (fun _ => ?_)
  first
  | (have hbf : ig (ed m k) b = false := (uh _ _).symm.trans hc
     have hke := wt ((ua hw hb0).trans hbf))
  | skip
  refine ax ?_
  dsimp only [rg, tv]
  first
  | (rw [htk.1, htk.2]
     exact zX)
  | (rw [hke.1, hke.2]
     try rw [hb0]
     exact zX)
 dsimp only
 refine K4 _ ?_
 refine yS fun _ K8 => ?_
 refine yR ?_
 try dsimp only [St.put]
 refine bq rfl (fj rfl rfl zG trivial (by first | rfl | assumption)) ?_
 refine yA rfl rfl ?_
 refine yN ?_
 dsimp only [St.put]
 refine K8 _ ?_
 refine aq ?_
 refine ba rfl (by constructor) zN zS ?_
 rfl
theorem uid (p : ah) (R C : Nat → Int) (a : Int) (s : Nat) (l : List Int) (h : e8 p) (hB : Bd p R C) (hs : s ≤ 1000) : Pure Tryd.prog 67 [.v (.int .i64 (s : Int)), lst l, .elem (cells (fk p R C)), .elem [.v (.int .i64 a)]] (.v (.bool (decide ((br p).f R C (fun i => s.testBit i) = a)))) := by
 refine co Tryd.func67 rfl (fun m => .v) fun G nx => ?_
 simp only [Tryd.ntmps67, List.length_cons, List.length_nil, Nat.reduceAdd, Nat.reduceSub]
 refine bl fun hlt => ?_
 dsimp only at hlt
 refine yS fun _ K1 => ?_
 refine yR ?_
 refine yA rfl rfl ?_
 refine yN ?_
 dsimp only [St.put]
 refine K1 _ ?_
 refine yS fun _ K2 => ?_
 refine gn [(0, none), (1, none), (3, none), (2, none), (4, none), (5, none)] (fun i => [].contains i) (fun i => [2].contains i) (fun i => [1, 4, 5].contains i) [] (by kernel_rfl) (by kernel_rfl) ?_
 try dsimp only [St.put]
 refine aw rfl rfl rfl rfl (d9 rfl rfl (Enc.len _)) ?_
 refine xM rfl rfl rfl rfl rfl ?_
 try dsimp only [St.put]
 refine aw rfl rfl rfl rfl (bn rfl rfl) ?_
 refine ji ?_
 try dsimp only [St.put]
 refine j7 rfl rfl rfl (ay rfl rfl rfl (ua7 p R C s h hB hs) ⟨zD, ?_⟩)
 refine d7 rfl rfl rfl rfl (ec rfl rfl rfl) ?_
 refine d7 rfl rfl rfl rfl (fe rfl (by constructor)) ?_
 refine jh ?_
 dsimp only [St.put]
 refine K2 _ ?_
 refine aq ?_
 refine ba rfl (by constructor) zN zS ?_
 rfl
theorem uin (p : ah) (m : Int) (s : Int) (l : List Int) (h : e8 p) (hl : l.length ≤ 1000) (hm : ∀ z ∈ l, 0 ≤ z ∧ z < (p.pages.length : Int)) : Pure Tryd.prog 56 [.v (.int .i64 s), lst l, .elem (cells (fk p (cn p) (c7 p))), .elem [.v (.int .i64 m)]] (.v (.bool (decide (uev p l ≤ m)))) := by
 refine co Tryd.func56 rfl (fun m => .v) fun G nx => ?_
 simp only [Tryd.ntmps56, List.length_cons, List.length_nil, Nat.reduceAdd, Nat.reduceSub]
 refine bl fun hlt => ?_
 dsimp only at hlt
 refine yS fun _ K1 => ?_
 refine yR ?_
 refine yA rfl rfl ?_
 refine yN ?_
 dsimp only [St.put]
 refine K1 _ ?_
 refine yS fun _ K2 => ?_
 refine yR ?_
 refine yE rfl rfl rfl ?_
 try dsimp only [St.put]
 refine ae rfl (dm rfl ?_)
 try dsimp only [St.put]
 refine ae rfl (cp rfl rfl rfl zG rfl rfl (by rfl) ?_)
 refine yN ?_
 dsimp only [St.put]
 rw [show cells (fk p (cn p) (c7 p)) = cells (fk p (cn p) (j9 (c7 p) (l.take 0))) by rw [List.take_zero, ue5]]
 refine K2 _ ?_
 refine yS fun _ K3 => ?_
 refine yS fun _ K4 => ?_
 refine yR ?_
 refine yM rfl rfl ?_
 refine aa rfl (bf rfl rfl (List.length_map _)) ?_
 refine yM rfl rfl ?_
 refine yN ?_
 dsimp only [St.put]
 refine K4 _ ?_
 refine bh ?_
 refine ck 14 ?_
 refine zQ ?_
 refine dd ((ak G nx (.box (0 + 1) (cells (fk p (cn p) (j9 (c7 p) (l.take 0))))))) zX ?_
 dsimp only
 refine dc (X := Nat) (fun k => k ≤ l.length) (fun k => l.length - k) (fun k => [(8, .any), (9, .any), (13, .v (.int .i64 (k : Int)))]) (fun k G' => (ak G nx (.box (k + 1) (cells (fk p (cn p) (j9 (c7 p) (l.take k))))))) 0 rfl ?_ ?_ ?_ ?_ ?_ ?_
 ·exact Nat.zero_le _
 ·exact zF
 ·exact zX
 ·rintro k hI
  exact zL
 ·rintro k hI
  exact zH
 rintro k hI
 dsimp only at hI ⊢
 refine yS fun _ K5 => ?_
 refine yR ?_
 refine aa rfl (ci rfl rfl rfl) ?_
 refine yN ?_
 dsimp only [St.put]
 refine K5 _ ?_
 refine yS fun _ K6 => ?_
 refine ar rfl (fun hc => ?_) (fun hc => ?_)
 ·replace hc := of_decide_eq_true hc
  obtain ⟨z0, hz0⟩ : ∃ z, l[k]? = some z := dj (by omega)
  have hzb := hm z0 (ga hz0)
  obtain ⟨j, rfl⟩ : ∃ j : Nat, z0 = (j : Int) := ⟨z0.toNat, by omega⟩
  have hz := hz0
  obtain ⟨x, hx⟩ : ∃ x, p.pages[j]? = some x := dj (by omega)
  have hB := ueg (tn h) (l.take k)
  refine ax ?_
  refine K6 _ ?_
  refine yS fun _ K7 => ?_
  refine bh ?_
  refine yS fun _ K8 => ?_
  refine yR ?_
  refine aa rfl (bu rfl rfl rfl rfl (bp (by assumption)) (Enc.len _)) ?_
  refine yL rfl rfl rfl ?_
  refine yA rfl rfl ?_
  refine yN ?_
  dsimp only [St.put]
  refine K8 _ ?_
  refine yR ?_
  try dsimp only [St.put]
  refine bq rfl (iu rfl rfl zG trivial (by rfl)) ?_
  refine yM rfl rfl ?_
  try dsimp only [St.put]
  refine ae rfl (ay rfl rfl rfl (xi p (cn p) (j9 (c7 p) (l.take k)) j x 0 h hx (by omega) hB.r) ?_)
  try dsimp only [St.put]
  refine ae rfl (cp rfl rfl rfl zG rfl rfl (by rfl) ?_)
  refine yN ?_
  dsimp only [St.put]
  refine K7 _ ?_
  refine yR ?_
  refine aa rfl (ca rfl rfl rfl (by omega)) ?_
  refine yM rfl rfl ?_
  refine yN ?_
  dsimp only [St.put]
  rw [uj4, ← ue4, ← zq hz]
  exact ⟨k + 1, by omega, by omega, ⟨⟨rfl, rfl⟩, zF, zB, zN, zX⟩⟩
 replace hc := of_decide_eq_false hc
 rw [gg (show l.length ≤ k by omega)]
 refine c5 ?_
 refine K3 _ ?_
 refine yS fun _ K9 => ?_
 refine gn [(0, none), (2, none), (1, none), (3, none), (4, none)] (fun i => [].contains i) (fun i => [1].contains i) (fun i => [3, 4].contains i) [nx] (by kernel_rfl) (by kernel_rfl) ?_
 try dsimp only [St.put]
 refine aw rfl rfl rfl rfl (iu rfl rfl zG (by simp) (by rfl)) ?_
 try dsimp only [St.put]
 refine aw rfl rfl rfl rfl (bn rfl rfl) ?_
 refine ji ?_
 try dsimp only [St.put]
 refine j7 rfl rfl rfl (ay rfl rfl rfl (sb p (cn p) (j9 (c7 p) l) h (ueg (tn h) l)) ⟨zD, ?_⟩)
 refine d7 rfl rfl rfl rfl (pd rfl rfl rfl) ?_
 refine d7 rfl rfl rfl rfl (fe rfl (by constructor)) ?_
 refine jh ?_
 dsimp only [St.put]
 refine K9 _ ?_
 refine aq ?_
 refine ba rfl (by constructor) zN zS ?_
 rfl
theorem uar (p : ah) (R Q : Nat → Int) (a : Int) (N : Nat) : ∀ c ∈ [C.elem (cells (fk p R Q)), C.elem [C.v (.int .i64 a)]], C.low N c := bv (et _ _) (bv (.elem (bv .v cv)) cv)
set_option maxHeartbeats 1000000 in
theorem uic (n : Nat) (p : ah) : ep n em Tryd.prog 38 [val p] (.tup [lst (atE (fp p (ce p)) [] (my p (gj p))), lst (atE (fp p (ce p)) [] (mf p (gj p))), .v (.int .i64 (fp p (ce p)))]) := fun G nx hF hnx => by
 refine ie (G) (nx) Tryd.func38 rfl (.tup (bv (bj _ _) (bv (bj _ _) (bv .v cv)))) zN (fun hlt => zH) ?_
 simp only [Tryd.ntmps38, List.length_cons, List.length_nil, Nat.reduceAdd, Nat.reduceSub]
 refine bl fun hlt => ?_
 dsimp only at hlt
 refine yS fun _ K1 => ?_
 refine yR ?_
 try dsimp only [St.put]
 refine yB rfl rfl rfl ?_
 refine yA rfl rfl ?_
 refine yA rfl rfl ?_
 refine yA rfl rfl ?_
 refine yN ?_
 dsimp only [St.put]
 refine K1 _ ?_
 refine yS fun _ K2 => ?_
 by_cases hL : fp p (ce p) = 0
 ·refine yR ?_
  refine yE rfl rfl rfl ?_
  try dsimp only [St.put]
  refine ae rfl (dr rfl rfl rfl (m9 n p) zG (by dsimp only [St.put]; omega) ?_)
  refine yX rfl rfl rfl rfl ?_
  refine yX rfl rfl rfl rfl ?_
  try dsimp only [St.put]
  refine ae rfl (dr rfl rfl rfl (r8 n p (jd p) (ce p) oq hL) zG (by dsimp only [St.put]; omega) ?_)
  refine yM rfl rfl ?_
  refine yX rfl rfl rfl rfl ?_
  refine yX rfl rfl rfl rfl ?_
  try dsimp only [St.put]
  refine ae rfl (dm rfl ?_)
  try dsimp only [St.put]
  refine ae rfl (cp rfl rfl rfl zG rfl rfl (by rfl) ?_)
  refine yA rfl rfl ?_
  refine yN ?_
  dsimp only [St.put]
  refine K2 _ ?_
  refine yS fun _ K3 => ?_
  refine yS fun _ K4 => ?_
  refine yR ?_
  refine yM rfl rfl ?_
  refine aa rfl (fm rfl rfl rfl) ?_
  refine yN ?_
  dsimp only [St.put]
  refine K4 _ ?_
  refine ar rfl (fun hc => ?_) (fun hc => ?_)
  ·exact absurd hc (by decide)
  obtain ⟨h0, hTB⟩ := sr hL
  obtain ⟨hok, _⟩ := l5 h0
  have hn1 := hok.nf
  have hn2 := hok.ns
  have hnr : bw p = p.firsts.length + p.seconds.length := rfl
  have hl1 := ja (bw p) (cn p)
  have hB := tn hok
  have h64 : 2 ^ bw p ≤ 2 ^ 6 := Nat.pow_le_pow_right (by omega) (by omega)
  have hwl : (gj p).length ≤ 6 := by
   have := uec (p7 p) (bw p)
   show (mw (p7 p) (bw p)).length ≤ 6
   omega
  refine ax ?_
  refine K3 _ ?_
  refine yS fun _ K5 => ?_
  refine yR ?_
  try dsimp only [St.put]
  refine bq rfl (iu rfl rfl zG trivial (by rfl)) ?_
  try dsimp only [St.put]
  refine ae rfl (ay rfl rfl rfl (sb p (cn p) (c7 p) hok hB) ?_)
  try dsimp only [St.put]
  refine ae rfl (dm rfl ?_)
  try dsimp only [St.put]
  refine ae rfl (cp rfl rfl rfl zG rfl rfl (by rfl) ?_)
  refine yN ?_
  dsimp only [St.put]
  refine K5 _ ?_
  refine fw (i := 5) rfl zG zC ?_
  refine fw (i := 6) rfl zG zC ?_
  dsimp only
  refine yS fun _ K6 => ?_
  refine yS fun _ K7 => ?_
  refine yR ?_
  refine yF rfl rfl rfl rfl ?_
  refine yL rfl rfl rfl ?_
  refine aa rfl (bf rfl rfl (List.length_map _)) ?_
  try dsimp only [St.put]
  refine ae rfl (ay rfl rfl rfl (uac (cd (bw p) (cn p)).length) ?_)
  refine aa rfl (pc rfl rfl) ?_
  try dsimp only [St.put]
  refine ae rfl (dr rfl rfl rfl (uc6 n (cd (bw p) (cn p)).length (p7 p) 67 [.elem (cells (fk p (cn p) (c7 p))), .elem [.v (.int .i64 ((br p).most (cn p) (c7 p)))]] (by rw [hl1]; omega) (uar p _ _ _) (fun s hs => uid p (cn p) (c7 p) _ s _ hok hB (by rw [hl1] at hs; omega))) zG (by dsimp only [St.put]; omega) ?_)
  refine aa rfl (bf rfl rfl (List.length_map _)) ?_
  refine yM rfl rfl ?_
  refine yN ?_
  dsimp only [St.put]
  rw [hl1, show mw (p7 p) (bw p) = gj p from rfl]
  refine K7 _ ?_
  refine pr 2 3 1 rfl (by decide) ?_
  refine pr 3 3 1 rfl (by decide) ?_
  dsimp only [List.set_cons_zero, List.set_cons_succ]
  refine bh ?_
  refine ck 30 ?_
  refine zQ ?_
  refine dd ((ak (ak G (nx + 1 + 1) (.tip (my p ((gj p).take 0)).length 3 1)) (nx + 1 + 1 + 1) (.tip (mf p ((gj p).take 0)).length 3 1))) zX ?_
  dsimp only
  refine dc (X := Nat) (fun k => k ≤ (gj p).length) (fun k => (gj p).length - k) (fun k => [(2, .list ((my p ((gj p).take k)).map cells) (.tip (nx + 1 + 1))), (3, .list ((mf p ((gj p).take k)).map cells) (.tip (nx + 1 + 1 + 1))), (8, .any), (29, .v (.int .i64 (k : Int)))]) (fun k G' => (ak (ak G (nx + 1 + 1) (.tip (my p ((gj p).take k)).length 3 1)) (nx + 1 + 1 + 1) (.tip (mf p ((gj p).take k)).length 3 1))) 0 rfl ?_ ?_ ?_ ?_ ?_ ?_
  ·exact Nat.zero_le _
  ·exact zF
  ·exact zX
  ·rintro k hI
   exact zL
  ·rintro k hI
   exact zH
  rintro k hK
  dsimp only at hK ⊢
  refine yS fun _ K8 => ?_
  refine yR ?_
  refine aa rfl (ci rfl rfl rfl) ?_
  refine yN ?_
  dsimp only [St.put]
  refine K8 _ ?_
  refine yS fun _ K9 => ?_
  refine ar rfl (fun hc => ?_) (fun hc => ?_)
  ·replace hc := of_decide_eq_true hc
   obtain ⟨z, hz⟩ : ∃ z, (gj p)[k]? = some z := dj (by omega)
   have hzb := ufn (ga hz)
   have hF3 := ufo p ((gj p).take k) z
   have hS3 := ufl p ((gj p).take k) z
   rw [← zq hz] at hF3 hS3
   have hlF := ufp p ((gj p).take k)
   have hlS := ufm p ((gj p).take k)
   have hlt2 : ((gj p).take k).length ≤ 6 := by rw [List.length_take]; omega
   refine ax ?_
   refine K9 _ ?_
   refine yS fun _ K10 => ?_
   refine bh ?_
   refine yS fun _ K11 => ?_
   refine yR ?_
   refine aa rfl (bu rfl rfl rfl rfl (bp (by assumption)) (Enc.len _)) ?_
   refine yL rfl rfl rfl ?_
   refine yA rfl rfl ?_
   refine yN ?_
   dsimp only [St.put]
   refine K11 _ ?_
   refine yS fun _ K12 => ?_
   refine yR ?_
   refine yM rfl rfl ?_
   refine yF rfl rfl rfl rfl ?_
   refine yL rfl rfl rfl ?_
   refine aa rfl (bf rfl rfl (List.length_map _)) ?_
   refine aa rfl (ci rfl rfl rfl) ?_
   refine yN ?_
   dsimp only [St.put]
   refine K12 _ ?_
   refine ar rfl (fun hc => ?_) (fun hc => ?_)
   ·have hyes := of_decide_eq_true hc
    refine yR ?_
    refine yM rfl rfl ?_
    refine yM rfl rfl ?_
    try dsimp only [St.put]
    refine ae rfl (dl rfl rfl rfl (by decide) (by decide) zR (by decide) ?_)
    try dsimp only [St.put]
    refine ae rfl (kp ([z]) rfl rfl zG zE rfl rfl zA ?_ zA)
    refine yA rfl rfl ?_
    refine yN ?_
    dsimp only [St.put]
    refine K10 _ ?_
    refine yR ?_
    refine aa rfl (ca rfl rfl rfl (by omega)) ?_
    refine yM rfl rfl ?_
    refine yN ?_
    dsimp only [St.put]
    first
    | (have hy2 : z < (p.firsts.length : Int) := hyes
       rw [decide_eq_true hy2, cond_true] at hF3 hS3
       rw [List.append_nil] at hS3
       simp only [← hF3]
       rw [← hS3]
       exact ⟨k + 1, by omega, by omega, ⟨⟨rfl, rfl⟩, zF, zB, zN, zX⟩⟩)
    | (have hy2 : ¬ z < (p.firsts.length : Int) := hno
       rw [decide_eq_false hy2, cond_false] at hF3 hS3
       rw [List.append_nil] at hF3
       simp only [← hS3]
       rw [← hF3]
       exact ⟨k + 1, by omega, by omega, ⟨⟨rfl, rfl⟩, zF, zB, zN, zX⟩⟩)
   have hno := of_decide_eq_false hc
   refine yR ?_
   refine yM rfl rfl ?_
   refine yM rfl rfl ?_
   refine yF rfl rfl rfl rfl ?_
   refine yL rfl rfl rfl ?_
   refine aa rfl (bf rfl rfl (List.length_map _)) ?_
   refine aa rfl (gq rfl rfl rfl (by omega)) ?_
   try dsimp only [St.put]
   refine ae rfl (dl rfl rfl rfl (by decide) (by decide) zR (by decide) ?_)
   try dsimp only [St.put]
   refine ae rfl (kp ([z - (p.firsts.length : Int)]) rfl rfl zG zE rfl rfl zA ?_ zA)
   refine yA rfl rfl ?_
   refine yN ?_
   dsimp only [St.put]
   refine K10 _ ?_
   refine yR ?_
   refine aa rfl (ca rfl rfl rfl (by omega)) ?_
   refine yM rfl rfl ?_
   refine yN ?_
   dsimp only [St.put]
   first
   | (have hy2 : z < (p.firsts.length : Int) := hyes
      rw [decide_eq_true hy2, cond_true] at hF3 hS3
      rw [List.append_nil] at hS3
      simp only [← hF3]
      rw [← hS3]
      exact ⟨k + 1, by omega, by omega, ⟨⟨rfl, rfl⟩, zF, zB, zN, zX⟩⟩)
   | (have hy2 : ¬ z < (p.firsts.length : Int) := hno
      rw [decide_eq_false hy2, cond_false] at hF3 hS3
      rw [List.append_nil] at hF3
      simp only [← hS3]
      rw [← hF3]
      exact ⟨k + 1, by omega, by omega, ⟨⟨rfl, rfl⟩, zF, zB, zN, zX⟩⟩)
  replace hc := of_decide_eq_false hc
  refine c5 ?_
  refine K6 _ ?_
  refine yS fun _ K13 => ?_
  refine yR ?_
  refine yM rfl rfl ?_
  refine yM rfl rfl ?_
  refine yA rfl rfl ?_
  refine yA rfl rfl ?_
  refine yA rfl rfl ?_
  refine yN ?_
  dsimp only [St.put]
  refine K13 _ ?_
  refine aq ?_
  refine udf rfl (dq (by constructor)) (dq (by constructor)) (dq (by constructor)) zN zS ?_ ?_ ?_
  ·rw [hL, ow, gg (show (gj p).length ≤ k by omega)]; exact zW
  ·rw [hL, ow, gg (show (gj p).length ≤ k by omega)]; exact zW
  rw [hL]; exact zW
 refine yR ?_
 refine yE rfl rfl rfl ?_
 try dsimp only [St.put]
 refine ae rfl (dr rfl rfl rfl (m9 n p) zG (by dsimp only [St.put]; omega) ?_)
 refine yX rfl rfl rfl rfl ?_
 refine yX rfl rfl rfl rfl ?_
 try dsimp only [St.put]
 refine ae rfl (dr rfl rfl rfl (r9 n p (jd p) (ce p) oq hL) zG (by dsimp only [St.put]; omega) ?_)
 refine yM rfl rfl ?_
 refine yX rfl rfl rfl rfl ?_
 refine yX rfl rfl rfl rfl ?_
 try dsimp only [St.put]
 refine ae rfl (dm rfl ?_)
 try dsimp only [St.put]
 refine ae rfl (cp rfl rfl rfl zG rfl rfl (by rfl) ?_)
 refine yA rfl rfl ?_
 refine yN ?_
 dsimp only [St.put]
 refine K2 _ ?_
 refine yS fun _ K14 => ?_
 refine yS fun _ K15 => ?_
 refine yR ?_
 refine yM rfl rfl ?_
 refine aa rfl (fm rfl rfl rfl) ?_
 refine yN ?_
 dsimp only [St.put]
 refine K15 _ ?_
 refine ar rfl (fun hc => ?_) (fun hc => ?_)
 ·try replace hc := of_decide_eq_true hc
  refine yS fun _ K16 => ?_
  refine yR ?_
  refine yM rfl rfl ?_
  refine yA rfl rfl ?_
  refine yA rfl rfl ?_
  refine yA rfl rfl ?_
  refine yN ?_
  dsimp only [St.put]
  refine K16 _ ?_
  refine aq ?_
  refine udf rfl (dq (by constructor)) (dq (by constructor)) (dq (by constructor)) zN zS ?_ ?_ ?_
  ·rw [kx hL]; exact zW
  ·rw [kx hL]; exact zW
  exact zW
 exact absurd (gp hc) hL
set_option maxHeartbeats 1000000 in
theorem uim (n : Nat) (p : ah) (m : Int) : ep n em Tryd.prog 26 [val p, .v (.int .i64 m)] (.tup [lst (jr p m), .v (.int .i64 (ix p m))]) := fun G nx hF hnx => by
 refine ie (G) (nx) Tryd.func26 rfl (.tup (bv (bj _ _) (bv .v cv))) zN (fun hlt => zH) ?_
 simp only [Tryd.ntmps26, List.length_cons, List.length_nil, Nat.reduceAdd, Nat.reduceSub]
 refine bl fun hlt => ?_
 dsimp only at hlt
 refine yS fun _ K1 => ?_
 refine yR ?_
 try dsimp only [St.put]
 refine yB rfl rfl rfl ?_
 try dsimp only [St.put]
 refine yB rfl rfl rfl ?_
 refine yA rfl rfl ?_
 refine yA rfl rfl ?_
 refine yN ?_
 dsimp only [St.put]
 refine K1 _ ?_
 refine yS fun _ K2 => ?_
 refine yR ?_
 refine yE rfl rfl rfl ?_
 try dsimp only [St.put]
 refine ae rfl (dr rfl rfl rfl (m9 n p) zG (by dsimp only [St.put]; omega) ?_)
 refine yM rfl rfl ?_
 refine yX rfl rfl rfl rfl ?_
 refine yX rfl rfl rfl rfl ?_
 refine yA rfl rfl ?_
 refine yA rfl rfl ?_
 refine yN ?_
 dsimp only [St.put]
 refine K2 _ ?_
 refine yS fun _ K3 => ?_
 refine yS fun _ K4 => ?_
 refine yR ?_
 refine yM rfl rfl ?_
 refine aa rfl (fm rfl rfl rfl) ?_
 refine yN ?_
 dsimp only [St.put]
 refine K4 _ ?_
 refine ar rfl (fun hc => ?_) (fun hc => ?_)
 ·have h0 : ce p ≠ 0 := jm hc
  have hE : ix p m = ce p := ulz h0
  have hV : jr p m = [] := by unfold jr; rw [hE, kx h0]
  refine yS fun _ K5 => ?_
  refine yR ?_
  refine yM rfl rfl ?_
  refine yA rfl rfl ?_
  refine yA rfl rfl ?_
  refine yN ?_
  dsimp only [St.put]
  refine K5 _ ?_
  refine aq ?_
  refine gl rfl (dq (by constructor)) (dq (by constructor)) zN zS ?_ ?_
  ·rw [hV]; exact zW
  rw [hE]; exact zW
 have h0 : ce p = 0 := gp hc
 obtain ⟨hok, _⟩ := l5 h0
 have hnp := hok.np
 refine ax ?_
 refine K3 _ ?_
 refine yS fun _ K6 => ?_
 refine yS fun _ K7 => ?_
 refine yR ?_
 refine yL rfl rfl rfl ?_
 refine aa rfl (ci rfl rfl rfl) ?_
 refine yN ?_
 dsimp only [St.put]
 refine K7 _ ?_
 refine ar rfl (fun hc => ?_) (fun hc => ?_)
 ·have hm : m < 0 := of_decide_eq_true hc
  have hE : ix p m = 2 := uly h0 hm
  have hV : jr p m = [] := by unfold jr; rw [hE, kx (by decide)]
  refine yS fun _ K8 => ?_
  refine yR ?_
  refine yA rfl rfl ?_
  refine yA rfl rfl ?_
  refine yN ?_
  dsimp only [St.put]
  refine K8 _ ?_
  refine aq ?_
  refine gl rfl (dq (by constructor)) (dq (by constructor)) zN zS ?_ ?_
  ·rw [hV]; exact zW
  rw [hE]; exact zW
 have hm : ¬ m < 0 := of_decide_eq_false hc
 refine ax ?_
 refine K6 _ ?_
 refine yS fun _ K9 => ?_
 by_cases hL : fp p (ce p) = 0
 ·refine yR ?_
  refine yM rfl rfl ?_
  refine yM rfl rfl ?_
  try dsimp only [St.put]
  refine ae rfl (dr rfl rfl rfl (r8 n p (jd p) (ce p) oq hL) zG (by dsimp only [St.put]; omega) ?_)
  refine yM rfl rfl ?_
  refine yX rfl rfl rfl rfl ?_
  refine yX rfl rfl rfl rfl ?_
  try dsimp only [St.put]
  refine ae rfl (dm rfl ?_)
  try dsimp only [St.put]
  refine ae rfl (cp rfl rfl rfl zG rfl rfl (by rfl) ?_)
  refine yA rfl rfl ?_
  refine yN ?_
  dsimp only [St.put]
  refine K9 _ ?_
  refine fw (i := 8) rfl zG zC ?_
  dsimp only
  refine yS fun _ K10 => ?_
  refine yS fun _ K11 => ?_
  refine yR ?_
  refine yM rfl rfl ?_
  refine aa rfl (fm rfl rfl rfl) ?_
  refine yN ?_
  dsimp only [St.put]
  refine K11 _ ?_
  refine ar rfl (fun hc => ?_) (fun hc => ?_)
  ·exact absurd hc (by decide)
  have hTB := (sr hL).2
  have hE : ix p m = 0 := ulx h0 hm hTB
  have hV : jr p m = mw (tj p m) p.pages.length := by unfold jr; rw [hE, ow]
  refine ax ?_
  refine K10 _ ?_
  refine yS fun _ K12 => ?_
  refine yR ?_
  refine yF rfl rfl rfl rfl ?_
  refine yL rfl rfl rfl ?_
  refine aa rfl (bf rfl rfl (List.length_map _)) ?_
  try dsimp only [St.put]
  refine ae rfl (ay rfl rfl rfl (uac p.pages.length) ?_)
  refine aa rfl (pc rfl rfl) ?_
  try dsimp only [St.put]
  refine ae rfl (dr rfl rfl rfl (uc6 n p.pages.length (tj p m) 56 [.elem (cells (fk p (cn p) (c7 p))), .elem [.v (.int .i64 m)]] hnp (uar p _ _ _) (fun s _ => uin p m s _ hok (by have := sj p.pages.length s; omega) (fun z hz => by obtain ⟨i, rfl, hi, _⟩ := membersL_mem.1 hz; omega))) zG (by dsimp only [St.put]; omega) ?_)
  refine yA rfl rfl ?_
  refine yA rfl rfl ?_
  refine yN ?_
  dsimp only [St.put]
  refine K12 _ ?_
  refine aq ?_
  refine gl rfl (dq (by constructor)) (dq (by constructor)) zN zS ?_ ?_
  ·rw [hV]; exact zW
  rw [hE]; exact zW
 refine yR ?_
 refine yM rfl rfl ?_
 refine yM rfl rfl ?_
 try dsimp only [St.put]
 refine ae rfl (dr rfl rfl rfl (r9 n p (jd p) (ce p) oq hL) zG (by dsimp only [St.put]; omega) ?_)
 refine yM rfl rfl ?_
 refine yX rfl rfl rfl rfl ?_
 refine yX rfl rfl rfl rfl ?_
 try dsimp only [St.put]
 refine ae rfl (dm rfl ?_)
 try dsimp only [St.put]
 refine ae rfl (cp rfl rfl rfl zG rfl rfl (by rfl) ?_)
 refine yA rfl rfl ?_
 refine yN ?_
 dsimp only [St.put]
 refine K9 _ ?_
 refine fw (i := 8) rfl zG zC ?_
 dsimp only
 refine yS fun _ K13 => ?_
 refine yS fun _ K14 => ?_
 refine yR ?_
 refine yM rfl rfl ?_
 refine aa rfl (fm rfl rfl rfl) ?_
 refine yN ?_
 dsimp only [St.put]
 refine K14 _ ?_
 refine ar rfl (fun hc => ?_) (fun hc => ?_)
 ·have hTB : i9 p = false := by
   cases h : i9 p
   ·rfl
   exact absurd (by rw [h0, sq, h]; rfl) hL
  have hE : ix p m = 8 := ul0 h0 hm hTB
  have hV : jr p m = [] := by unfold jr; rw [hE, kx (by decide)]
  have hL8 : fp p (ce p) = 8 := by rw [h0, sq, hTB]; rfl
  refine yS fun _ K15 => ?_
  refine yR ?_
  refine yM rfl rfl ?_
  refine yA rfl rfl ?_
  refine yA rfl rfl ?_
  refine yN ?_
  dsimp only [St.put]
  refine K15 _ ?_
  refine aq ?_
  refine gl rfl (dq (by constructor)) (dq (by constructor)) zN zS ?_ ?_
  ·rw [hV]; exact zW
  rw [hE, hL8]; exact zW
 exact absurd (gp hc) hL
end Go.Proofs.YtbbdginipiljdaaDoor
namespace Go.AB
open Go Go.RowKit
open Go.AB.Enc (cells)
open Go.PB (av aj PlaceD az bd bc bi am ah cc bg ct cw)
def qd (p : ah) : Bool := !ni p && decide (ce p = 0)
section
variable {P : Program} {o : Oper} {st : St} {K : St → Prop}
/-- What stands in a slot is known less well, ahead of an operation. -/
theorem e_wk (i : Nat) {c : C} (c' : C) (h0 : st.at i = c) (hw : Wk c c') (h : EStep P o { st with r := (i, c') :: st.r } K) : EStep P o st K := by
 intro E w a hs
 have hp := hs.at i
 rw [h0] at hp
 refine h E w a ⟨hs.d, hs.sz, fun j v hj => ?_, hs.g⟩
 simp only [cb]
 cases hb : Nat.beq i j
 ·exact hs.t j v hj
 have hij := Nat.eq_of_beq_eq_true hb
 subst hij
 have hv : a.tmps.getD i undef = v := by rw [Array.getD_eq_getD_getElem?, hj]; rfl
 rw [hv] at hp
 exact hw.2 _ _ _ hp
end
theorem k6 {α : Type} [Enc α] (l : List α) : ∀ r ∈ l.map cells, r.length = Enc.n α := fun r hr => by
 obtain ⟨y, _, rfl⟩ := List.mem_map.1 hr
 exact Enc.len y
theorem readyP_true {p : ah} : qd p = true ↔ ni p = false ∧ ce p = 0 := by simp [qd]
end Go.AB
namespace Go.Proofs.YtbbdginipiljdaaDoor
set_option maxRecDepth 10000
open Go Go.RowKit Go.AB
open Go.AB.Enc (cells)
open Go.PB (av aj PlaceD az bd bc bi am ah cc bg ct cw)
theorem ucl (a : List PlaceD) : Pure Tryd.prog 18 [lst a, lst a] (.v (.bool true)) := by
 have := ung a a
 rwa [decide_eq_true rfl] at this
theorem ucm (a : List Int) (ha : a.length ≤ 1000) : Pure Tryd.prog 28 [lst a, lst a] (.v (.bool true)) := by
 have := uav a a ha
 rwa [decide_eq_true rfl] at this
theorem pi (a b c : Int) : Pure Tryd.prog 65 [.v (.int .i64 a), .v (.int .i64 b), .v (.int .i64 c)] (val (⟨a, b, c⟩ : PlaceD)) := by
 refine co Tryd.func65 rfl (fun m => (dv _ _)) fun G nx => ?_
 simp only [Tryd.ntmps65, List.length_cons, List.length_nil, Nat.reduceAdd, Nat.reduceSub]
 refine bl fun hlt => ?_
 dsimp only at hlt
 refine yS fun _ K1 => ?_
 refine yR ?_
 try dsimp only [St.put]
 refine ae rfl (dm rfl ?_)
 refine yN ?_
 dsimp only [St.put]
 refine K1 _ ?_
 refine yS fun _ K2 => ?_
 refine yR ?_
 refine yM rfl rfl ?_
 refine yM rfl rfl ?_
 refine yM rfl rfl ?_
 refine aa rfl (gt rfl rfl) ?_
 try dsimp only [St.put]
 refine ae rfl (cp rfl rfl rfl zG rfl rfl (by rfl) ?_)
 refine yN ?_
 dsimp only [St.put]
 refine K2 _ ?_
 refine aq ?_
 refine qs rfl (jo rfl zG (by rfl) zC rfl) zN zS ?_
 exact zW
theorem sx (l : List PlaceD) : Pure Tryd.prog 64 [lst l] (lst l) := by
 refine co Tryd.func64 rfl (fun m => (bj _ _)) fun G nx => ?_
 simp only [Tryd.ntmps64, List.length_cons, List.length_nil, Nat.reduceAdd, Nat.reduceSub]
 refine bl fun hlt => ?_
 dsimp only at hlt
 refine yS fun _ K1 => ?_
 refine yR ?_
 refine yA rfl rfl ?_
 refine yN ?_
 dsimp only [St.put]
 refine K1 _ ?_
 refine yS fun _ K2 => ?_
 refine yR ?_
 refine yM rfl rfl ?_
 refine yA rfl rfl ?_
 refine yN ?_
 dsimp only [St.put]
 refine K2 _ ?_
 refine aq ?_
 refine ba rfl (by constructor) zN zS ?_
 rfl
theorem mp : Pure Tryd.prog 36 [] (val exPr) := by
 refine co Tryd.func36 rfl (fun m => (dv _ _)) fun G nx => ?_
 simp only [Tryd.ntmps36, List.length_cons, List.length_nil, Nat.reduceAdd, Nat.reduceSub]
 refine bl fun hlt => ?_
 dsimp only at hlt
 refine yS fun _ K1 => ?_
 refine yR ?_
 try dsimp only [St.put]
 refine ae rfl (dm rfl ?_)
 refine yN ?_
 dsimp only [St.put]
 refine K1 _ ?_
 refine yS fun _ K2 => ?_
 refine yR ?_
 try dsimp only [St.put]
 refine ae rfl (dl (rows := ([mb, ip, xIs, mc] : List ByteArray).map cells) rfl rfl rfl (by decide) (by decide) (k6 _) (by decide) ?_)
 try dsimp only [St.put]
 refine ae rfl (dl (rows := ([mc, mb, ip] : List ByteArray).map cells) rfl rfl rfl (by decide) (by decide) (k6 _) (by decide) ?_)
 try dsimp only [St.put]
 refine ae rfl (dl (rows := ([[mb, ip, xIs, mc], [mc, mb, ip]] : List (List ByteArray)).map cells) rfl rfl rfl (by decide) (by decide) (k6 _) (by decide) ?_)
 refine aa rfl (gt (cs := cells (⟨7, [[mb, ip, xIs, mc], [mc, mb, ip]]⟩ : av)) rfl rfl) ?_
 try dsimp only [St.put]
 refine ae rfl (dl (rows := ([ip, rh, ip] : List ByteArray).map cells) rfl rfl rfl (by decide) (by decide) (k6 _) (by decide) ?_)
 try dsimp only [St.put]
 refine ae rfl (dl (rows := ([[ip, rh, ip]] : List (List ByteArray)).map cells) rfl rfl rfl (by decide) (by decide) (k6 _) (by decide) ?_)
 refine aa rfl (gt (cs := cells (⟨3, [[ip, rh, ip]]⟩ : av)) rfl rfl) ?_
 try dsimp only [St.put]
 refine ae rfl (dl (rows := ([⟨7, [[mb, ip, xIs, mc], [mc, mb, ip]]⟩, ⟨3, [[ip, rh, ip]]⟩] : List av).map cells) rfl rfl rfl (by decide) (by decide) (k6 _) (by decide) ?_)
 refine aa rfl (gt (cs := [lst exTx]) rfl rfl) ?_
 refine aa rfl (gt (cs := cells (⟨1, 50⟩ : bi)) rfl rfl) ?_
 refine aa rfl (gt (cs := cells (⟨2, 0⟩ : bi)) rfl rfl) ?_
 try dsimp only [St.put]
 refine ae rfl (dl (rows := ([⟨1, 50⟩, ⟨2, 0⟩] : List bi).map cells) rfl rfl rfl (by decide) (by decide) (k6 _) (by decide) ?_)
 refine aa rfl (gt (cs := cells (⟨3, 60⟩ : bi)) rfl rfl) ?_
 try dsimp only [St.put]
 refine ae rfl (dl (rows := ([⟨3, 60⟩] : List bi).map cells) rfl rfl rfl (by decide) (by decide) (k6 _) (by decide) ?_)
 try dsimp only [St.put]
 refine ae rfl (ay rfl rfl rfl (pi _ _ _) ?_)
 try dsimp only [St.put]
 refine ae rfl (dl (rows := ([⟨0, 0, 0⟩] : List PlaceD).map cells) rfl rfl rfl (by decide) (by decide) (k6 _) (by decide) ?_)
 try dsimp only [St.put]
 refine ae rfl (ay rfl rfl rfl (sx [⟨0, 0, 0⟩]) ?_)
 try dsimp only [St.put]
 refine ae rfl (ay rfl rfl rfl (pi _ _ _) ?_)
 try dsimp only [St.put]
 refine ae rfl (ay rfl rfl rfl (pi _ _ _) ?_)
 try dsimp only [St.put]
 refine ae rfl (dl (rows := ([⟨0, 0, 0⟩, ⟨0, 0, 3⟩] : List PlaceD).map cells) rfl rfl rfl (by decide) (by decide) (k6 _) (by decide) ?_)
 try dsimp only [St.put]
 refine ae rfl (ay rfl rfl rfl (sx [⟨0, 0, 0⟩, ⟨0, 0, 3⟩]) ?_)
 refine aa rfl (gt (cs := cells (⟨0, 0, 0, 0, [⟨0, 0, 0⟩], [⟨0, 0, 0⟩, ⟨0, 0, 3⟩]⟩ : am)) rfl rfl) ?_
 try dsimp only [St.put]
 refine ae rfl (ay rfl rfl rfl (pi _ _ _) ?_)
 try dsimp only [St.put]
 refine ae rfl (dl (rows := ([⟨0, 1, 1⟩] : List PlaceD).map cells) rfl rfl rfl (by decide) (by decide) (k6 _) (by decide) ?_)
 try dsimp only [St.put]
 refine ae rfl (ay rfl rfl rfl (sx [⟨0, 1, 1⟩]) ?_)
 refine aa rfl (gt (cs := [.v (.int .i64 1), .v (.int .i64 2), .v (.int .i64 0), .v (.int .i64 (-1)), lst ([⟨0, 1, 1⟩] : List PlaceD), .list [] .nil]) rfl rfl) ?_
 try dsimp only [St.put]
 refine ae rfl (e_wk 26 (val (⟨1, 2, 0, -1, [⟨0, 1, 1⟩], []⟩ : am)) rfl (by show Wk _ (.agg _); exact zW) ?_)
 dsimp only
 refine dl (rows := ([⟨0, 0, 0, 0, [⟨0, 0, 0⟩], [⟨0, 0, 0⟩, ⟨0, 0, 3⟩]⟩, ⟨1, 2, 0, -1, [⟨0, 1, 1⟩], []⟩] : List am).map cells) rfl rfl rfl (by decide) (by decide) (k6 _) (by decide) ?_
 refine aa rfl (gt (cs := [lst exTx, lst exPr.firsts, lst exPr.seconds, lst exPr.pages]) rfl rfl) ?_
 try dsimp only [St.put]
 refine ae rfl (cp rfl rfl rfl zG rfl rfl (by rfl) ?_)
 refine yN ?_
 dsimp only [St.put]
 refine K2 _ ?_
 refine aq ?_
 refine qs rfl (jo rfl zG (by rfl) zC rfl) zN zS ?_
 exact zW
theorem ukj (n : Nat) (b : Bool) (r want : Int) : ep n em Tryd.prog 34 [.v (.bool b), .v (.int .i64 r), .v (.int .i64 want)] (.v (.bool (decide (jw exPr b r = 0) && decide (nm exPr b r = want)))) := fun G nx hF hnx => by
 refine ie (G) (nx) Tryd.func34 rfl (.v) zN (fun hlt => zH) ?_
 simp only [Tryd.ntmps34, List.length_cons, List.length_nil, Nat.reduceAdd, Nat.reduceSub]
 refine bl fun hlt => ?_
 dsimp only at hlt
 refine yS fun _ K1 => ?_
 refine yR ?_
 refine yA rfl rfl ?_
 refine yN ?_
 dsimp only [St.put]
 refine K1 _ ?_
 refine yS fun _ K2 => ?_
 refine yR ?_
 try dsimp only [St.put]
 refine ae rfl (ay rfl rfl rfl (mp) ?_)
 refine yM rfl rfl ?_
 refine yM rfl rfl ?_
 try dsimp only [St.put]
 refine ae rfl (dr rfl rfl rfl (uio n exPr b r) zG (by dsimp only [St.put]; omega) ?_)
 refine yM rfl rfl ?_
 refine yX rfl rfl rfl rfl ?_
 refine yX rfl rfl rfl rfl ?_
 refine yA rfl rfl ?_
 refine yA rfl rfl ?_
 refine yN ?_
 dsimp only [St.put]
 refine K2 _ ?_
 refine yS fun _ K3 => ?_
 refine yR ?_
 refine yM rfl rfl ?_
 refine aa rfl (ec rfl rfl rfl) ?_
 refine ef (fun hs => ?_) (fun hs => ?_)
 ·have h1 : decide (jw exPr b r = 0) = true := hs
  refine yM rfl rfl ?_
  refine yM rfl rfl ?_
  refine yM rfl rfl ?_
  refine aa rfl (ec rfl rfl rfl) ?_
  refine aa rfl (bk rfl rfl (by constructor)) ?_
  refine yA rfl rfl ?_
  refine yN ?_
  dsimp only [St.put]
  refine K3 _ ?_
  refine aq ?_
  refine ba rfl (by constructor) zN zS ?_
  exact vb (by rw [h1]; rfl)
 have h1 : decide (jw exPr b r = 0) = false := hs
 refine yM rfl rfl ?_
 refine yK rfl ?_
 refine yK rfl ?_
 refine yK rfl ?_
 refine aa rfl (cg rfl rfl (by constructor)) ?_
 refine yA rfl rfl ?_
 refine yN ?_
 dsimp only [St.put]
 refine K3 _ ?_
 refine aq ?_
 refine ba rfl (by constructor) zN zS ?_
 exact vb (by rw [h1]; rfl)
theorem uki (n : Nat) (m : Int) (want : List Int) : ep n em Tryd.prog 35 [.v (.int .i64 m), lst want] (.v (.bool (decide (ix exPr m = 0) && decide (jr exPr m = want)))) := fun G nx hF hnx => by
 refine ie (G) (nx) Tryd.func35 rfl (.v) zN (fun hlt => zH) ?_
 simp only [Tryd.ntmps35, List.length_cons, List.length_nil, Nat.reduceAdd, Nat.reduceSub]
 refine bl fun hlt => ?_
 dsimp only at hlt
 have hcl : (jr exPr m).length ≤ 1000 := by
  unfold jr atE
  cases decide (ix exPr m = 0)
  ·exact Nat.zero_le _
  have := uec (tj exPr m) exPr.pages.length
  have e : exPr.pages.length = 2 := rfl
  show (mw (tj exPr m) exPr.pages.length).length ≤ 1000
  omega
 refine yS fun _ K1 => ?_
 refine yR ?_
 refine yA rfl rfl ?_
 refine yN ?_
 dsimp only [St.put]
 refine K1 _ ?_
 refine yS fun _ K2 => ?_
 refine yR ?_
 try dsimp only [St.put]
 refine ae rfl (ay rfl rfl rfl (mp) ?_)
 refine yM rfl rfl ?_
 try dsimp only [St.put]
 refine ae rfl (dr rfl rfl rfl (uim n exPr m) zG (by dsimp only [St.put]; omega) ?_)
 refine yM rfl rfl ?_
 refine yX rfl rfl rfl rfl ?_
 refine yX rfl rfl rfl rfl ?_
 refine yA rfl rfl ?_
 refine yA rfl rfl ?_
 refine yN ?_
 dsimp only [St.put]
 refine K2 _ ?_
 refine yS fun _ K3 => ?_
 refine yR ?_
 refine yM rfl rfl ?_
 refine aa rfl (ec rfl rfl rfl) ?_
 refine ef (fun hs => ?_) (fun hs => ?_)
 ·have h1 : decide (ix exPr m = 0) = true := hs
  refine yM rfl rfl ?_
  refine yM rfl rfl ?_
  refine yM rfl rfl ?_
  try dsimp only [St.put]
  refine ae rfl (ay rfl rfl rfl (uav (jr exPr m) want hcl) ?_)
  refine aa rfl (bk rfl rfl (by constructor)) ?_
  refine yA rfl rfl ?_
  refine yN ?_
  dsimp only [St.put]
  refine K3 _ ?_
  refine aq ?_
  refine ba rfl (by constructor) zN zS ?_
  exact vb (by rw [h1]; rfl)
 have h1 : decide (ix exPr m = 0) = false := hs
 refine yM rfl rfl ?_
 refine yK rfl ?_
 refine yK rfl ?_
 refine yK rfl ?_
 refine aa rfl (cg rfl rfl (by constructor)) ?_
 refine yA rfl rfl ?_
 refine yN ?_
 dsimp only [St.put]
 refine K3 _ ?_
 refine aq ?_
 refine ba rfl (by constructor) zN zS ?_
 exact vb (by rw [h1]; rfl)
theorem um3 (n : Nat) : ep n em Tryd.prog 12 [val exPr, .v (.int .i64 1)] (.tup [.v (.int .i64 6), .v (.int .i64 0)]) := by
 have := uh9 n exPr 1
 rwa [xp_words.1, xp_words.2.1] at this
theorem um7 (n : Nat) : ep n em Tryd.prog 14 [val exPr, .v (.int .i64 0)] (.tup [lst ([⟨0, 0, 0⟩, ⟨0, 0, 3⟩] : List PlaceD), .v (.int .i64 0)]) := by
 have := ubb n exPr 0
 rwa [xp_found.1, xp_words.2.2.2] at this
theorem una (n : Nat) : ep n em Tryd.prog 19 [val exPr, .v (.int .i64 0)] (.tup [lst ([⟨0, 0, 0⟩] : List PlaceD), .v (.int .i64 0)]) := by
 have := ubc n exPr 0
 rwa [xp_found.2, xp_words.2.2.2] at this
theorem um6 (n : Nat) : ep n em Tryd.prog 23 [val exPr, .v (.int .i64 0)] (.tup [val (⟨2, 2⟩ : bg), .v (.int .i64 0)]) := by
 have := uba n exPr 0
 rwa [xp_guess.1, xp_guess.2] at this
theorem um5 (n : Nat) : ep n em Tryd.prog 32 [val exPr, .v (.int .i64 1)] (.tup [val (⟨0, 1⟩ : bg), .v (.int .i64 0)]) := by
 have := uii n exPr 1
 rwa [xp_remain.1, xp_remain.2.1] at this
theorem um4 (n : Nat) : ep n em Tryd.prog 31 [val exPr] (.tup [val (⟨0, 1⟩ : bg), .v (.int .i64 0)]) := by
 have := uie n exPr
 rwa [ue7, tx] at this
theorem um2 (n : Nat) : ep n em Tryd.prog 37 [val exPr] (.tup [lst ([1, 0] : List Int), .v (.int .i64 0)]) := by
 have := uh8 n exPr
 rwa [ue6, tx] at this
theorem alWhy (n : Nat) : ep n em Tryd.prog 38 [val exPr] (.tup [lst ([0] : List Int), lst ([] : List Int), .v (.int .i64 0)]) := by
 have := uic n exPr
 rwa [tx, ow, ow, xp_why.1, xp_why.2] at this
theorem um9 (n : Nat) : ep n em Tryd.prog 34 [.v (.bool false), .v (.int .i64 0), .v (.int .i64 4)] (.v (.bool true)) := by
 have := ukj n false 0 4
 rwa [xp_bound.1, xp_bound.2.1] at this
theorem um8 (n : Nat) : ep n em Tryd.prog 35 [.v (.int .i64 0), lst ([0, 1] : List Int)] (.v (.bool true)) := by
 have := uki n 0 [0, 1]
 rwa [xp_chief.1, xp_chief.2.1] at this
set_option maxHeartbeats 4000000 in
theorem um1 (n : Nat) : ep n em Tryd.prog 29 [] (.v (.bool true)) := fun G nx hF hnx => by
 refine ie (G) (nx) Tryd.func29 rfl (.v) zN (fun hlt => zH) ?_
 simp only [Tryd.ntmps29, List.length_cons, List.length_nil, Nat.reduceAdd, Nat.reduceSub]
 refine bl fun hlt => ?_
 dsimp only at hlt
 refine yS fun _ K1 => ?_
 refine yR ?_
 refine yA rfl rfl ?_
 refine yN ?_
 dsimp only [St.put]
 refine K1 _ ?_
 refine yS fun _ K2 => ?_
 refine yR ?_
 try dsimp only [St.put]
 refine ae rfl (ay rfl rfl rfl (mp) ?_)
 try dsimp only [St.put]
 refine ae rfl ((dr rfl rfl rfl ((um3 n)) zG (by dsimp only [St.put]; omega) ?_))
 refine yM rfl rfl ?_
 refine yX rfl rfl rfl rfl ?_
 refine yX rfl rfl rfl rfl ?_
 refine yA rfl rfl ?_
 refine yA rfl rfl ?_
 refine yN ?_
 dsimp only [St.put]
 refine K2 _ ?_
 refine yS fun _ K3 => ?_
 refine yR ?_
 try dsimp only [St.put]
 refine ae rfl (ay rfl rfl rfl (mp) ?_)
 try dsimp only [St.put]
 refine ae rfl ((dr rfl rfl rfl ((um7 n)) zG (by dsimp only [St.put]; omega) ?_))
 refine yM rfl rfl ?_
 refine yX rfl rfl rfl rfl ?_
 refine yX rfl rfl rfl rfl ?_
 refine yA rfl rfl ?_
 refine yA rfl rfl ?_
 refine yN ?_
 dsimp only [St.put]
 refine K3 _ ?_
 refine yS fun _ K4 => ?_
 refine yR ?_
 try dsimp only [St.put]
 refine ae rfl (ay rfl rfl rfl (mp) ?_)
 try dsimp only [St.put]
 refine ae rfl ((dr rfl rfl rfl ((una n)) zG (by dsimp only [St.put]; omega) ?_))
 refine yM rfl rfl ?_
 refine yX rfl rfl rfl rfl ?_
 refine yX rfl rfl rfl rfl ?_
 refine yA rfl rfl ?_
 refine yA rfl rfl ?_
 refine yN ?_
 dsimp only [St.put]
 refine K4 _ ?_
 refine yS fun _ K5 => ?_
 refine yR ?_
 try dsimp only [St.put]
 refine ae rfl (ay rfl rfl rfl (mp) ?_)
 try dsimp only [St.put]
 refine ae rfl ((dr rfl rfl rfl ((um6 n)) zG (by dsimp only [St.put]; omega) ?_))
 refine yM rfl rfl ?_
 refine yX rfl rfl rfl rfl ?_
 refine yX rfl rfl rfl rfl ?_
 try dsimp only [St.put]
 refine ae rfl (dm rfl ?_)
 try dsimp only [St.put]
 refine ae rfl (cp rfl rfl rfl zG rfl rfl (by rfl) ?_)
 refine yA rfl rfl ?_
 refine yN ?_
 dsimp only [St.put]
 refine K5 _ ?_
 refine fw (i := 7) rfl zG zC ?_
 dsimp only
 refine yS fun _ K6 => ?_
 refine yR ?_
 try dsimp only [St.put]
 refine ae rfl (ay rfl rfl rfl (mp) ?_)
 try dsimp only [St.put]
 refine ae rfl ((dr rfl rfl rfl ((um5 n)) zG (by dsimp only [St.put]; omega) ?_))
 refine yM rfl rfl ?_
 refine yX rfl rfl rfl rfl ?_
 refine yX rfl rfl rfl rfl ?_
 try dsimp only [St.put]
 refine ae rfl (dm rfl ?_)
 try dsimp only [St.put]
 refine ae rfl (cp rfl rfl rfl zG rfl rfl (by rfl) ?_)
 refine yA rfl rfl ?_
 refine yN ?_
 dsimp only [St.put]
 refine K6 _ ?_
 refine fw (i := 9) rfl zG zC ?_
 dsimp only
 refine yS fun _ K7 => ?_
 refine yR ?_
 try dsimp only [St.put]
 refine ae rfl (ay rfl rfl rfl (mp) ?_)
 try dsimp only [St.put]
 refine ae rfl ((dr rfl rfl rfl ((um4 n)) zG (by dsimp only [St.put]; omega) ?_))
 refine yM rfl rfl ?_
 refine yX rfl rfl rfl rfl ?_
 refine yX rfl rfl rfl rfl ?_
 try dsimp only [St.put]
 refine ae rfl (dm rfl ?_)
 try dsimp only [St.put]
 refine ae rfl (cp rfl rfl rfl zG rfl rfl (by rfl) ?_)
 refine yA rfl rfl ?_
 refine yN ?_
 dsimp only [St.put]
 refine K7 _ ?_
 refine fw (i := 11) rfl zG zC ?_
 dsimp only
 refine yS fun _ K8 => ?_
 refine yR ?_
 try dsimp only [St.put]
 refine ae rfl (ay rfl rfl rfl (mp) ?_)
 try dsimp only [St.put]
 refine ae rfl ((dr rfl rfl rfl ((um2 n)) zG (by dsimp only [St.put]; omega) ?_))
 refine yM rfl rfl ?_
 refine yX rfl rfl rfl rfl ?_
 refine yX rfl rfl rfl rfl ?_
 refine yA rfl rfl ?_
 refine yA rfl rfl ?_
 refine yN ?_
 dsimp only [St.put]
 refine K8 _ ?_
 refine yS fun _ K9 => ?_
 refine yR ?_
 try dsimp only [St.put]
 refine ae rfl (ay rfl rfl rfl (mp) ?_)
 try dsimp only [St.put]
 refine ae rfl ((dr rfl rfl rfl ((alWhy n)) zG (by dsimp only [St.put]; omega) ?_))
 refine yM rfl rfl ?_
 refine yX rfl rfl rfl rfl ?_
 refine yX rfl rfl rfl rfl ?_
 refine yX rfl rfl rfl rfl ?_
 refine yA rfl rfl ?_
 refine yA rfl rfl ?_
 refine yA rfl rfl ?_
 refine yN ?_
 dsimp only [St.put]
 refine K9 _ ?_
 refine yS fun _ K10 => ?_
 refine ck 18 ?_
 refine zQ ?_
 refine dd G zX ?_
 dsimp only
 refine yR ?_
 refine yM rfl rfl ?_
 refine aa rfl (dz (ec rfl rfl rfl) (decide_eq_true (by omega))) ?_
 refine yM rfl rfl ?_
 refine yM rfl rfl ?_
 ((first | refine aa rfl ((dz (c := true) (ec rfl rfl rfl) (decide_eq_true rfl))) ?_ | refine af rfl rfl rfl rfl ((dz (c := true) (ec rfl rfl rfl) (decide_eq_true rfl))) ?_ | refine d7 rfl rfl rfl rfl ((dz (c := true) (ec rfl rfl rfl) (decide_eq_true rfl))) ?_ | refine tr rfl rfl rfl ((dz (c := true) (ec rfl rfl rfl) (decide_eq_true rfl))) ?_))
 refine aa rfl (bk rfl rfl (by constructor)) ?_
 refine yM rfl rfl ?_
 refine yM rfl rfl ?_
 refine aa rfl (dz (ec rfl rfl rfl) (decide_eq_true (by omega))) ?_
 refine aa rfl (bk rfl rfl (by constructor)) ?_
 refine yM rfl rfl ?_
 refine yM rfl rfl ?_
 try dsimp only [St.put]
 refine ae rfl (ay rfl rfl rfl (pi _ _ _) ?_)
 try dsimp only [St.put]
 refine ae rfl (ay rfl rfl rfl (pi _ _ _) ?_)
 try dsimp only [St.put]
 refine ae rfl (dl rfl rfl rfl (by decide) (by decide) zR (by decide) ?_)
 try dsimp only [St.put]
 refine ae rfl (ay rfl rfl rfl (sx [⟨0, 0, 0⟩, ⟨0, 0, 3⟩]) ?_)
 try dsimp only [St.put]
 refine ae rfl (ay rfl rfl rfl (ucl [⟨0, 0, 0⟩, ⟨0, 0, 3⟩]) ?_)
 refine aa rfl (bk rfl rfl (by constructor)) ?_
 refine yM rfl rfl ?_
 refine yM rfl rfl ?_
 refine aa rfl (dz (ec rfl rfl rfl) (decide_eq_true (by omega))) ?_
 refine aa rfl (bk rfl rfl (by constructor)) ?_
 refine yM rfl rfl ?_
 refine yM rfl rfl ?_
 try dsimp only [St.put]
 refine ae rfl (ay rfl rfl rfl (pi _ _ _) ?_)
 try dsimp only [St.put]
 refine ae rfl (dl rfl rfl rfl (by decide) (by decide) zR (by decide) ?_)
 try dsimp only [St.put]
 refine ae rfl (ay rfl rfl rfl (sx [⟨0, 0, 0⟩]) ?_)
 try dsimp only [St.put]
 refine ae rfl (ay rfl rfl rfl (ucl [⟨0, 0, 0⟩]) ?_)
 refine aa rfl (bk rfl rfl (by constructor)) ?_
 refine yM rfl rfl ?_
 try dsimp only [St.put]
 refine ae rfl ((dr rfl rfl rfl ((um9 n)) zG (by dsimp only [St.put]; omega) ?_))
 refine aa rfl (bk rfl rfl (by constructor)) ?_
 refine yM rfl rfl ?_
 refine yM rfl rfl ?_
 refine aa rfl (dz (ec rfl rfl rfl) (decide_eq_true (by omega))) ?_
 refine aa rfl (bk rfl rfl (by constructor)) ?_
 refine yM rfl rfl ?_
 refine yE rfl rfl rfl ?_
 refine aa rfl (gt rfl rfl) ?_
 ((first | refine aa rfl ((dz (c := true) (ld (x := (⟨2, 2⟩ : bg)) (y := (⟨2, 2⟩ : bg)) rfl rfl rfl) (decide_eq_true rfl))) ?_ | refine af rfl rfl rfl rfl ((dz (c := true) (ld (x := (⟨2, 2⟩ : bg)) (y := (⟨2, 2⟩ : bg)) rfl rfl rfl) (decide_eq_true rfl))) ?_ | refine d7 rfl rfl rfl rfl ((dz (c := true) (ld (x := (⟨2, 2⟩ : bg)) (y := (⟨2, 2⟩ : bg)) rfl rfl rfl) (decide_eq_true rfl))) ?_ | refine tr rfl rfl rfl ((dz (c := true) (ld (x := (⟨2, 2⟩ : bg)) (y := (⟨2, 2⟩ : bg)) rfl rfl rfl) (decide_eq_true rfl))) ?_))
 refine aa rfl (bk rfl rfl (by constructor)) ?_
 refine yM rfl rfl ?_
 refine yM rfl rfl ?_
 refine aa rfl (dz (ec rfl rfl rfl) (decide_eq_true (by omega))) ?_
 refine aa rfl (bk rfl rfl (by constructor)) ?_
 refine yM rfl rfl ?_
 refine yE rfl rfl rfl ?_
 refine aa rfl (gt rfl rfl) ?_
 ((first | refine aa rfl ((dz (c := true) (ld (x := (⟨0, 1⟩ : bg)) (y := (⟨0, 1⟩ : bg)) rfl rfl rfl) (decide_eq_true rfl))) ?_ | refine af rfl rfl rfl rfl ((dz (c := true) (ld (x := (⟨0, 1⟩ : bg)) (y := (⟨0, 1⟩ : bg)) rfl rfl rfl) (decide_eq_true rfl))) ?_ | refine d7 rfl rfl rfl rfl ((dz (c := true) (ld (x := (⟨0, 1⟩ : bg)) (y := (⟨0, 1⟩ : bg)) rfl rfl rfl) (decide_eq_true rfl))) ?_ | refine tr rfl rfl rfl ((dz (c := true) (ld (x := (⟨0, 1⟩ : bg)) (y := (⟨0, 1⟩ : bg)) rfl rfl rfl) (decide_eq_true rfl))) ?_))
 refine aa rfl (bk rfl rfl (by constructor)) ?_
 refine yM rfl rfl ?_
 refine yM rfl rfl ?_
 refine aa rfl (dz (ec rfl rfl rfl) (decide_eq_true (by omega))) ?_
 refine aa rfl (bk rfl rfl (by constructor)) ?_
 refine yM rfl rfl ?_
 refine yE rfl rfl rfl ?_
 refine aa rfl (gt rfl rfl) ?_
 ((first | refine aa rfl ((dz (c := true) (ld (x := (⟨0, 1⟩ : bg)) (y := (⟨0, 1⟩ : bg)) rfl rfl rfl) (decide_eq_true rfl))) ?_ | refine af rfl rfl rfl rfl ((dz (c := true) (ld (x := (⟨0, 1⟩ : bg)) (y := (⟨0, 1⟩ : bg)) rfl rfl rfl) (decide_eq_true rfl))) ?_ | refine d7 rfl rfl rfl rfl ((dz (c := true) (ld (x := (⟨0, 1⟩ : bg)) (y := (⟨0, 1⟩ : bg)) rfl rfl rfl) (decide_eq_true rfl))) ?_ | refine tr rfl rfl rfl ((dz (c := true) (ld (x := (⟨0, 1⟩ : bg)) (y := (⟨0, 1⟩ : bg)) rfl rfl rfl) (decide_eq_true rfl))) ?_))
 refine aa rfl (bk rfl rfl (by constructor)) ?_
 refine yM rfl rfl ?_
 refine yM rfl rfl ?_
 refine aa rfl (dz (ec rfl rfl rfl) (decide_eq_true (by omega))) ?_
 refine aa rfl (bk rfl rfl (by constructor)) ?_
 refine yM rfl rfl ?_
 refine yM rfl rfl ?_
 try dsimp only [St.put]
 refine ae rfl (dl rfl rfl rfl (by decide) (by decide) zR (by decide) ?_)
 try dsimp only [St.put]
 refine ae rfl (ay rfl rfl rfl (ucm [1, 0] (by decide)) ?_)
 refine aa rfl (bk rfl rfl (by constructor)) ?_
 refine yM rfl rfl ?_
 refine yM rfl rfl ?_
 refine aa rfl (dz (ec rfl rfl rfl) (decide_eq_true (by omega))) ?_
 refine aa rfl (bk rfl rfl (by constructor)) ?_
 refine yM rfl rfl ?_
 refine yM rfl rfl ?_
 try dsimp only [St.put]
 refine ae rfl (dl rfl rfl rfl (by decide) (by decide) zR (by decide) ?_)
 try dsimp only [St.put]
 refine ae rfl (ay rfl rfl rfl (ucm [0] (by decide)) ?_)
 refine aa rfl (bk rfl rfl (by constructor)) ?_
 refine yM rfl rfl ?_
 refine yM rfl rfl ?_
 refine aa rfl (bf rfl rfl (List.length_map _)) ?_
 ((first | refine aa rfl ((dz (c := true) (ec rfl rfl rfl) (decide_eq_true rfl))) ?_ | refine af rfl rfl rfl rfl ((dz (c := true) (ec rfl rfl rfl) (decide_eq_true rfl))) ?_ | refine d7 rfl rfl rfl rfl ((dz (c := true) (ec rfl rfl rfl) (decide_eq_true rfl))) ?_ | refine tr rfl rfl rfl ((dz (c := true) (ec rfl rfl rfl) (decide_eq_true rfl))) ?_))
 refine aa rfl (bk rfl rfl (by constructor)) ?_
 refine yM rfl rfl ?_
 try dsimp only [St.put]
 refine ae rfl (dl rfl rfl rfl (by decide) (by decide) zR (by decide) ?_)
 try dsimp only [St.put]
 refine ae rfl ((dr rfl rfl rfl ((um8 n)) zG (by dsimp only [St.put]; omega) ?_))
 refine aa rfl (bk rfl rfl (by constructor)) ?_
 refine yA rfl rfl ?_
 refine yN ?_
 dsimp only [St.put]
 refine K10 _ ?_
 refine aq ?_
 refine ba rfl (by constructor) zN zS ?_
 rfl
theorem ukg (p : ah) : Pure Tryd.prog 30 [val p] (.v (.bool (qd p))) := by
 refine co Tryd.func30 rfl (fun m => .v) fun G nx => ?_
 simp only [Tryd.ntmps30, List.length_cons, List.length_nil, Nat.reduceAdd, Nat.reduceSub]
 refine bl fun hlt => ?_
 dsimp only at hlt
 refine yS fun _ K1 => ?_
 refine yR ?_
 try dsimp only [St.put]
 refine yB rfl rfl rfl ?_
 refine yA rfl rfl ?_
 refine yN ?_
 dsimp only [St.put]
 refine K1 _ ?_
 refine yS fun _ K2 => ?_
 refine yR ?_
 refine yE rfl rfl rfl ?_
 try dsimp only [St.put]
 refine ae rfl (ay rfl rfl rfl (uhy p) ?_)
 refine aa rfl (dp rfl rfl) ?_
 refine yM rfl rfl ?_
 refine ef (fun hs => ?_) (fun hs => ?_)
 ·have h1 : ni p = false := by simpa using hs
  refine yE rfl rfl rfl ?_
  try dsimp only [St.put]
  refine ae rfl (ay rfl rfl rfl (uhz p) ?_)
  refine aa rfl (ec rfl rfl rfl) ?_
  refine aa rfl (bk rfl rfl (by constructor)) ?_
  refine yA rfl rfl ?_
  refine yN ?_
  dsimp only [St.put]
  refine K2 _ ?_
  refine aq ?_
  refine ba rfl (by constructor) zN zS ?_
  exact vb (by simp [qd, h1])
 have h1 : ni p = true := by simpa using hs
 refine yK rfl ?_
 refine yK rfl ?_
 refine yK rfl ?_
 refine aa rfl (cg rfl rfl (by constructor)) ?_
 refine yA rfl rfl ?_
 refine yN ?_
 dsimp only [St.put]
 refine K2 _ ?_
 refine aq ?_
 refine ba rfl (by constructor) zN zS ?_
 exact vb (by simp [qd, h1])
end Go.Proofs.YtbbdginipiljdaaDoor
namespace Go.AB
open Go Go.RowKit
open Go.AB.Enc (cells)
open Go.PB (av aj PlaceD az bd bc bi am ah cc bg)
theorem udw {α : Type} (f g : α → Bool) : ∀ l : List α, (l.filter f).length + (l.filter g).length = (l.filter fun x => f x || g x).length + (l.filter fun x => f x && g x).length
 | [] => rfl
 | x :: l => by
  have := udw f g l
  cases h1 : f x <;> cases h2 : g x <;> simp [h1, h2] <;> omega
theorem uk0 {p : ah} {last : Int} {x : am} (h : ky p last x) : x.found.length + x.well.length = (dn p.text x).length + (cj p.text x).length := by
 have h1 : x.found.length = ((ez p.text).filter fun q => decide (q ∈ x.found)).length := congrArg List.length (tf h.found)
 have h2 : x.well.length = ((ez p.text).filter fun q => decide (q ∈ x.well)).length := congrArg List.length (tf h.well)
 rw [h1, h2]
 exact udw _ _ _
theorem ud5 {p : ah} {last : Int} {x : am} (h : ky p last x) : (cj p.text x).length ≤ x.found.length ∧ (cj p.text x).length ≤ x.well.length := by
 have h1 : x.found.length = ((ez p.text).filter fun q => decide (q ∈ x.found)).length := congrArg List.length (tf h.found)
 have h2 : x.well.length = ((ez p.text).filter fun q => decide (q ∈ x.well)).length := congrArg List.length (tf h.well)
 rw [h1, h2]
 unfold cj
 simp only [← List.countP_eq_length_filter]
 exact ⟨List.countP_mono_left fun q _ hq => by rw [Bool.and_eq_true] at hq; exact hq.1, List.countP_mono_left fun q _ hq => by rw [Bool.and_eq_true] at hq; exact hq.2⟩
theorem uh0 {b u v : Nat} : (b + u + v) * b ≤ (b + u) * (b + v) := by
 have e : (b + u) * (b + v) = (b + u + v) * b + u * v := by
  simp only [Nat.add_mul, Nat.mul_add]
  have := Nat.mul_comm b v
  omega
 rw [e]; exact Nat.le_add_right _ _
theorem ul4 {n b : Nat} (hb : 0 < b) : (n + b - 1) / b = if n % b = 0 then n / b else n / b + 1 := by
 have hdm := Nat.div_add_mod n b
 have hlt := Nat.mod_lt n hb
 split
 ·rename_i h0
  rw [h0, Nat.add_zero] at hdm
  refine Nat.div_eq_of_lt_le ?_ ?_
  ·rw [Nat.mul_comm]; omega
  ·rw [Nat.mul_comm, Nat.mul_add]; omega
 ·rename_i h0
  refine Nat.div_eq_of_lt_le ?_ ?_
  ·rw [Nat.mul_comm, Nat.mul_add]; omega
  ·rw [Nat.mul_comm, Nat.mul_add, Nat.mul_add]; omega
/-- numbers of a guess: found by one, by the other, by either, by both -/
theorem ukt {f w a b : Nat} (hb : 0 < b) (h1 : f + w = a + b) (h2 : b ≤ f) (h3 : b ≤ w) : f * w / b * b ≤ f * w ∧ f * w ≤ (f * w + b - 1) / b * b ∧ f * w / b ≤ (f * w + b - 1) / b ∧ (f * w + b - 1) / b ≤ f * w / b + 1 ∧ ((f * w + b - 1) / b = f * w / b ↔ f * w % b = 0) ∧ a ≤ f * w / b ∧ (b = a → f * w / b = a ∧ (f * w + b - 1) / b = a) := by
 have hall : a * b ≤ f * w := by
  obtain ⟨u, rfl⟩ : ∃ u, f = b + u := ⟨f - b, by omega⟩
  obtain ⟨v, rfl⟩ : ∃ v, w = b + v := ⟨w - b, by omega⟩
  have ha : a = b + u + v := by omega
  rw [ha]
  exact uh0
 have hsame : b = a → f * w = a * b ∧ f * w % b = 0 := fun e => by
  have e1 : f = b := by omega
  have e2 : w = b := by omega
  rw [e1, e2, ← e]
  exact ⟨rfl, Nat.mul_mod_right b b⟩
 obtain ⟨n, hn⟩ : ∃ n, f * w = n := ⟨_, rfl⟩
 rw [hn] at hall hsame ⊢
 have hdm := Nat.div_add_mod n b
 have hlt := Nat.mod_lt n hb
 rw [Nat.mul_comm] at hdm
 have hc := ul4 (n := n) hb
 refine ⟨Nat.div_mul_le_self n b, ?_, ?_, ?_, ?_, (Nat.le_div_iff_mul_le hb).2 hall, fun e => ?_⟩
 ·rw [hc]
  split
  ·omega
  ·rw [Nat.add_mul]; omega
 ·rw [hc]; split <;> omega
 ·rw [hc]; split <;> omega
 ·rw [hc]
  split
  ·rename_i h0; exact ⟨fun _ => h0, fun _ => rfl⟩
  ·rename_i h0; exact ⟨fun h => by omega, fun h => absurd h h0⟩
 ·obtain ⟨q1, q2⟩ := hsame e
  have : n / b = a := by rw [q1]; exact Nat.mul_div_cancel a hb
  rw [hc, if_pos q2]
  exact ⟨this, this⟩
end Go.AB
namespace Go.AB
open Go Go.RowKit
open Go.AB.Enc (cells)
open Go.PB (av aj PlaceD az bd bc bi am ah cc bg ct cw)
theorem ujb {P : Program} {o : Oper} {st : St} {xt yt : TypeId} {x y : Operand} {m n r : Int} (hr : m % n = r) (ho : o.op = .binOp .rem xt x y yt) (hx : evC st x = .v (.int .i64 m)) (hy : evC st y = .v (.int .i64 n)) (hm : 0 ≤ m ∧ m ≤ 9223372036854775807) (hn : 0 < n) : NStep P o st (.v (.int .i64 r)) := hr ▸ ubv ho hx hy hm hn
theorem uh6 {α : Type} {l : List α} {a : Int} (ha : 0 ≤ a) (h : l.length ≠ 0) : ∃ (i : Nat) (x : α), a % (l.length : Int) = (i : Int) ∧ l[i]? = some x := by
 have h2 := Int.emod_nonneg a (show (l.length : Int) ≠ 0 by omega)
 have h3 := Int.emod_lt_of_pos a (show (0 : Int) < (l.length : Int) by omega)
 have hlt : (a % (l.length : Int)).toNat < l.length := by omega
 exact ⟨_, l[(a % (l.length : Int)).toNat], by omega, List.getElem?_eq_getElem hlt⟩
section
variable {p : ah} {i : Nat} {x : am}
theorem tp (h : ce p = 0) (hx : p.pages[i]? = some x) : du p (i : Int) = 0 := by
 have := (List.getElem?_eq_some_iff.1 hx).1
 unfold du
 rw [decide_eq_true h, cond_true, inB_true.2 (by omega)]
 rfl
theorem xg (hx : p.pages[i]? = some x) : ll p (i : Int) = x := by
 unfold ll
 rw [Int.toNat_natCast, hx]; rfl
theorem uku {F W A B : Nat} (hb : B ≠ 0) (hfc : F + W = A + B) (h1 : B ≤ F) (h2 : B ≤ W) : ∃ lo hi : Nat, (F * W / B = lo ∧ (F * W + B - 1) / B = hi) ∧ (lo : Int) * (B : Int) ≤ (F : Int) * (W : Int) ∧ (F : Int) * (W : Int) ≤ (hi : Int) * (B : Int) ∧ 0 ≤ (lo : Int) * (B : Int) ∧ (hi : Int) * (B : Int) ≤ (F : Int) * (W : Int) + (B : Int) ∧ (lo ≤ hi ∧ hi ≤ lo + 1) ∧ ((hi : Int) = (lo : Int) ↔ (F : Int) * (W : Int) % (B : Int) = 0) ∧ A ≤ lo ∧ (B = A → lo = A ∧ hi = A) := by
 obtain ⟨g1, g2, g3, g4, g5, g6, g7⟩ := ukt (by omega) hfc h1 h2
 obtain ⟨lo, hlo⟩ : ∃ lo, F * W / B = lo := ⟨_, rfl⟩
 obtain ⟨hi, hhi⟩ : ∃ hi, (F * W + B - 1) / B = hi := ⟨_, rfl⟩
 rw [hlo] at g1 g3 g4 g5 g6 g7
 rw [hhi] at g2 g3 g4 g5 g7
 have c1 := Int.natCast_mul F W
 have c2 := Int.natCast_mul lo B
 have c3 := Int.natCast_mul hi B
 have c4 : hi * B ≤ (lo + 1) * B := Nat.mul_le_mul_right _ g4
 rw [Nat.add_mul, Nat.one_mul] at c4
 refine ⟨lo, hi, ⟨hlo, hhi⟩, by omega, by omega, by omega, by omega, ⟨g3, g4⟩, ?_, g6, g7⟩
 rw [← c1, ← Int.natCast_emod]
 omega
theorem ukv {last : Int} (h : ky p last x) (hb : (cj p.text x).length ≠ 0) : ∃ lo hi : Nat, s9 x (cj p.text x).length = ⟨(lo : Int), (hi : Int)⟩ ∧ (lo : Int) * ((cj p.text x).length : Int) ≤ (x.found.length : Int) * (x.well.length : Int) ∧ (x.found.length : Int) * (x.well.length : Int) ≤ (hi : Int) * ((cj p.text x).length : Int) ∧ 0 ≤ (lo : Int) * ((cj p.text x).length : Int) ∧ (hi : Int) * ((cj p.text x).length : Int) ≤ (x.found.length : Int) * (x.well.length : Int) + ((cj p.text x).length : Int) ∧ (lo ≤ hi ∧ hi ≤ lo + 1) ∧ ((hi : Int) = (lo : Int) ↔ (x.found.length : Int) * (x.well.length : Int) % ((cj p.text x).length : Int) = 0) ∧ (dn p.text x).length ≤ lo ∧ ((cj p.text x).length = (dn p.text x).length → lo = (dn p.text x).length ∧ hi = (dn p.text x).length) := by
 obtain ⟨lo, hi, ⟨e1, e2⟩, h⟩ := uku hb (uk0 h) (ud5 h).1 (ud5 h).2
 exact ⟨lo, hi, by unfold s9; rw [e1, e2], h⟩
end
end Go.AB
namespace Go.Proofs.YtbbdginipiljdaaDoor
set_option maxRecDepth 10000
open Go Go.RowKit Go.AB
open Go.AB.Enc (cells)
open Go.PB (av aj PlaceD az bd bc bi am ah cc bg ct cw)
section
variable {p : ah} {i : Nat} {x : am}
theorem ukh (n : Nat) (h : ce p = 0) (hx : p.pages[i]? = some x) : ep n em Tryd.prog 14 [val p, .v (.int .i64 (i : Int))] (.tup [lst (dn p.text x), .v (.int .i64 0)]) := by
 have := ubb n p (i : Int)
 rwa [tp h hx, show om p (i : Int) = dn p.text x by unfold om; rw [tp h hx, xg hx]; rfl] at this
theorem lBoth (n : Nat) (h : ce p = 0) (hx : p.pages[i]? = some x) : ep n em Tryd.prog 19 [val p, .v (.int .i64 (i : Int))] (.tup [lst (cj p.text x), .v (.int .i64 0)]) := by
 have := ubc n p (i : Int)
 rwa [tp h hx, show ou p (i : Int) = cj p.text x by unfold ou; rw [tp h hx, xg hx]; rfl] at this
end
end Go.Proofs.YtbbdginipiljdaaDoor
namespace Go.Proofs.YtbbdginipiljdaaDoor
set_option maxRecDepth 10000
open Go Go.RowKit Go.AB
open Go.AB.Enc (cells)
open Go.PB (av aj PlaceD az bd bc bi am ah cc bg ct cw)
set_option maxHeartbeats 4000000 in
theorem uks (p : ah) (a : Int) : ep 0 em Tryd.prog 8 [val p, .v (.int .u8 a)] (.v (.bool true)) := fun G nx hF hnx => by
 refine ie (G) (nx) Tryd.func8 rfl (.v) zN (fun hlt => zH) ?_
 simp only [Tryd.ntmps8, List.length_cons, List.length_nil, Nat.reduceAdd, Nat.reduceSub]
 refine bl fun hlt => ?_
 dsimp only at hlt
 refine kr 1 (fun hfa => ?_)
 replace hfa := ufx hfa
 refine yS fun _ K1 => ?_
 refine yR ?_
 try dsimp only [St.put]
 refine yB rfl rfl rfl ?_
 refine yA rfl rfl ?_
 refine yN ?_
 dsimp only [St.put]
 refine K1 _ ?_
 refine yS fun _ K2 => ?_
 refine yR ?_
 try dsimp only [St.put]
 refine ae rfl ((dr rfl rfl rfl ((um1 0)) zG (by dsimp only [St.put]; omega) ?_))
 refine yA rfl rfl ?_
 refine yN ?_
 dsimp only [St.put]
 refine K2 _ ?_
 refine yS fun _ K3 => ?_
 refine yS fun _ K4 => ?_
 refine yR ?_
 refine yE rfl rfl rfl ?_
 try dsimp only [St.put]
 refine ae rfl (ay rfl rfl rfl (ukg p) ?_)
 refine aa rfl (dp rfl rfl) ?_
 refine yM rfl rfl ?_
 refine ef (fun hs => ?_) (fun hs => ?_)
 ·skip
  refine yK rfl ?_
  refine yK rfl ?_
  refine yK rfl ?_
  refine yK rfl ?_
  refine aa rfl (bk rfl rfl (by constructor)) ?_
  refine yM rfl rfl ?_
  refine yK rfl ?_
  refine yK rfl ?_
  refine aa rfl (bk rfl rfl (by constructor)) ?_
  refine yN ?_
  dsimp only [St.put]
  refine K4 _ ?_
  refine ar rfl (fun _ => ?_) (fun h => by cases h)
  refine yS fun _ K5 => ?_
  refine yR ?_
  refine yM rfl rfl ?_
  refine yA rfl rfl ?_
  refine yN ?_
  dsimp only [St.put]
  refine K5 _ ?_
  refine aq ?_
  refine ba rfl (by constructor) zN zS ?_
  rfl
 have hrd : qd p = true := by simpa using hs
 have hC := (readyP_true.1 hrd).2
 obtain ⟨hok, _⟩ := l5 hC
 have hnp := hok.np
 refine yF rfl rfl rfl rfl ?_
 refine yL rfl rfl rfl ?_
 refine aa rfl (bf rfl rfl (List.length_map _)) ?_
 refine aa rfl (ec rfl rfl rfl) ?_
 refine aa rfl (cg rfl rfl (by constructor)) ?_
 refine yM rfl rfl ?_
 refine ef (fun hs => ?_) (fun hs => ?_)
 ·skip
  refine yK rfl ?_
  refine yK rfl ?_
  refine aa rfl (bk rfl rfl (by constructor)) ?_
  refine yN ?_
  dsimp only [St.put]
  refine K4 _ ?_
  refine ar rfl (fun _ => ?_) (fun h => by cases h)
  refine yS fun _ K6 => ?_
  refine yR ?_
  refine yM rfl rfl ?_
  refine yA rfl rfl ?_
  refine yN ?_
  dsimp only [St.put]
  refine K6 _ ?_
  refine aq ?_
  refine ba rfl (by constructor) zN zS ?_
  rfl
 have hne : p.pages.length ≠ 0 := by
  have := of_decide_eq_false hs
  omega
 obtain ⟨i, x, hi, hx⟩ := uh6 hfa.1 hne
 have hil := (List.getElem?_eq_some_iff.1 hx).1
 have hp := pageB_true.1 (hok.page i x hx)
 have hal := ox hok.text
 have hfl := ms hp.found
 have hwl := ms hp.well
 have hbl := yy p.text x
 have hgl := te p.text x
 have hAE := tp hC hx
 have hPO := xg hx
 refine yM rfl rfl ?_
 refine aa rfl (dp rfl rfl) ?_
 refine aa rfl (cg rfl rfl (by constructor)) ?_
 refine yN ?_
 dsimp only [St.put]
 refine K4 _ ?_
 refine ar rfl (fun h => by cases h) (fun _ => ?_)
 refine ax ?_
 refine K3 _ ?_
 refine yS fun _ K7 => ?_
 refine yR ?_
 refine yM rfl rfl ?_
 refine aa rfl (ujj rfl rfl rfl rfl (by omega)) ?_
 refine yF rfl rfl rfl rfl ?_
 refine yL rfl rfl rfl ?_
 refine aa rfl (bf rfl rfl (List.length_map _)) ?_
 refine aa rfl (ujb hi rfl rfl rfl (by omega) (by omega)) ?_
 refine yA rfl rfl ?_
 refine yN ?_
 dsimp only [St.put]
 refine K7 _ ?_
 refine yS fun _ K8 => ?_
 refine yR ?_
 refine yF rfl rfl rfl rfl ?_
 refine yL rfl rfl rfl ?_
 refine yM rfl rfl ?_
 refine aa rfl (bu rfl rfl rfl rfl (bp (by assumption)) (Enc.len _)) ?_
 refine yE rfl rfl rfl ?_
 try dsimp only [St.put]
 refine ae rfl (dm rfl ?_)
 try dsimp only [St.put]
 refine ae rfl (cp rfl rfl rfl zG rfl rfl (by rfl) ?_)
 refine yN ?_
 dsimp only [St.put]
 refine K8 _ ?_
 refine fw (i := 7) rfl zG zC ?_
 dsimp only
 refine yS fun _ K9 => ?_
 refine yR ?_
 refine yE rfl rfl rfl ?_
 refine yM rfl rfl ?_
 try dsimp only [St.put]
 refine ae rfl ((dr rfl rfl rfl ((ukh 0 hC hx)) zG (by dsimp only [St.put]; omega) ?_))
 refine yM rfl rfl ?_
 refine yX rfl rfl rfl rfl ?_
 refine yX rfl rfl rfl rfl ?_
 refine yA rfl rfl ?_
 refine yA rfl rfl ?_
 refine yN ?_
 dsimp only [St.put]
 refine K9 _ ?_
 refine yS fun _ K10 => ?_
 refine yR ?_
 refine yE rfl rfl rfl ?_
 refine yM rfl rfl ?_
 try dsimp only [St.put]
 refine ae rfl ((dr rfl rfl rfl ((lBoth 0 hC hx)) zG (by dsimp only [St.put]; omega) ?_))
 refine yM rfl rfl ?_
 refine yX rfl rfl rfl rfl ?_
 refine yX rfl rfl rfl rfl ?_
 refine yA rfl rfl ?_
 refine yA rfl rfl ?_
 refine yN ?_
 dsimp only [St.put]
 refine K10 _ ?_
 refine yS fun _ K11 => ?_
 refine yR ?_
 refine yE rfl rfl rfl ?_
 refine yM rfl rfl ?_
 try dsimp only [St.put]
 refine ae rfl ((dr rfl rfl rfl ((uba 0 p (i : Int))) zG (by dsimp only [St.put]; omega) ?_))
 refine yM rfl rfl ?_
 refine yX rfl rfl rfl rfl ?_
 refine yX rfl rfl rfl rfl ?_
 try dsimp only [St.put]
 refine ae rfl (dm rfl ?_)
 try dsimp only [St.put]
 refine ae rfl (cp rfl rfl rfl zG rfl rfl (by rfl) ?_)
 refine yA rfl rfl ?_
 refine yN ?_
 dsimp only [St.put]
 refine K11 _ ?_
 refine fw (i := 12) rfl zG zC ?_
 dsimp only
 refine yS fun _ K12 => ?_
 refine yS fun _ K13 => ?_
 refine yR ?_
 refine yM rfl rfl ?_
 refine aa rfl (dz (c := false) (fm rfl rfl rfl) (ubp rfl)) ?_
 refine yM rfl rfl ?_
 refine yM rfl rfl ?_
 refine aa rfl (dz (c := false) (fm rfl rfl rfl) (ubp rfl)) ?_
 refine aa rfl (cg rfl rfl (by constructor)) ?_
 refine yN ?_
 dsimp only [St.put]
 refine K13 _ ?_
 refine ar rfl (fun h => by cases h) (fun _ => ?_)
 refine ax ?_
 refine K12 _ ?_
 refine yS fun _ K14 => ?_
 refine yS fun _ K15 => ?_
 refine yR ?_
 refine yM rfl rfl ?_
 refine aa rfl (bf rfl rfl (List.length_map _)) ?_
 refine aa rfl (ec rfl rfl rfl) ?_
 refine yN ?_
 dsimp only [St.put]
 refine K15 _ ?_
 refine ar rfl (fun hc => ?_) (fun hc => ?_)
 ·have hk : (cj p.text x).length = 0 := by have := of_decide_eq_true hc; omega
  have hE : lg p (i : Int) = 6 := by unfold lg; rw [hAE, hPO, decide_eq_true hk]; rfl
  refine yS fun _ K16 => ?_
  refine yR ?_
  refine yM rfl rfl ?_
  refine yM rfl rfl ?_
  refine yM rfl rfl ?_
  refine aa rfl (dz (c := true) (ec rfl rfl rfl) (decide_eq_true hE)) ?_
  refine aa rfl (bk rfl rfl (by constructor)) ?_
  refine yA rfl rfl ?_
  refine yN ?_
  dsimp only [St.put]
  refine K16 _ ?_
  refine aq ?_
  refine ba rfl (by constructor) zN zS ?_
  rfl
 have hk : (cj p.text x).length ≠ 0 := by have := of_decide_eq_false hc; omega
 obtain ⟨hE, hV⟩ := uct hAE hPO rfl hk
 obtain ⟨lo, hi', hG, g1, g2, g3, g4, ⟨g5, g6⟩, g7, g8, g9⟩ := ukv hp hk
 rw [hG] at hV
 have hfw : x.found.length * x.well.length ≤ 600 * 600 := Nat.mul_le_mul (by omega) (by omega)
 have hfc := Int.natCast_mul x.found.length x.well.length
 rw [hE, hV]
 refine ax ?_
 refine K14 _ ?_
 refine yS fun _ K17 => ?_
 refine yR ?_
 refine yF rfl rfl rfl rfl ?_
 refine yL rfl rfl rfl ?_
 refine aa rfl (bf rfl rfl (List.length_map _)) ?_
 refine yF rfl rfl rfl rfl ?_
 refine yL rfl rfl rfl ?_
 refine aa rfl (bf rfl rfl (List.length_map _)) ?_
 refine aa rfl (qi rfl rfl rfl (by omega)) ?_
 refine yA rfl rfl ?_
 refine yN ?_
 dsimp only [St.put]
 refine K17 _ ?_
 refine yS fun _ K18 => ?_
 refine yR ?_
 refine yM rfl rfl ?_
 refine aa rfl (bf rfl rfl (List.length_map _)) ?_
 refine yM rfl rfl ?_
 refine aa rfl (bf rfl rfl (List.length_map _)) ?_
 refine aa rfl (ec rfl rfl rfl) ?_
 refine yA rfl rfl ?_
 refine yN ?_
 dsimp only [St.put]
 refine K18 _ ?_
 refine yS fun _ K19 => ?_
 refine gn [(0, none), (1, none), (2, none), (3, none), (4, none), (5, none), (6, none), (7, none), (8, none), (9, none), (10, none), (11, none), (12, none), (13, none), (14, none), (15, none), (16, none), (17, none), (18, none), (19, none), (20, none), (21, none), (22, none), (23, none), (24, none), (25, none), (26, none), (27, none), (28, none), (29, none), (30, none), (31, none), (32, none), (33, none), (34, none), (35, none), (36, none), (37, none), (38, none), (39, none), (40, none), (41, none), (42, none), (43, none), (44, none), (45, none), (46, none), (47, none), (48, none), (49, none), (50, none), (51, none), (52, none), (53, none), (54, none), (55, none), (56, none), (57, none), (58, none), (59, none), (60, none), (61, none), (62, none), (63, none), (64, none), (65, none), (66, none), (67, none), (68, none), (69, none)] (fun i => [].contains i) (fun i => [].contains i) (fun i => [0, 1, 2, 3, 4, 5, 6, 8, 9, 10, 11, 12, 13, 14, 15, 17, 18, 19, 20, 21, 22, 23, 24, 26, 28, 29, 30, 31, 32, 34, 36, 37, 38, 39, 40, 41, 42, 43, 44, 45, 47, 48, 49, 50, 51, 52, 53, 54, 55, 57, 58, 59, 60, 61, 63, 64, 65, 66, 67, 68, 69].contains i) [] (by kernel_rfl) (by kernel_rfl) ?_
 refine xM rfl rfl rfl rfl rfl ?_
 refine xM rfl rfl rfl rfl rfl ?_
 refine xM rfl rfl rfl rfl rfl ?_
 refine af rfl rfl rfl rfl (dz (c := true) (ec rfl rfl rfl) (decide_eq_true rfl)) ?_
 refine af rfl rfl rfl rfl (bk rfl rfl (by constructor)) ?_
 refine xM rfl rfl rfl rfl rfl ?_
 refine af rfl rfl rfl rfl (bx rfl rfl rfl) ?_
 try dsimp only [St.put]
 refine aw rfl rfl rfl rfl (bn rfl rfl) ?_
 refine xM rfl rfl rfl rfl rfl ?_
 refine af rfl rfl rfl rfl (bf rfl rfl (List.length_map _)) ?_
 refine af rfl rfl rfl rfl (qi rfl rfl rfl (by omega)) ?_
 refine xM rfl rfl rfl rfl rfl ?_
 refine af rfl rfl rfl rfl (dz (c := true) (pd rfl rfl rfl) (decide_eq_true g1)) ?_
 refine af rfl rfl rfl rfl (bk rfl rfl (by constructor)) ?_
 refine xM rfl rfl rfl rfl rfl ?_
 refine af rfl rfl rfl rfl (bx rfl rfl rfl) ?_
 try dsimp only [St.put]
 refine aw rfl rfl rfl rfl (bn rfl rfl) ?_
 refine xM rfl rfl rfl rfl rfl ?_
 refine af rfl rfl rfl rfl (bf rfl rfl (List.length_map _)) ?_
 refine af rfl rfl rfl rfl (qi rfl rfl rfl (by omega)) ?_
 refine xM rfl rfl rfl rfl rfl ?_
 refine af rfl rfl rfl rfl (dz (c := true) (lp rfl rfl rfl) (decide_eq_true g2)) ?_
 refine af rfl rfl rfl rfl (bk rfl rfl (by constructor)) ?_
 refine xM rfl rfl rfl rfl rfl ?_
 refine af rfl rfl rfl rfl (bx rfl rfl rfl) ?_
 try dsimp only [St.put]
 refine aw rfl rfl rfl rfl (bn rfl rfl) ?_
 refine af rfl rfl rfl rfl (bx rfl rfl rfl) ?_
 try dsimp only [St.put]
 refine aw rfl rfl rfl rfl (bn rfl rfl) ?_
 refine af rfl rfl rfl rfl (gq rfl rfl rfl (by omega)) ?_
 refine af rfl rfl rfl rfl (dz (c := true) (pd rfl rfl rfl) (decide_eq_true (by omega))) ?_
 refine af rfl rfl rfl rfl (bk rfl rfl (by constructor)) ?_
 refine xM rfl rfl rfl rfl rfl ?_
 refine af rfl rfl rfl rfl (bx rfl rfl rfl) ?_
 try dsimp only [St.put]
 refine aw rfl rfl rfl rfl (bn rfl rfl) ?_
 refine af rfl rfl rfl rfl (bx rfl rfl rfl) ?_
 try dsimp only [St.put]
 refine aw rfl rfl rfl rfl (bn rfl rfl) ?_
 refine af rfl rfl rfl rfl (ec rfl rfl rfl) ?_
 refine xM rfl rfl rfl rfl rfl ?_
 refine xM rfl rfl rfl rfl rfl ?_
 refine af rfl rfl rfl rfl (bf rfl rfl (List.length_map _)) ?_
 refine af rfl rfl rfl rfl (ubv rfl rfl rfl (by omega) (by omega)) ?_
 refine af rfl rfl rfl rfl (ec rfl rfl rfl) ?_
 refine af rfl rfl rfl rfl (dz (c := true) (ujk rfl rfl rfl rfl) (umj (decide_eq_true_iff.trans g7))) ?_
 refine af rfl rfl rfl rfl (bk rfl rfl (by constructor)) ?_
 refine xM rfl rfl rfl rfl rfl ?_
 refine af rfl rfl rfl rfl (bx rfl rfl rfl) ?_
 try dsimp only [St.put]
 refine aw rfl rfl rfl rfl (bn rfl rfl) ?_
 refine xM rfl rfl rfl rfl rfl ?_
 refine af rfl rfl rfl rfl (bf rfl rfl (List.length_map _)) ?_
 refine af rfl rfl rfl rfl (dz (c := true) (lp rfl rfl rfl) (decide_eq_true (by omega))) ?_
 refine af rfl rfl rfl rfl (bk rfl rfl (by constructor)) ?_
 refine xM rfl rfl rfl rfl rfl ?_
 refine xM rfl rfl rfl rfl rfl ?_
 refine af rfl rfl rfl rfl (dp rfl rfl) ?_
 refine xM rfl rfl rfl rfl rfl ?_
 refine i4 (fun hs => ?_) (fun hs => ?_)
 ·skip
  refine ai rfl rfl rfl ?_
  refine ai rfl rfl rfl ?_
  refine ai rfl rfl rfl ?_
  refine ai rfl rfl rfl ?_
  refine ai rfl rfl rfl ?_
  refine ai rfl rfl rfl ?_
  refine ai rfl rfl rfl ?_
  refine ai rfl rfl rfl ?_
  refine ai rfl rfl rfl ?_
  refine ai rfl rfl rfl ?_
  refine ai rfl rfl rfl ?_
  refine ai rfl rfl rfl ?_
  refine af rfl rfl rfl rfl (bk rfl rfl (by constructor)) ?_
  refine af rfl rfl rfl rfl (bk rfl rfl (by constructor)) ?_
  refine af rfl rfl rfl rfl (fe rfl (by constructor)) ?_
  refine bz ?_
  dsimp only [St.put]
  refine K19 _ ?_
  refine aq ?_
  refine ba rfl (by constructor) zN zS ?_
  rfl
 have hsm : (cj p.text x).length = (dn p.text x).length := by
  have := of_decide_eq_true (show decide (((cj p.text x).length : Int) = ((dn p.text x).length : Int)) = true by simpa using hs)
  omega
 obtain ⟨s1, s2⟩ := g9 hsm
 refine af rfl rfl rfl rfl (bx rfl rfl rfl) ?_
 try dsimp only [St.put]
 refine aw rfl rfl rfl rfl (bn rfl rfl) ?_
 refine xM rfl rfl rfl rfl rfl ?_
 refine af rfl rfl rfl rfl (bf rfl rfl (List.length_map _)) ?_
 refine af rfl rfl rfl rfl (dz (c := true) (ec rfl rfl rfl) (decide_eq_true (by omega))) ?_
 refine xM rfl rfl rfl rfl rfl ?_
 refine af rfl rfl rfl rfl (bx rfl rfl rfl) ?_
 try dsimp only [St.put]
 refine aw rfl rfl rfl rfl (bn rfl rfl) ?_
 refine xM rfl rfl rfl rfl rfl ?_
 refine af rfl rfl rfl rfl (bf rfl rfl (List.length_map _)) ?_
 refine af rfl rfl rfl rfl (dz (c := true) (ec rfl rfl rfl) (decide_eq_true (by omega))) ?_
 refine af rfl rfl rfl rfl (bk rfl rfl (by constructor)) ?_
 refine af rfl rfl rfl rfl (cg rfl rfl (by constructor)) ?_
 refine af rfl rfl rfl rfl (bk rfl rfl (by constructor)) ?_
 refine af rfl rfl rfl rfl (fe rfl (by constructor)) ?_
 refine bz ?_
 dsimp only [St.put]
 refine K19 _ ?_
 refine aq ?_
 refine ba rfl (by constructor) zN zS ?_
 rfl
end Go.Proofs.YtbbdginipiljdaaDoor
namespace Go.AB
open Go Go.RowKit Go.ChangeShapes Go.WideShapes
end Go.AB
namespace Go.Proofs.YtbbdginipiljdaaDoor
set_option maxRecDepth 10000
open Go.ChangeShapes Go.WideShapes Go.ChangeAt Go.RowKit Go.AB
open Go.AB.Enc (cells)
open Go.PB (av aj PlaceD az bd bc)
instance : OpensE Tryd.prog 3 Int := .int (by kernel_rfl)
instance : OpensE Tryd.prog 9 ByteArray := .str (by kernel_rfl)
instance : OpensE Tryd.prog 124 (List ByteArray) := .slice (e := 9) (by kernel_rfl) (by decide)
instance : OpensE Tryd.prog 125 (List (List ByteArray)) := .slice (e := 124) (by kernel_rfl) (by decide)
instance : OpensE Tryd.prog 127 av := .chap (tI := 3) (tL := 125) (by kernel_rfl)
instance : OpensE Tryd.prog 22 (List av) := .slice (e := 127) (by kernel_rfl) (by decide)
theorem uf2 : jb Tryd.prog 24 [(0, 22, 1)] 1 = true := by kernel_rfl
instance : OpensE Tryd.prog 24 (List av) := .one (e := 22) uf2
theorem uh1 : jb Tryd.prog 54 [(0, 3, 1), (1, 3, 1), (2, 3, 1)] 3 = true := by kernel_rfl
instance : OpensE Tryd.prog 54 PlaceD := .place (tI := 3) uh1
theorem umc : Tryd.prog.underlying 4 = some .bool := by kernel_rfl
theorem ownZ : ownKnob Tryd.prog.godebug = none := by kernel_rfl
end Go.Proofs.YtbbdginipiljdaaDoor
namespace Go.AB
open Go Go.RowKit Go.ChangeShapes Go.WideShapes
open Go.AB.Enc (cells)
open Go.PB (av aj PlaceD az bd bc bi am ah cc bg)
theorem OpensE.reader {P : Program} {t tI : TypeId} [oI : OpensE P tI Int] (h : jb P t [(0, tI, 1), (1, tI, 1)] 2 = true) : OpensE P t bi :=
 .struct (α := bi) h fun w cs hl hp => by
  obtain ⟨a, ha⟩ := hp (0, tI, 1) (by simp) Int inferInstance oI
  obtain ⟨b, hb⟩ := hp (1, tI, 1) (by simp) Int inferInstance oI
  match cs, hl with
  | [u, v], _ => exact ⟨⟨a, b⟩, Rs.cons (Rs.single_inv ha) hb⟩
theorem OpensE.page {P : Program} {t tI tL : TypeId} [oI : OpensE P tI Int] [oL : OpensE P tL (List PlaceD)] (h : jb P t [(0, tI, 1), (1, tI, 1), (2, tI, 1), (3, tI, 1), (4, tL, 1), (5, tL, 1)] 6 = true) : OpensE P t am :=
 .struct (α := am) h fun w cs hl hp => by
  obtain ⟨a, ha⟩ := hp (0, tI, 1) (by simp) Int inferInstance oI
  obtain ⟨b, hb⟩ := hp (1, tI, 1) (by simp) Int inferInstance oI
  obtain ⟨c, hc⟩ := hp (2, tI, 1) (by simp) Int inferInstance oI
  obtain ⟨d, hd⟩ := hp (3, tI, 1) (by simp) Int inferInstance oI
  obtain ⟨e, he⟩ := hp (4, tL, 1) (by simp) (List PlaceD) inferInstance oL
  obtain ⟨f, hf⟩ := hp (5, tL, 1) (by simp) (List PlaceD) inferInstance oL
  match cs, hl with
  | [u0, u1, u2, u3, u4, u5], _ => exact ⟨⟨a, b, c, d, e, f⟩, Rs.cons (Rs.single_inv ha) (Rs.cons (Rs.single_inv hb) (Rs.cons (Rs.single_inv hc) (Rs.cons (Rs.single_inv hd) (Rs.cons (Rs.single_inv he) hf))))⟩
theorem OpensE.proofs {P : Program} {t tT tR tP : TypeId} [oT : OpensE P tT (List av)] [oR : OpensE P tR (List bi)] [oP : OpensE P tP (List am)] (h : jb P t [(0, tT, 1), (1, tR, 1), (2, tR, 1), (3, tP, 1)] 4 = true) : OpensE P t ah :=
 .struct (α := ah) h fun w cs hl hp => by
  obtain ⟨a, ha⟩ := hp (0, tT, 1) (by simp) (List av) inferInstance oT
  obtain ⟨b, hb⟩ := hp (1, tR, 1) (by simp) (List bi) inferInstance oR
  obtain ⟨c, hc⟩ := hp (2, tR, 1) (by simp) (List bi) inferInstance oR
  obtain ⟨d, hd⟩ := hp (3, tP, 1) (by simp) (List am) inferInstance oP
  match cs, hl with
  | [u0, u1, u2, u3], _ => exact ⟨⟨a, b, c, d⟩, Rs.cons (Rs.single_inv ha) (Rs.cons (Rs.single_inv hb) (Rs.cons (Rs.single_inv hc) hd))⟩
end Go.AB
namespace Go.AB
open Go Go.RowKit Go.ChangeShapes Go.WideShapes
open Go.AB.Enc (cells)
open Go.PB (av aj PlaceD bi am ah cc bg)
def uc0 (P : Program) (t : TypeId) : Bool := match P.underlying t with | some (.func _ _ _) => true | _ => false
theorem yj {P : Program} {t : TypeId} (h : uc0 P t = true) : ∃ ps rs va, P.underlying t = some (.func ps rs va) := by
 unfold uc0 at h
 split at h
 ·rename_i ps rs va he; exact ⟨ps, rs, va, he⟩
 ·cases h
/-- Functions that lie in a variable's cells. -/
theorem ule {W : World} {b : Nat} {cs : List C} (hne : cs ≠ []) (hone : ∀ c ∈ cs, c.one = true) (us : Nat → Value) (hc : ∀ j, j < cs.length → W.cell? ⟨b, j, none⟩ = some (us j)) (hr : ∀ j c, cs[j]? = some c → R (jg W) W c (us j)) : R (jg W) W (.elem cs) (.pointer (some ⟨b, 0, none⟩)) := by
 have hl : 0 < cs.length := List.length_pos_iff.2 hne
 refine .elem hne hone (.inr ⟨b, 0, rfl, ?_, fun j hj => by rw [Nat.zero_add]; exact hc j hj⟩) hr
 have := ud0 (hc (cs.length - 1) (by omega))
 show 0 + cs.length ≤ po W b
 omega
theorem uke {P : Program} {f : FuncId} {cs : List C} {v gv : Value} {gc : C} (hp : ep 0 (.fact gv gc) P f cs (.v v)) {w : World} {args : List Value} (hK : R (jg w) w gc gv) (hr : Rs (jg w) w cs args) :
  Calls P f args.toArray w fun e w' => e = .returned v ∧ Below w.heap.size w w' :=
 ukf (fun G nx hG => by
  intro E w' as' hrs hsg
  exact hp G nx hG (by obtain ⟨t, _⟩ := hsg.obj 0 _ hG; have := hsg.lt 0 _ t; rw [hsg.nx] at this; exact this) E w' as' hrs hsg) hK hr
/-- a cell of a function's type, as it reads -/
theorem qr {P : Program} {W : World} {t : TypeId} {ps rs : Array TypeId} {va : Bool} {v : Value} {b : UInt8} {r : List UInt8} {f0 : FuncId} (hu : P.underlying t = some (.func ps rs va)) (hv : IsFunc v) (hd : veil (funcToken P) t v = .held (b :: r))
  (hone : ((List.range P.funcs.size).filter fun f => (P.funcs[f]?).any (·.name.toUTF8.data.toList == b :: r)) = [f0]) : v = .func (.func f0) #[] #[] :=
 Go.func_of_trod (w := W) (base := 0) (sp := fun _ => true) (fuel := 1) (q := []) hu hone (by
  have := trod_func (enc := funcToken P) hu (W := W) (base := 0) (sp := fun _ => true) hv 0
  rw [hd] at this
  exact this)
end Go.AB
namespace Go.Proofs.YtbbdginipiljdaaDoor
set_option maxRecDepth 10000
open Go.ChangeShapes Go.WideShapes Go.ChangeAt Go.RowKit Go.AB
open Go.AB.Enc (cells)
open Go.PB (av aj PlaceD bi am ah cc bg)
instance : OpensE Tryd.prog 66 bi := .reader (tI := 3) (by kernel_rfl)
instance : OpensE Tryd.prog 25 (List bi) := .slice (e := 66) (by kernel_rfl) (by decide)
instance : OpensE Tryd.prog 36 (List PlaceD) := .slice (e := 54) (by kernel_rfl) (by decide)
instance : OpensE Tryd.prog 70 am := .page (tI := 3) (tL := 36) (by kernel_rfl)
instance : OpensE Tryd.prog 26 (List am) := .slice (e := 70) (by kernel_rfl) (by decide)
theorem uaz : jb Tryd.prog 28 [(0, 24, 1), (1, 25, 1), (2, 25, 1), (3, 26, 1)] 4 = true := by kernel_rfl
instance : OpensE Tryd.prog 28 ah := .proofs (tT := 24) (tR := 25) (tP := 26) uaz
theorem u8OkL : s7 Tryd.prog 5 .u8 = true := by kernel_rfl
theorem gSides : Tryd.prog.globalNamed "postil/proof.sides" = some 0 := by kernel_rfl
theorem tSides : (Tryd.prog.globals[0]?).map (·.type) = some 97 := by kernel_rfl
theorem ufw : Tryd.prog.underlying 97 = some (.array 2 96) := by kernel_rfl
theorem ul9 : Tryd.prog.cellsOf 97 = 6 := by kernel_rfl
theorem ud2 : Tryd.prog.cellsOf 96 = 3 := by kernel_rfl
theorem uah : jb Tryd.prog 96 [(0, 92, 1), (1, 93, 1), (2, 94, 1)] 3 = true := by kernel_rfl
theorem uda : ∃ ps rs va, Tryd.prog.underlying 92 = some (.func ps rs va) := yj (by kernel_rfl)
theorem udc : ∃ ps rs va, Tryd.prog.underlying 93 = some (.func ps rs va) := yj (by kernel_rfl)
theorem udb : ∃ ps rs va, Tryd.prog.underlying 94 = some (.func ps rs va) := yj (by kernel_rfl)
theorem uab {W : World} {m : Nat} {cs : List Value} {y : DataW (List UInt8) × List MemPlace} {d0 d1 d2 : DataW (List UInt8)} (hy : y.1 = .agg [d0, d1, d2])
  (h : DataW.trod (funcToken Tryd.prog) Tryd.prog W 0 (fun _ => true) true m 96 cs = some y) : ∃ v0 v1 v2, cs = [v0, v1, v2] ∧ (IsFunc v0 ∧ veil (funcToken Tryd.prog) 92 v0 = d0) ∧ (IsFunc v1 ∧ veil (funcToken Tryd.prog) 93 v1 = d1) ∧ (IsFunc v2 ∧ veil (funcToken Tryd.prog) 94 v2 = d2) := by
 obtain ⟨_, fs, he⟩ := ub uah
 obtain ⟨xs, m', _, e1, hl, hlen, hf⟩ := DataW.trod_struct he h
 rw [ud2] at hl
 have hfs : fs.toList.map (fun f => (f.offset, f.type, Tryd.prog.cellsOf f.type)) = [(0, 92, 1), (1, 93, 1), (2, 94, 1)] := by
  have := uah
  unfold jb at this
  rw [he] at this
  simp only [Bool.and_eq_true, beq_iff_eq] at this
  exact this.1
 obtain ⟨l⟩ := fs
 match l, hfs with
 | [f0, f1, f2], hfs =>
  simp only [List.map_cons, List.map_nil, List.cons.injEq, Prod.mk.injEq, and_true] at hfs
  obtain ⟨⟨a1, a2, a3⟩, ⟨b1, b2, b3⟩, ⟨c1, c2, c3⟩⟩ := hfs
  have h0 := hf 0 f0 rfl
  have h1 := hf 1 f1 rfl
  have h2 := hf 2 f2 rfl
  match cs, hl with
  | [u0, u1, u2], _ =>
   match xs, hlen with
   | [x0, x1, x2], _ =>
    subst e1
    simp only [List.map_cons, List.map_nil, DataW.agg.injEq, List.cons.injEq, and_true] at hy
    rw [a3, a1, a2] at h0
    rw [b3, b1, b2] at h1
    rw [c3, c1, c2] at h2
    obtain ⟨ps, rs, va, hu⟩ := uda
    obtain ⟨ps', rs', va', hu'⟩ := udc
    obtain ⟨ps2, rs2, va2, hu2⟩ := udb
    obtain ⟨v0, q0, q1, q2⟩ := Go.RowKit.func_of_trod hu h0
    obtain ⟨v1, q3, q4, q5⟩ := Go.RowKit.func_of_trod hu' h1
    obtain ⟨v2, q6, q7, q8⟩ := Go.RowKit.func_of_trod hu2 h2
    have e0 : u0 = v0 := by simpa using q0
    have e1 : u1 = v1 := by simpa using q3
    have e2 : u2 = v2 := by simpa using q6
    subst e0; subst e1; subst e2
    have hx0 : x0 = (veil (funcToken Tryd.prog) 92 u0, []) := by simpa using q2
    have hx1 : x1 = (veil (funcToken Tryd.prog) 93 u1, []) := by simpa using q5
    have hx2 : x2 = (veil (funcToken Tryd.prog) 94 u2, []) := by simpa using q8
    subst hx0; subst hx1; subst hx2
    obtain ⟨k0, k1, k2⟩ := hy
    exact ⟨u0, u1, u2, rfl, ⟨q1, k0⟩, ⟨q4, k1⟩, ⟨q7, k2⟩⟩
 | [], hfs => exact absurd hfs (by simp)
 | [_], hfs => exact absurd hfs (by simp)
 | [_, _], hfs => exact absurd hfs (by simp)
 | _ :: _ :: _ :: _ :: _, hfs => exact absurd hfs (by simp)
theorem ugo {W : World} (h : funcsAt Tryd.prog W "postil/proof.sides" (.agg [.agg [.iface "func" (.lit (.string [112, 111, 115, 116, 105, 108, 47, 112, 114, 111, 111, 102, 46, 115, 105, 100, 101, 115, 36, 49])), .iface "func" (.lit (.string [112, 111, 115, 116, 105, 108, 47, 112, 114, 111, 111, 102, 46, 115, 105, 100, 101, 115, 36, 50])), .iface "func" (.lit (.string [112, 111, 115, 116, 105, 108, 47, 112, 114, 111, 111, 102, 46, 115, 105, 100, 101, 115, 36, 51]))], .agg [.iface "func" (.lit (.string [112, 111, 115, 116, 105, 108, 47, 112, 114, 111, 111, 102, 46, 115, 105, 100, 101, 115, 36, 52])), .iface "func" (.lit (.string [112, 111, 115, 116, 105, 108, 47, 112, 114, 111, 111, 102, 46, 115, 105, 100, 101, 115, 36, 53])), .iface "func" (.lit (.string [112, 111, 115, 116, 105, 108, 47, 112, 114, 111, 111, 102, 46, 115, 105, 100, 101, 115, 36, 54]))]])) : R (jg W) W (.elem sidL) (.pointer (some ⟨0, 0, none⟩)) := by
 obtain ⟨g, t, cs, fuel, p, hg, ht, hv, hd⟩ := h
 obtain rfl := Option.some.inj (gSides.symm.trans hg)
 obtain rfl := Option.some.inj (tSides.symm.trans ht)
 obtain ⟨xs, m, _, e1, hl, hn, hel⟩ := DataW.trod_array ufw hd
 rw [ul9] at hl
 rw [ud2] at hel
 have hcell := fun i => World.var?_cell hg hv i
 obtain ⟨l⟩ := cs
 dsimp only at hl hel hcell
 match l, hl with
 | [u0, u1, u2, u3, u4, u5], _ =>
  match xs, hn with
  | [x0, x1], _ =>
   simp only [Prod.mk.injEq] at e1
   have e2 : (.agg [.agg [.held [112, 111, 115, 116, 105, 108, 47, 112, 114, 111, 111, 102, 46, 115, 105, 100, 101, 115, 36, 49], .held [112, 111, 115, 116, 105, 108, 47, 112, 114, 111, 111, 102, 46, 115, 105, 100, 101, 115, 36, 50], .held [112, 111, 115, 116, 105, 108, 47, 112, 114, 111, 111, 102, 46, 115, 105, 100, 101, 115, 36, 51]], .agg [.held [112, 111, 115, 116, 105, 108, 47, 112, 114, 111, 111, 102, 46, 115, 105, 100, 101, 115, 36, 52], .held [112, 111, 115, 116, 105, 108, 47, 112, 114, 111, 111, 102, 46, 115, 105, 100, 101, 115, 36, 53], .held [112, 111, 115, 116, 105, 108, 47, 112, 114, 111, 111, 102, 46, 115, 105, 100, 101, 115, 36, 54]]] : DataW (List UInt8)) = .agg [x0.1, x1.1] := e1.1
   simp only [DataW.agg.injEq, List.cons.injEq, and_true] at e2
   obtain ⟨a0, a1, a2, q0, ⟨a3, a4⟩, ⟨a5, a6⟩, ⟨a7, a8⟩⟩ := uab e2.1.symm (hel 0 (by omega))
   obtain ⟨b0, b1, b2, q1, ⟨b3, b4⟩, ⟨b5, b6⟩, ⟨b7, b8⟩⟩ := uab e2.2.symm (hel 1 (by omega))
   simp only [Nat.zero_mul, Nat.one_mul, List.drop_zero, List.drop_succ_cons, List.take_succ_cons, List.take_zero, List.cons.injEq, and_true] at q0 q1
   obtain ⟨rfl, rfl, rfl⟩ := q0
   obtain ⟨rfl, rfl, rfl⟩ := q1
   obtain ⟨ps, rs, va, hu⟩ := uda
   obtain ⟨ps', rs', va', hu'⟩ := udc
   obtain ⟨ps2, rs2, va2, hu2⟩ := udb
   obtain rfl := qr (W := W) (f0 := 151) hu a3 a4 (by kernel_rfl)
   obtain rfl := qr (W := W) (f0 := 152) hu' a5 a6 (by kernel_rfl)
   obtain rfl := qr (W := W) (f0 := 153) hu2 a7 a8 (by kernel_rfl)
   obtain rfl := qr (W := W) (f0 := 154) hu b3 b4 (by kernel_rfl)
   obtain rfl := qr (W := W) (f0 := 155) hu' b5 b6 (by kernel_rfl)
   obtain rfl := qr (W := W) (f0 := 156) hu2 b7 b8 (by kernel_rfl)
   let L : List Value := [.func (.func 151) #[] #[], .func (.func 152) #[] #[], .func (.func 153) #[] #[], .func (.func 154) #[] #[], .func (.func 155) #[] #[], .func (.func 156) #[] #[]]
   refine ule (by simp [sidL, m4]) (by intro c hc; simp only [sidL, m4, List.cons_append, List.nil_append, List.mem_cons, List.not_mem_nil, or_false] at hc; rcases hc with rfl | rfl | rfl | rfl | rfl | rfl <;> rfl) (fun j => L.getD j undef) (fun j hj => ?_) (fun j c hc => ?_)
   ·have := hcell j
    have hj' : j < 6 := hj
    rw [this]
    show (L.toArray)[j]? = _
    rw [List.getElem?_toArray, List.getD_eq_getElem?_getD, List.getElem?_eq_getElem (show j < L.length from hj')]
    rfl
   ·match j, hc with
    | 0, hc => cases hc; exact Rs.fn (vs := []) Rs.nil
    | 1, hc => cases hc; exact Rs.fn (vs := []) Rs.nil
    | 2, hc => cases hc; exact Rs.fn (vs := []) Rs.nil
    | 3, hc => cases hc; exact Rs.fn (vs := []) Rs.nil
    | 4, hc => cases hc; exact Rs.fn (vs := []) Rs.nil
    | 5, hc => cases hc; exact Rs.fn (vs := []) Rs.nil
abbrev sw : List (String × DataW Unit) := [("postil/proof.sides", Rows.laid_postil_proof_sides)]
set_option maxRecDepth 100000 in
/-- The door's own heap meets the condition. -/
theorem ulp (os : Os) (args : Array Value) : laidMetH Tryd.prog sw ((World.doorLaid Tryd.prog 600 os).forCall (fun _ _ => 0) ⟨#[], args, []⟩).memory :=
 laidMetH_of_parts3 (fuel := 8) (laidMet_of_run' 8 (by kernel_rfl) (by kernel_rfl)) (by kernel_rfl) (by kernel_rfl)
theorem ugn {W : World} (h : laidMetH Tryd.prog sw W) : R (jg W) W (.elem sidL) (.pointer (some ⟨0, 0, none⟩)) := ugo (h.funcs (List.mem_cons_self ..))
end Go.Proofs.YtbbdginipiljdaaDoor
namespace Go.AB
open Go Go.RowKit Go.ChangeShapes Go.WideShapes
section
variable {H : Type} {enc : TypeId × Value → H} {P : Program} {w : World} {base : Nat} {spare : Nat → Bool} {held : Bool}
end
end Go.AB
