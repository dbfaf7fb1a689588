/-
  What the walks through the program rest on: values, states, steps, calls (RfLefts, QnRef, QrRef, ReAsk, RjRests, QoRef, RkTotal, RgSets, QpRef, QqRef, RlChief, SaAlive, PkGuess, SbFacts, SdSums, SgLarge, OpenL, OpenW, OpenS, OpenU, SlWorst, Trod).
-/
import Derived.Test.YtbbdginipiljdaaGreatDoorPartD
import Derived.Test.YtbbdginipiljdaaGreatDoorPartC
import Derived.Test.YtbbdginipiljdaaGreatDoorPartB
import Derived.Test.YtbbdginipiljdaaGreatDoorRows
import Derived.LaidMore
import Derived.RowKitVeiled
import Derived.Carry
namespace Go.AB
open Go Go.RowKit
open Go.AB.Enc (cells)
open Go.PB (ba ai PlaceD bh bk bj bw ar ah cw bv dc dg)
/-- how many readers are ahead of a side -/
def sdN (p : ah) : Nat → Nat
 | 0 => 0
 | 1 => p.firsts.length
 | _ => p.firsts.length + p.seconds.length
theorem xh {p : ah} : ∀ {k : Nat}, k < 2 → sdN p (k + 1) = sdN p k + (dv p (decide (k = 1))).length
 | 0, _ => (Nat.zero_add _).symm
 | 1, _ => rfl
 | k + 2, h => by omega
theorem uk8 {p : ah} : ∀ {k i : Nat}, k < 2 → i < (dv p (decide (k = 1))).length → cy p (sdN p k + i) = k9 p (decide (k = 1)) i ∧ sdN p k + i < cj p
 | 0, i, _, h => by
  have h : i < p.firsts.length := h
  rw [show sdN p 0 + i = i from Nat.zero_add i]
  unfold cy cj
  rw [decide_eq_true h]
  exact ⟨rfl, by omega⟩
 | 1, i, _, h => by
  have h : i < p.seconds.length := h
  rw [show sdN p 1 + i = p.firsts.length + i from rfl]
  unfold cy cj
  rw [decide_eq_false (by omega), Nat.add_sub_cancel_left]
  exact ⟨rfl, by omega⟩
 | k + 2, _, h, _ => by omega
end Go.AB
namespace Go.Proofs.YtbbdginipiljdaaGreatDoor
set_option maxRecDepth 10000
open Go Go.RowKit Go.AB
open Go.AB.Enc (cells)
open Go.PB (ba ai PlaceD bh bk bj bw ar ah cw bv dc dg)
set_option maxHeartbeats 1000000 in
theorem uk7 (nF : Nat) (p : ah) (h : ef p) : wo nF e9 Tryz.prog 110 [.elem [.elem (j9 p)]] (cj p) (fun k => [.v (.int .i64 (cy p k))]) := by
 refine uc7 Tryz.func110 rfl rfl fun I hN hcl ok hG hn => ?_
 simp only [Tryz.ntmps110, List.length_cons, List.length_nil, Nat.reduceAdd, Nat.reduceSub]
 have hn1 := h.nf
 have hn2 := h.ns
 refine kf 2 ?_
 refine zQ ?_
 refine o6 ?_
 dsimp only [FC.st]
 refine bx fun hlt => ?_
 dsimp only at hlt
 refine i1 ?_
 try dsimp only [St.put]
 refine ci rfl (mq (n := 6) (m := nF) rfl rfl (hG _) rfl) ?_
 refine aa rfl (gy rfl (by constructor)) ?_
 refine i2 ?_
 dsimp only [St.put]
 show jy _ _ _ _ _ _ _
 refine o7 ok rfl ⟨rfl, rfl, zK, zN, zS, zK⟩ ?_
 refine qw ?_
 refine kf 10 ?_
 refine zQ ?_
 refine yx (X := Nat) (fun k => k ≤ 2) (fun k => 2 - k) (fun k => [(2, .any), (3, .any), (4, .any), (5, .any), (6, .any), (7, .any), (9, .v (.int .i64 (k : Int)))]) (fun k => sdN p k) 0 rfl ?_ ?_ ?_ ?_ ?_
 ·exact Nat.zero_le _
 ·exact zF
 ·rfl
 ·rintro k hI
  exact zL
 ·rintro k hI
  dsimp only at hI ⊢
  refine kf 10 ?_
  refine zQ ?_
  refine o6 ?_
  dsimp only [FC.st]
  refine bx fun hlt => ?_
  dsimp only at hlt
  refine i1 ?_
  refine aa rfl (cn rfl rfl rfl) ?_
  refine i2 ?_
  dsimp only [St.put]
  show jy _ _ _ _ _ _ _
  refine o7 ok rfl ⟨rfl, rfl, zK, zN, zS, zK⟩ ?_
  refine o5 fun K1 hK1 => ?_
  refine s9 rfl (fun hc => ?_) (fun hc => ?_)
  ·replace hc := of_decide_eq_true hc
   have hk : k < 2 := by omega
   have hsl : (dv p (decide (k = 1))).length ≤ 3 := by
    cases decide (k = 1)
    ·exact hn1
    ·exact hn2
   refine s7 ?_
   refine hK1 _ _ ?_
   refine o5 fun K2 hK2 => ?_
   refine qw ?_
   refine kf 10 ?_
   refine zQ ?_
   refine o6 ?_
   dsimp only [FC.st]
   refine bx fun hlt => ?_
   dsimp only at hlt
   refine i1 ?_
   refine aa rfl (u9 (k := k) (m := 2) (sz := 3) rfl rfl rfl rfl hk (uk hk)) ?_
   try dsimp only [St.put]
   refine af rfl (ed rfl ?_)
   try dsimp only [St.put]
   first | refine af rfl (dj rfl rfl rfl zG rfl rfl (by rfl) ?_) | refine af rfl (cd rfl rfl rfl zG (by constructor) rfl zO ?_)
   refine i2 ?_
   dsimp only [St.put]
   show jy _ _ _ _ _ _ _
   refine vv ?_
   refine gp (i := 4) rfl zG zC ?_
   dsimp only
   refine fu [(0, none), (1, none), (2, none), (3, none), (4, none), (5, none), (8, none), (6, none), (7, none)] (fun i => [6].contains i) (fun i => [6].contains i) (fun i => [0, 3, 4, 7, 8].contains i) [] (by kernel_rfl) (by kernel_rfl) ?_
   first | refine ae rfl rfl rfl rfl (cv rfl rfl rfl) ?_ | refine ae rfl rfl rfl rfl (bl rfl rfl) ?_
   try dsimp only [St.put]
   first | refine bc rfl rfl rfl rfl (cg rfl rfl) ?_ | refine bc rfl rfl rfl rfl (eh rfl rfl (Enc.len _)) ?_ | refine bc rfl rfl rfl rfl (eh rfl rfl rfl) ?_ | refine bc rfl rfl rfl rfl (gg rfl rfl zG (by simp) (by first | rfl | assumption)) ?_ | refine bc rfl rfl rfl rfl (i5 rfl rfl zG (by simp) (by rfl)) ?_ | refine bc rfl rfl rfl rfl (pk rfl rfl zG (by simp) (by simp)) ?_ | refine bc rfl rfl rfl rfl (jh rfl rfl zG (by simp) (py (by assumption) rfl)) ?_ | refine bc rfl rfl rfl rfl (jh rfl rfl zG (by simp) (by assumption)) ?_ | refine bc rfl rfl rfl rfl (qg rfl rfl zG (by simp) rfl (by assumption) rfl (by decide)) ?_ | refine bc rfl rfl rfl rfl (mq rfl rfl zG (by rfl)) ?_
   try dsimp only [St.put]
   first | refine bc rfl rfl rfl rfl (cg rfl rfl) ?_ | refine bc rfl rfl rfl rfl (eh rfl rfl (Enc.len _)) ?_ | refine bc rfl rfl rfl rfl (eh rfl rfl rfl) ?_ | refine bc rfl rfl rfl rfl (gg rfl rfl zG (by simp) (by first | rfl | assumption)) ?_ | refine bc rfl rfl rfl rfl (i5 rfl rfl zG (by simp) (by rfl)) ?_ | refine bc rfl rfl rfl rfl (pk rfl rfl zG (by simp) (by simp)) ?_ | refine bc rfl rfl rfl rfl (jh rfl rfl zG (by simp) (py (by assumption) rfl)) ?_ | refine bc rfl rfl rfl rfl (jh rfl rfl zG (by simp) (by assumption)) ?_ | refine bc rfl rfl rfl rfl (qg rfl rfl zG (by simp) rfl (by assumption) rfl (by decide)) ?_ | refine bc rfl rfl rfl rfl (mq rfl rfl zG (by rfl)) ?_
   first | refine ae rfl rfl rfl rfl (kx rfl rfl) ?_ | refine ae rfl rfl rfl rfl (cc rfl rfl) ?_ | refine ae rfl rfl rfl rfl (uke rfl rfl) ?_
   first | refine ae rfl rfl rfl rfl (cv rfl rfl rfl) ?_ | refine ae rfl rfl rfl rfl (bl rfl rfl) ?_
   try dsimp only [St.put]
   refine bc rfl rfl rfl rfl (c := val p) (jc (cs := j9 p) rfl rfl (show 4 ≤ 7 by decide)) ?_
   refine ae rfl rfl rfl rfl (gy rfl (by constructor)) ?_
   refine g7 ?_
   try dsimp only [St.put]
   refine g4 rfl rfl rfl rfl (bd rfl rfl rfl (ou (decide (k = 1)) p) ?_)
   first | refine dq rfl rfl rfl rfl (bi rfl rfl (List.length_map _)) ?_ | refine dq rfl rfl rfl rfl (bi rfl rfl rfl) ?_ | refine dq rfl rfl rfl rfl (sk rfl rfl) ?_ | refine dq rfl rfl rfl rfl (uki rfl rfl) ?_ | refine dq rfl rfl rfl rfl (ukh rfl rfl) ?_ | refine dq rfl rfl rfl rfl (ukg rfl rfl (by omega)) ?_
   refine gw ?_
   dsimp only [St.put]
   show jy _ _ _ _ _ _ _
   refine o7 ok rfl ⟨rfl, rfl, zK, zN, zS, zK⟩ ?_
   refine qw ?_
   refine kf 21 ?_
   refine zQ ?_
   refine yx (X := Nat) (fun i => i ≤ (dv p (decide (k = 1))).length) (fun i => (dv p (decide (k = 1))).length - i) (fun i => [(5, .any), (6, .any), (7, .any), (20, .v (.int .i64 (i : Int)))]) (fun i => sdN p k + i) 0 rfl ?_ ?_ ?_ ?_ ?_
   ·exact Nat.zero_le _
   ·exact zF
   ·rfl
   ·rintro i hI
    exact zL
   ·rintro i hJ
    dsimp only at hJ ⊢
    refine kf 21 ?_
    refine zQ ?_
    refine o6 ?_
    dsimp only [FC.st]
    refine bx fun hlt => ?_
    dsimp only at hlt
    refine i1 ?_
    refine aa rfl (cn rfl rfl rfl) ?_
    refine i2 ?_
    dsimp only [St.put]
    show jy _ _ _ _ _ _ _
    refine o7 ok rfl ⟨rfl, rfl, zK, zN, zS, zK⟩ ?_
    refine o5 fun K3 hK3 => ?_
    refine s9 rfl (fun hc => ?_) (fun hc => ?_)
    ·replace hc := of_decide_eq_true hc
     have hi : i < (dv p (decide (k = 1))).length := by omega
     obtain ⟨hL, hN2⟩ := uk8 hk hi
     refine s7 ?_
     refine hK3 _ _ ?_
     refine o5 fun K4 hK4 => ?_
     refine qw ?_
     refine kf 21 ?_
     refine zQ ?_
     refine o6 ?_
     dsimp only [FC.st]
     refine bx fun hlt => ?_
     dsimp only at hlt
     refine i1 ?_
     refine aa rfl (gy rfl (by constructor)) ?_
     refine aa rfl (fa rfl (by constructor)) ?_
     refine i2 ?_
     dsimp only [St.put]
     show jy _ _ _ _ _ _ _
     refine vv ?_
     refine i1 ?_
     try dsimp only [St.put]
     first | refine ci rfl (cg rfl rfl) ?_ | refine ci rfl (eh rfl rfl (Enc.len _)) ?_ | refine ci rfl (eh rfl rfl rfl) ?_ | refine ci rfl (gg rfl rfl zG trivial (by first | rfl | assumption)) ?_ | refine ci rfl (i5 rfl rfl zG trivial (by rfl)) ?_ | refine ci rfl (pk rfl rfl zG trivial (by simp)) ?_ | refine ci rfl (jh rfl rfl zG trivial (py (by assumption) rfl)) ?_ | refine ci rfl (jh rfl rfl zG trivial (by assumption)) ?_ | refine ci rfl (qg rfl rfl zG trivial rfl (by assumption) rfl (by decide)) ?_ | refine ci rfl (mq rfl rfl zG (by rfl)) ?_
     try dsimp only [St.put]
     first | refine ci rfl (cg rfl rfl) ?_ | refine ci rfl (eh rfl rfl (Enc.len _)) ?_ | refine ci rfl (eh rfl rfl rfl) ?_ | refine ci rfl (gg rfl rfl zG trivial (by first | rfl | assumption)) ?_ | refine ci rfl (i5 rfl rfl zG trivial (by rfl)) ?_ | refine ci rfl (pk rfl rfl zG trivial (by simp)) ?_ | refine ci rfl (jh rfl rfl zG trivial (py (by assumption) rfl)) ?_ | refine ci rfl (jh rfl rfl zG trivial (by assumption)) ?_ | refine ci rfl (qg rfl rfl zG trivial rfl (by assumption) rfl (by decide)) ?_ | refine ci rfl (mq rfl rfl zG (by rfl)) ?_
     refine aa rfl (gy rfl (by constructor)) ?_
     try dsimp only [St.put]
     refine af rfl (bd rfl rfl rfl (ubm p (decide (k = 1)) i h hi) ?_)
     refine aa rfl (gy rfl (by constructor)) ?_
     refine aa rfl (ya rfl rfl rfl) ?_
     refine aa rfl (ya rfl rfl rfl) ?_
     refine aa rfl (fa rfl (by constructor)) ?_
     refine aa rfl (fa rfl (by constructor)) ?_
     refine i2 ?_
     dsimp only [St.put]
     show jy _ _ _ _ _ _ _
     refine o7 ok rfl ⟨rfl, rfl, zK, zN, zS, zK⟩ ?_
     refine o5 fun K5 hK5 => ?_
     refine ude ?_
     refine px rfl (gy rfl (by constructor)) ?_
     refine px rfl (gy rfl (by constructor)) ?_
     try dsimp only [St.put]
     refine udi ok (by rw [hN]; exact hN2) rfl rfl rfl rfl (by rw [hcl]; show _ = [C.v (.int .i64 (cy p (sdN p k + i)))]; rw [hL]; rfl) ?_
     refine px rfl (dw rfl rfl) ?_
     refine udj ?_
     dsimp only [St.put]
     refine hK5 _ _ ?_
     refine s9 rfl (fun h => by cases h) (fun _ => ?_)
     refine s7 ?_
     refine hK4 _ _ ?_
     refine kf 21 ?_
     refine zQ ?_
     refine yw ok rfl ?_
     dsimp only [FC.st]
     refine bx fun hlt => ?_
     dsimp only at hlt
     refine i1 ?_
     first | refine aa rfl (bu rfl rfl rfl (by omega)) ?_ | refine aa rfl (sl rfl rfl rfl) ?_
     refine aa rfl (gy rfl (by constructor)) ?_
     refine i2 ?_
     dsimp only [St.put]
     refine ⟨⟨rfl, rfl, zK, zN, zS, zK⟩, ?_⟩
     exact ⟨i + 1, by omega, by omega, rfl, ⟨⟨rfl, rfl⟩, zF, zB, zN, zX⟩⟩
    ·replace hc := of_decide_eq_false hc
     obtain rfl : i = (dv p (decide (k = 1))).length := by omega
     refine yy ?_
     refine hK2 _ _ ?_
     refine kf 10 ?_
     refine zQ ?_
     refine yw ok rfl ?_
     dsimp only [FC.st]
     refine bx fun hlt => ?_
     dsimp only at hlt
     refine i1 ?_
     first | refine aa rfl (bu rfl rfl rfl (by omega)) ?_ | refine aa rfl (sl rfl rfl rfl) ?_
     refine aa rfl (gy rfl (by constructor)) ?_
     refine i2 ?_
     dsimp only [St.put]
     refine ⟨⟨rfl, rfl, zK, zN, zS, zK⟩, ?_⟩
     exact ⟨k + 1, by omega, by omega, (xh hk).symm, ⟨⟨rfl, rfl⟩, zF, zB, zN, zX⟩⟩
  ·replace hc := of_decide_eq_false hc
   obtain rfl : k = 2 := by omega
   refine yy ?_
   exact ⟨.inl rfl, rfl⟩
end Go.Proofs.YtbbdginipiljdaaGreatDoor
namespace Go.AB
open Go Go.RowKit
open Go.AB.Enc (cells)
open Go.PB (ba ai PlaceD bh bk bj bw ar ah cw bv dc dg)
theorem pf {α : Type} (d v : α) : atE 0 d v = v := rfl
theorem lf {α : Type} {e : Int} (h : e ≠ 0) (d v : α) : atE e d v = d := by unfold atE; rw [decide_eq_false h]; rfl
theorem uc0 {p : ah} {e : Int} (h : e ≠ 0) : fj p e = e := by unfold fj; rw [decide_eq_false h]; rfl
theorem qs (p : ah) : fj p 0 = bif ie p then 0 else 8 := rfl
end Go.AB
namespace Go.Proofs.YtbbdginipiljdaaGreatDoor
set_option maxRecDepth 10000
open Go.RowKit Go.AB
open Go.AB.Enc (cells)
open Go.PB (ba ai PlaceD bh bk bj bw ar ah cw bv dc dg)
end Go.Proofs.YtbbdginipiljdaaGreatDoor
namespace Go.AB
open Go Go.RowKit
open Go.AB.Enc (cells)
open Go.PB (ba ai PlaceD bh bk bj bw ar ah cw bv dc dg)
instance : FlatV bv := ⟨fun x => [.int .i64 x.lo, .int .i64 x.hi], fun _ => rfl⟩
def ke (x : ar) : Bool := decide (200 < x.found.length) || decide (200 < x.well.length)
def n2 (p : ah) : Bool := m5 p.text || decide (6 < p.firsts.length) || decide (6 < p.seconds.length) || decide (12 < p.pages.length) || p.pages.any ke
theorem ult {p : ah} {n : Int} {j : Nat} {x : ar} (h0 : em p n = 0) (hpo : l4 p n = x) (hn : n = (j : Int)) (hk : (c9 p.text x).length ≠ 0) : m4 p n = 0 ∧ n1 p n = yr x (c9 p.text x).length := by
 have hE : m4 p n = 0 := by unfold m4; rw [h0, hpo, decide_eq_false hk]; rfl
 exact ⟨hE, by unfold n1; rw [hE, hpo]; rfl⟩
theorem uac {p : ah} (h : ef p) (j : Nat) : 0 ≤ kj p j ∧ kj p j ≤ 600 := by
 have hq := lg h.text
 unfold kj ms
 cases hx : p.pages[j]? with
 | none => exact ⟨Int.le_refl _, by show (0 : Int) ≤ 600; omega⟩
 | some x =>
  have := t8 p.text x
  show (0 : Int) ≤ (dp p.text x : Int) ∧ (dp p.text x : Int) ≤ 600
  omega
theorem wz (p : ah) (j : Nat) : 0 ≤ dl p j := by
 unfold dl ms
 cases hx : p.pages[j]? with
 | none => exact Int.le_refl _
 | some x => show (0 : Int) ≤ ((cp p.text x).length : Int); omega
theorem udc {es : List Int} {j : Nat} {e : Int} (h : es[j]? = some e) : g8 es j = e := by unfold g8; rw [h]; rfl
theorem ugt {p : ah} {es : List Int} (h : ¬ es.length = p.pages.length) : jm p es = false := by simp [jm, h]
theorem ugs {p : ah} {es : List Int} {j : Nat} (hj : j < p.pages.length) (h : inB (g8 es j) (dl p j) (kj p j) = false) : jm p es = false := by
 have : (List.range p.pages.length).all (fun j => inB (g8 es j) (dl p j) (kj p j)) = false := List.all_eq_false.2 ⟨j, List.mem_range.2 hj, by rw [h]; simp⟩
 simp [jm, this]
theorem ugr {p : ah} {es : List Int} {i : Nat} (hi : i < cj p) (h : ¬ sm p.pages.length (fun j => bif (bt p).by j i then g8 es j else 0) ≤ kg p i) : jm p es = false := by
 have : (List.range (cj p)).all (fun i => decide (sm p.pages.length (fun j => bif (bt p).by j i then g8 es j else 0) ≤ kg p i)) = false := List.all_eq_false.2 ⟨i, List.mem_range.2 hi, by rw [decide_eq_false h]; simp⟩
 simp only [jm, this, Bool.and_false]
theorem ugp {p : ah} {es : List Int} (h1 : es.length = p.pages.length) (h2 : ∀ j, j < p.pages.length → inB (g8 es j) (dl p j) (kj p j) = true) (h3 : ∀ i, i < cj p → sm p.pages.length (fun j => bif (bt p).by j i then g8 es j else 0) ≤ kg p i) : jm p es = true := by
 simp only [jm, Bool.and_eq_true, decide_eq_true_eq, List.all_eq_true, List.mem_range]
 exact ⟨⟨h1, h2⟩, h3⟩
end Go.AB
namespace Go.Proofs.YtbbdginipiljdaaGreatDoor
set_option maxRecDepth 10000
open Go.RowKit Go.AB
open Go.AB.Enc (cells)
open Go.PB (ba ai PlaceD bh bk bj bw ar ah cw bv dc dg)
theorem ugj : Tryz.prog.underlying 32 = some (.struct (Tryz.prog.fieldsOf 32)) := by kernel_rfl
theorem uhx : Tryz.prog.stoodInHeld 32 = false := by kernel_rfl
instance : EqT Tryz.prog 32 bv where
 guard op w x y xs ys := run_eqGuard_agg w op _ x y xs ys (by kernel_rfl)
 same w x y := by
  obtain ⟨a, b⟩ := x
  obtain ⟨a', b'⟩ := y
  simp only [FlatV.vals]
  rw [run_equalIn_agg _ _ _ _ _ ugj uhx]
  by_cases h1 : a = a' <;> by_cases h2 : b = b' <;> simp [go_sem, h1, h2]
theorem ui3 (p : ah) : Pure Tryz.prog 9 [val p] (.v (.bool (n2 p))) := by
 refine c4 Tryz.func9 rfl (fun m => .v) fun G nx => ?_
 simp only [Tryz.ntmps9, List.length_cons, List.length_nil, Nat.reduceAdd, Nat.reduceSub]
 refine bx fun hlt => ?_
 dsimp only at hlt
 refine yS fun _ K1 => ?_
 refine yR ?_
 try dsimp only [St.put]
 refine yB rfl rfl rfl ?_
 refine yA rfl rfl ?_
 refine yN ?_
 dsimp only [St.put]
 refine K1 _ ?_
 refine yS fun _ K2 => ?_
 refine co 4 ?_
 refine zQ ?_
 refine j4 (X := Bool) (fun d => (m5 p.text || decide (6 < p.firsts.length) || decide (6 < p.seconds.length) || decide (12 < p.pages.length)) = d) (fun d => [(24, .v (.bool d))]) (fun d G' => G') rfl ?_ (fun _ _ _ _ h => .inl h) ?_ ?_
 ·rintro d hI
  exact zL
 ·refine yR ?_
  refine yF rfl rfl rfl rfl ?_
  try dsimp only [St.put]
  refine ci rfl (c := ig p.text) (jc (cs := cells p) rfl rfl (show 1 ≤ 4 by decide)) ?_
  try dsimp only [St.put]
  refine af rfl (bd rfl rfl rfl (uoj p.text) ?_)
  refine yM rfl rfl ?_
  refine eo (fun hs => ?_) (fun hs => ?_)
  ·have h1 : m5 p.text = true := hs
   refine yK rfl ?_
   refine yK rfl ?_
   refine yK rfl ?_
   refine yK rfl ?_
   refine aa rfl (cb rfl rfl (by constructor)) ?_
   refine yM rfl rfl ?_
   refine yK rfl ?_
   refine yK rfl ?_
   refine yK rfl ?_
   refine yK rfl ?_
   refine aa rfl (cb rfl rfl (by constructor)) ?_
   refine yM rfl rfl ?_
   refine yK rfl ?_
   refine yK rfl ?_
   refine yK rfl ?_
   refine yK rfl ?_
   refine aa rfl (cb rfl rfl (by constructor)) ?_
   refine yN ?_
   dsimp only [St.put]
   refine ⟨_, ?_, ⟨⟨rfl, rfl⟩, zF, zB, zN, zX⟩⟩
   first
   | (simp [h1]; done)
   | (simp [h1, h2]; done)
   | (simp [h1, h2, h3]; done)
   | (simp [h1, h2, h3]; omega)
  have h1 : m5 p.text = false := hs
  refine yF rfl rfl rfl rfl ?_
  refine yL rfl rfl rfl ?_
  refine aa rfl (bi rfl rfl (List.length_map _)) ?_
  refine aa rfl (gz rfl rfl rfl) ?_
  refine aa rfl (ct rfl rfl (by constructor)) ?_
  refine yM rfl rfl ?_
  refine eo (fun hs => ?_) (fun hs => ?_)
  ·have h2 : 6 < p.firsts.length := by have := of_decide_eq_true hs; omega
   refine yK rfl ?_
   refine yK rfl ?_
   refine yK rfl ?_
   refine yK rfl ?_
   refine aa rfl (cb rfl rfl (by constructor)) ?_
   refine yM rfl rfl ?_
   refine yK rfl ?_
   refine yK rfl ?_
   refine yK rfl ?_
   refine yK rfl ?_
   refine aa rfl (cb rfl rfl (by constructor)) ?_
   refine yN ?_
   dsimp only [St.put]
   refine ⟨_, ?_, ⟨⟨rfl, rfl⟩, zF, zB, zN, zX⟩⟩
   first
   | (simp [h1]; done)
   | (simp [h1, h2]; done)
   | (simp [h1, h2, h3]; done)
   | (simp [h1, h2, h3]; omega)
  have h2 : ¬ 6 < p.firsts.length := by have := of_decide_eq_false hs; omega
  refine yF rfl rfl rfl rfl ?_
  refine yL rfl rfl rfl ?_
  refine aa rfl (bi rfl rfl (List.length_map _)) ?_
  refine aa rfl (gz rfl rfl rfl) ?_
  refine aa rfl (ct rfl rfl (by constructor)) ?_
  refine yM rfl rfl ?_
  refine eo (fun hs => ?_) (fun hs => ?_)
  ·have h3 : 6 < p.seconds.length := by have := of_decide_eq_true hs; omega
   refine yK rfl ?_
   refine yK rfl ?_
   refine yK rfl ?_
   refine yK rfl ?_
   refine aa rfl (cb rfl rfl (by constructor)) ?_
   refine yN ?_
   dsimp only [St.put]
   refine ⟨_, ?_, ⟨⟨rfl, rfl⟩, zF, zB, zN, zX⟩⟩
   first
   | (simp [h1]; done)
   | (simp [h1, h2]; done)
   | (simp [h1, h2, h3]; done)
   | (simp [h1, h2, h3]; omega)
  have h3 : ¬ 6 < p.seconds.length := by have := of_decide_eq_false hs; omega
  refine yF rfl rfl rfl rfl ?_
  refine yL rfl rfl rfl ?_
  refine aa rfl (bi rfl rfl (List.length_map _)) ?_
  refine aa rfl (gz rfl rfl rfl) ?_
  refine aa rfl (ct rfl rfl (by constructor)) ?_
  refine yN ?_
  dsimp only [St.put]
  refine ⟨_, ?_, ⟨⟨rfl, rfl⟩, zF, zB, zN, zX⟩⟩
  first
  | (simp [h1]; done)
  | (simp [h1, h2]; done)
  | (simp [h1, h2, h3]; done)
  | (simp [h1, h2, h3]; omega)
 rintro d hst
 dsimp only at hst ⊢
 refine aq rfl (fun hc => ?_) (fun hc => ?_)
 ·rw [hc] at hst
  refine yS fun _ K4 => ?_
  refine yR ?_
  refine yA rfl rfl ?_
  refine yN ?_
  dsimp only [St.put]
  refine K4 _ ?_
  refine ax ?_
  refine bg rfl (by constructor) zN zS ?_
  exact vb (by unfold n2; rw [hst]; rfl)
 rw [hc] at hst
 have hpl : ¬ 12 < p.pages.length := fun h => by rw [decide_eq_true h, Bool.or_true] at hst; cases hst
 refine ay ?_
 refine K2 _ ?_
 refine yS fun _ K5 => ?_
 refine yS fun _ K6 => ?_
 refine yR ?_
 refine yA rfl rfl ?_
 refine yN ?_
 dsimp only [St.put]
 refine K6 _ ?_
 refine bf ?_
 refine co 4 ?_
 refine zQ ?_
 refine c7 (G) zX ?_
 dsimp only
 refine c6 (X := Nat) (fun i => i ≤ p.pages.length ∧ ∀ x ∈ p.pages.take i, ke x = false) (fun i => p.pages.length - i) (fun i => [(3, .v (.int .i64 (i : Int)))]) (fun i G' => G') 0 rfl ?_ ?_ (fun _ _ h => h) ?_ ?_ ?_
 ·exact ⟨Nat.zero_le _, by simp⟩
 ·exact zF
 ·rintro i hI
  exact zL
 ·exact fun _ _ _ _ h => .inl h
 rintro i hI
 dsimp only at hI ⊢
 refine yS fun _ K7 => ?_
 refine yS fun _ K8 => ?_
 refine yR ?_
 refine yM rfl rfl ?_
 refine yF rfl rfl rfl rfl ?_
 refine yL rfl rfl rfl ?_
 refine aa rfl (bi rfl rfl (List.length_map _)) ?_
 refine aa rfl (cn rfl rfl rfl) ?_
 refine yN ?_
 dsimp only [St.put]
 refine K8 _ ?_
 refine aq rfl (fun hc => ?_) (fun hc => ?_)
 ·replace hc := of_decide_eq_true hc
  obtain ⟨x, hx⟩ : ∃ x, p.pages[i]? = some x := da (by omega)
  refine ay ?_
  refine K7 _ ?_
  refine yS fun _ K9 => ?_
  refine bf ?_
  refine yS fun _ K10 => ?_
  refine yR ?_
  refine yF rfl rfl rfl rfl ?_
  refine yL rfl rfl rfl ?_
  refine yM rfl rfl ?_
  refine aa rfl (br rfl rfl rfl rfl (bq (by assumption)) (Enc.len _)) ?_
  refine yF rfl rfl rfl rfl ?_
  refine yL rfl rfl rfl ?_
  refine aa rfl (bi rfl rfl (List.length_map _)) ?_
  refine aa rfl (gz rfl rfl rfl) ?_
  refine yM rfl rfl ?_
  refine eo (fun hs => ?_) (fun hs => ?_)
  ·have g1 : 200 < x.found.length := by have := of_decide_eq_true hs; omega
   refine yK rfl ?_
   refine yK rfl ?_
   refine yK rfl ?_
   refine yK rfl ?_
   refine yK rfl ?_
   refine yK rfl ?_
   refine yK rfl ?_
   refine yK rfl ?_
   refine aa rfl (cb rfl rfl (by constructor)) ?_
   refine yN ?_
   dsimp only [St.put]
   refine K10 _ ?_
   refine aq rfl (fun _ => ?_) (fun h => by cases h)
   have hgx : ke x = true := by
    first
    | (simp [ke, g1]; done)
    | (have g2 : 200 < x.well.length := by (have := of_decide_eq_true hc; omega)
       simp [ke, g2])
   refine yS fun _ K11 => ?_
   refine yR ?_
   refine yA rfl rfl ?_
   refine yN ?_
   dsimp only [St.put]
   refine K11 _ ?_
   refine ax ?_
   refine bg rfl (by constructor) zN zS ?_
   exact vb (by
    have : p.pages.any ke = true := List.any_eq_true.2 ⟨x, f5 hx, hgx⟩
    unfold n2; rw [this, Bool.or_true])
  have g1 : ¬ 200 < x.found.length := by have := of_decide_eq_false hs; omega
  refine yF rfl rfl rfl rfl ?_
  refine yL rfl rfl rfl ?_
  refine yM rfl rfl ?_
  refine aa rfl (br rfl rfl rfl rfl (bq (by assumption)) (Enc.len _)) ?_
  refine yF rfl rfl rfl rfl ?_
  refine yL rfl rfl rfl ?_
  refine aa rfl (bi rfl rfl (List.length_map _)) ?_
  refine aa rfl (gz rfl rfl rfl) ?_
  refine aa rfl (ct rfl rfl (by constructor)) ?_
  refine yN ?_
  dsimp only [St.put]
  refine K10 _ ?_
  refine aq rfl (fun hc => ?_) (fun hc => ?_)
  ·have hgx : ke x = true := by
    first
    | (simp [ke, g1]; done)
    | (have g2 : 200 < x.well.length := by (have := of_decide_eq_true hc; omega)
       simp [ke, g2])
   refine yS fun _ K12 => ?_
   refine yR ?_
   refine yA rfl rfl ?_
   refine yN ?_
   dsimp only [St.put]
   refine K12 _ ?_
   refine ax ?_
   refine bg rfl (by constructor) zN zS ?_
   exact vb (by
    have : p.pages.any ke = true := List.any_eq_true.2 ⟨x, f5 hx, hgx⟩
    unfold n2; rw [this, Bool.or_true])
  have hgx : ke x = false := by
   have g2 : ¬ 200 < x.well.length := by (have := of_decide_eq_false hc; omega)
   simp [ke, g1, g2]
  refine ay ?_
  refine K9 _ ?_
  refine yR ?_
  refine yM rfl rfl ?_
  refine aa rfl (bu rfl rfl rfl (by omega)) ?_
  refine yA rfl rfl ?_
  refine yN ?_
  dsimp only [St.put]
  exact ⟨i + 1, by omega, ⟨by omega, ye (p := fun x : ar => ke x = false) hx hgx hI.2⟩, ⟨⟨rfl, rfl⟩, zF, zB, zN, zX⟩⟩
 replace hc := of_decide_eq_false hc
 have hall := hI.2
 rw [gd (show p.pages.length ≤ i by omega)] at hall
 refine cz ?_
 refine K5 _ ?_
 refine yS fun _ K13 => ?_
 refine yR ?_
 refine yA rfl rfl ?_
 refine yN ?_
 dsimp only [St.put]
 refine K13 _ ?_
 refine ax ?_
 refine bg rfl (by constructor) zN zS ?_
 exact vb (by
  have : p.pages.any ke = false := List.any_eq_false.2 fun x hx => by rw [hall x hx]; simp
  unfold n2; rw [hst, this]; rfl)
set_option maxHeartbeats 1000000 in
theorem ui1 (p : ah) (es : List Int) (h : ef p) (hel : es.length ≤ 9223372036854775807) : Pure Tryz.prog 28 [val p, lst es] (.v (.bool (jm p es))) := by
 refine c4 Tryz.func28 rfl (fun m => .v) fun G nx => ?_
 simp only [Tryz.ntmps28, List.length_cons, List.length_nil, Nat.reduceAdd, Nat.reduceSub]
 refine bx fun hlt => ?_
 dsimp only at hlt
 have hn1 := h.nf
 have hn2 := h.ns
 have hnp := h.np
 have hal := lg h.text
 have hnr : cj p = p.firsts.length + p.seconds.length := rfl
 refine yS fun _ K1 => ?_
 refine yR ?_
 try dsimp only [St.put]
 refine yB rfl rfl rfl ?_
 refine yA rfl rfl ?_
 refine yN ?_
 dsimp only [St.put]
 refine K1 _ ?_
 refine yS fun _ K2 => ?_
 refine yS fun _ K3 => ?_
 refine yR ?_
 refine yM rfl rfl ?_
 refine aa rfl (bi rfl rfl (List.length_map _)) ?_
 refine yF rfl rfl rfl rfl ?_
 refine yL rfl rfl rfl ?_
 refine aa rfl (bi rfl rfl (List.length_map _)) ?_
 refine aa rfl (fk rfl rfl rfl) ?_
 refine yN ?_
 dsimp only [St.put]
 refine K3 _ ?_
 refine aq rfl (fun hc => ?_) (fun hc => ?_)
 ·have hl : ¬ es.length = p.pages.length := by
   have := jq hc
   omega
  refine yS fun _ K4 => ?_
  refine yR ?_
  refine yA rfl rfl ?_
  refine yN ?_
  dsimp only [St.put]
  refine K4 _ ?_
  refine ax ?_
  refine bg rfl (by constructor) zN zS ?_
  exact vb (ugt hl).symm
 have hl : es.length = p.pages.length := by
  have := ii hc
  omega
 refine ay ?_
 refine K2 _ ?_
 refine yS fun _ K5 => ?_
 refine yS fun _ K6 => ?_
 refine yR ?_
 refine yA rfl rfl ?_
 refine yN ?_
 dsimp only [St.put]
 refine K6 _ ?_
 refine bf ?_
 refine co 13 ?_
 refine zQ ?_
 refine c7 (G) zX ?_
 dsimp only
 refine c6 (X := Nat) (fun j => j ≤ p.pages.length ∧ ∀ k, k < j → inB (g8 es k) (dl p k) (kj p k) = true) (fun j => p.pages.length - j) (fun j => [(5, .v (.int .i64 (j : Int)))]) (fun j G' => G') 0 rfl ?_ ?_ (fun _ _ h => h) ?_ ?_ ?_
 ·exact ⟨Nat.zero_le _, fun k hk => absurd hk (Nat.not_lt_zero _)⟩
 ·exact zF
 ·rintro j hI
  exact zL
 ·exact fun _ _ _ _ h => .inl h
 rintro j hI
 dsimp only at hI ⊢
 refine yS fun _ K7 => ?_
 refine yS fun _ K8 => ?_
 refine yR ?_
 refine yM rfl rfl ?_
 refine yM rfl rfl ?_
 refine aa rfl (bi rfl rfl (List.length_map _)) ?_
 refine aa rfl (cn rfl rfl rfl) ?_
 refine yN ?_
 dsimp only [St.put]
 refine K8 _ ?_
 refine aq rfl (fun hc => ?_) (fun hc => ?_)
 ·replace hc := of_decide_eq_true hc
  have hj : j < p.pages.length := by omega
  obtain ⟨x, hx⟩ : ∃ x, p.pages[j]? = some x := da hj
  obtain ⟨e, he⟩ : ∃ e, es[j]? = some e := da (by omega)
  have hp := pageB_true.1 (h.page j x hx)
  have hfl := lp hp.found
  have hwl := lp hp.well
  have h1 : g8 es j = e := udc he
  have h2 : dl p j = ((cp p.text x).length : Int) := oy hx _
  have h3 : kj p j = (dp p.text x : Int) := oy hx _
  refine ay ?_
  refine K7 _ ?_
  refine yS fun _ K9 => ?_
  refine bf ?_
  refine yS fun _ K10 => ?_
  refine fu [(0, none), (1, none), (2, none), (3, none), (4, none), (5, none), (8, none), (9, none), (6, none), (7, none), (10, none), (11, none), (12, none)] (fun i => [11].contains i) (fun i => [6, 10, 11].contains i) (fun i => [0, 1, 2, 5, 7, 9, 12].contains i) [] (by kernel_rfl) (by kernel_rfl) ?_
  refine xM rfl rfl rfl rfl rfl ?_
  refine xM rfl rfl rfl rfl rfl ?_
  try dsimp only [St.put]
  refine ae rfl rfl rfl rfl (br rfl rfl rfl rfl (bq (by assumption)) (Enc.len _)) ?_
  try dsimp only [St.put]
  refine bc rfl rfl rfl rfl (cg rfl rfl) ?_
  try dsimp only [St.put]
  refine bc rfl rfl rfl rfl (eh rfl rfl (Enc.len _)) ?_
  refine xM rfl rfl rfl rfl rfl ?_
  try dsimp only [St.put]
  refine bc rfl rfl rfl rfl (eh rfl rfl (Enc.len _)) ?_
  refine xM rfl rfl rfl rfl rfl ?_
  refine g7 ?_
  try dsimp only [St.put]
  refine i9 rfl rfl rfl (bd rfl rfl rfl (ubc p j x h.text hx (by omega) (by omega)) ⟨zD, ?_⟩)
  refine dq rfl rfl rfl rfl (bi rfl rfl (List.length_map _)) ?_
  try dsimp only [St.put]
  refine i9 rfl rfl rfl (bd rfl rfl rfl (uix p j x h.text hx) ⟨zD, ?_⟩)
  try dsimp only [St.put]
  refine g4 rfl rfl rfl rfl (bd rfl rfl rfl (ox _ _ _) ?_)
  refine dq rfl rfl rfl rfl (dw rfl rfl) ?_
  refine gw ?_
  dsimp only [St.put]
  refine K10 _ ?_
  refine aq rfl (fun hc => ?_) (fun hc => ?_)
  ·have hin : inB (g8 es j) (dl p j) (kj p j) = false := by rw [h1, h2, h3]; simpa using hc
   refine yS fun _ K11 => ?_
   refine yR ?_
   refine yA rfl rfl ?_
   refine yN ?_
   dsimp only [St.put]
   refine K11 _ ?_
   refine ax ?_
   refine bg rfl (by constructor) zN zS ?_
   exact vb (ugs hj hin).symm
  have hin : inB (g8 es j) (dl p j) (kj p j) = true := by rw [h1, h2, h3]; simpa using hc
  refine ay ?_
  refine K9 _ ?_
  refine yR ?_
  refine yM rfl rfl ?_
  refine aa rfl (bu rfl rfl rfl (by omega)) ?_
  refine yA rfl rfl ?_
  refine yN ?_
  dsimp only [St.put]
  exact ⟨j + 1, by omega, ⟨by omega, fun k hk => by
    by_cases e : k = j
    ·subst e; exact hin
    exact hI.2 k (by omega)⟩, ⟨⟨rfl, rfl⟩, zF, zB, zN, zX⟩⟩
 replace hc := of_decide_eq_false hc
 obtain rfl : j = p.pages.length := by omega
 have hIn := hI.2
 obtain ⟨S, hS⟩ : ∃ S : Nat → Nat → Int, S = fun i j => bif (bt p).by j i then g8 es j else 0 := ⟨_, rfl⟩
 have hSb : ∀ i n, n ≤ p.pages.length → 0 ≤ sm n (S i) ∧ sm n (S i) ≤ n * 600 := fun i n hn => by
  have hz : ∀ m : Nat, m ≤ p.pages.length → 0 ≤ sm m (S i) ∧ sm m (S i) ≤ m * 600 := by
   intro m
   induction m with
   | zero => intro _; simp [sm]
   | succ m ih =>
    intro hm
    have h1 := ih (by omega)
    have h2 := inB_true.1 (hIn m (by omega))
    have h3 := uac h m
    have h4 := wz p m
    have h5 : 0 ≤ S i m ∧ S i m ≤ 600 := by
     rw [hS]
     dsimp only
     cases (bt p).by m i
     ·exact ⟨Int.le_refl _, by show (0 : Int) ≤ 600; omega⟩
     show 0 ≤ g8 es m ∧ g8 es m ≤ 600
     omega
    simp only [sm]
    omega
  exact hz n hn
 refine cz ?_
 refine K5 _ ?_
 refine yS fun _ K12 => ?_
 refine yS fun _ K13 => ?_
 refine yR ?_
 refine yA rfl rfl ?_
 refine yN ?_
 dsimp only [St.put]
 refine K13 _ ?_
 refine bf ?_
 refine co 13 ?_
 refine zQ ?_
 refine c7 (G) zX ?_
 dsimp only
 refine c6 (X := Nat) (fun i => i ≤ cj p ∧ ∀ k, k < i → sm p.pages.length (S k) ≤ kg p k) (fun i => cj p - i) (fun i => [(6, .v (.int .i64 (i : Int))), (7, .any), (8, .any), (9, .any), (10, .any), (11, .any), (12, .any)]) (fun i G' => G') 0 rfl ?_ ?_ (fun _ _ h => h) ?_ ?_ ?_
 ·exact ⟨Nat.zero_le _, fun k hk => absurd hk (Nat.not_lt_zero _)⟩
 ·exact zF
 ·rintro i hI
  exact zL
 ·exact fun _ _ _ _ h => .inl h
 rintro i hJ
 dsimp only at hJ ⊢
 refine yS fun _ K14 => ?_
 refine yS fun _ K15 => ?_
 refine yR ?_
 refine yM rfl rfl ?_
 refine yF rfl rfl rfl rfl ?_
 refine yL rfl rfl rfl ?_
 refine aa rfl (bi rfl rfl (List.length_map _)) ?_
 refine yF rfl rfl rfl rfl ?_
 refine yL rfl rfl rfl ?_
 refine aa rfl (bi rfl rfl (List.length_map _)) ?_
 refine aa rfl (bu rfl rfl rfl (by omega)) ?_
 refine aa rfl (cn rfl rfl rfl) ?_
 refine yN ?_
 dsimp only [St.put]
 refine K15 _ ?_
 refine aq rfl (fun hc => ?_) (fun hc => ?_)
 ·replace hc := of_decide_eq_true hc
  have hi : i < cj p := by omega
  refine ay ?_
  refine K14 _ ?_
  refine yS fun _ K16 => ?_
  refine bf ?_
  refine yS fun _ K17 => ?_
  refine yR ?_
  refine yM rfl rfl ?_
  refine yA rfl rfl ?_
  refine yA rfl rfl ?_
  refine yN ?_
  dsimp only [St.put]
  refine K17 _ ?_
  refine co 13 ?_
  refine zQ ?_
  refine j4 (X := Bool × Nat) (fun y => (kg p i = ju p y.1 y.2 ∧ y.2 < (dv p y.1).length) ∧ ∀ (j : Nat) (x : ar), p.pages[j]? = some x → (bt p).by j i = decide (ec y.1 x = (y.2 : Int))) (fun y => [(7, .v (.bool y.1)), (8, .v (.int .i64 (y.2 : Int)))]) (fun y G' => G') rfl ?_ (fun _ _ _ _ h => .inl h) ?_ ?_
  ·rintro ⟨b, k⟩ hI
   exact zL
  ·refine yS fun _ K19 => ?_
   refine yR ?_
   refine yM rfl rfl ?_
   refine yF rfl rfl rfl rfl ?_
   refine yL rfl rfl rfl ?_
   refine aa rfl (bi rfl rfl (List.length_map _)) ?_
   refine aa rfl (mx rfl rfl rfl) ?_
   refine yN ?_
   dsimp only [St.put]
   refine K19 _ ?_
   refine aq rfl (fun hc => ?_) (fun hc => ?_)
   ·have hh : p.firsts.length ≤ i := by have := of_decide_eq_true hc; omega
    refine fu [(0, none), (1, none), (2, none), (3, none), (4, none), (5, none), (6, none)] (fun i => [].contains i) (fun i => [].contains i) (fun i => [0, 1, 3, 4, 5, 6].contains i) [] (by kernel_rfl) (by kernel_rfl) ?_
    refine xM rfl rfl rfl rfl rfl ?_
    refine ae rfl rfl rfl rfl (cv rfl rfl rfl) ?_
    try dsimp only [St.put]
    refine bc rfl rfl rfl rfl (cg rfl rfl) ?_
    refine ae rfl rfl rfl rfl (bi rfl rfl (List.length_map _)) ?_
    refine ae rfl rfl rfl rfl (f4 rfl rfl rfl (by omega)) ?_
    refine ae rfl rfl rfl rfl (fa rfl (by constructor)) ?_
    refine ae rfl rfl rfl rfl (fa rfl (by constructor)) ?_
    refine az ?_
    dsimp only [St.put]
    first
    | (rw [show (i : Int) - (p.firsts.length : Int) = ((i - p.firsts.length : Nat) : Int) by omega]
       exact ⟨(true, i - p.firsts.length), ⟨⟨by unfold kg; rw [decide_eq_false (show ¬ i < p.firsts.length by omega)]; rfl, by show i - p.firsts.length < p.seconds.length; omega⟩, fun j x hx => by rw [q9 h hx, decide_eq_false (show ¬ i < p.firsts.length by omega)]; rfl⟩, ⟨⟨rfl, rfl⟩, zF, zB, zN, zX⟩⟩)
    | exact ⟨(false, i), ⟨⟨by unfold kg; rw [decide_eq_true (show i < p.firsts.length by omega)]; rfl, by show i < p.firsts.length; omega⟩, fun j x hx => by rw [q9 h hx, decide_eq_true (show i < p.firsts.length by omega)]; rfl⟩, ⟨⟨rfl, rfl⟩, zF, zB, zN, zX⟩⟩
   have hh : ¬ p.firsts.length ≤ i := by have := of_decide_eq_false hc; omega
   refine ay ?_
   first
   | (rw [show (i : Int) - (p.firsts.length : Int) = ((i - p.firsts.length : Nat) : Int) by omega]
      exact ⟨(true, i - p.firsts.length), ⟨⟨by unfold kg; rw [decide_eq_false (show ¬ i < p.firsts.length by omega)]; rfl, by show i - p.firsts.length < p.seconds.length; omega⟩, fun j x hx => by rw [q9 h hx, decide_eq_false (show ¬ i < p.firsts.length by omega)]; rfl⟩, ⟨⟨rfl, rfl⟩, zF, zB, zN, zX⟩⟩)
   | exact ⟨(false, i), ⟨⟨by unfold kg; rw [decide_eq_true (show i < p.firsts.length by omega)]; rfl, by show i < p.firsts.length; omega⟩, fun j x hx => by rw [q9 h hx, decide_eq_true (show i < p.firsts.length by omega)]; rfl⟩, ⟨⟨rfl, rfl⟩, zF, zB, zN, zX⟩⟩
  rintro ⟨b, k⟩ hk
  dsimp only at hk ⊢
  refine yS fun _ K20 => ?_
  refine yR ?_
  refine yA rfl rfl ?_
  refine yN ?_
  dsimp only [St.put]
  refine K20 _ ?_
  refine yS fun _ K21 => ?_
  refine yS fun _ K22 => ?_
  refine yR ?_
  refine yA rfl rfl ?_
  refine yN ?_
  dsimp only [St.put]
  refine K22 _ ?_
  refine bf ?_
  refine co 13 ?_
  refine zQ ?_
  refine c7 (G) zX ?_
  dsimp only
  refine c6 (X := Nat) (fun n => n ≤ p.pages.length) (fun n => p.pages.length - n) (fun n => [(9, .v (.int .i64 (sm n (S i)))), (10, .v (.int .i64 (n : Int)))]) (fun n G' => G') 0 rfl ?_ ?_ (fun _ _ h => h) ?_ ?_ ?_
  ·exact Nat.zero_le _
  ·exact zF
  ·rintro n hI
   exact zL
  ·exact fun _ _ _ _ h => .inl h
  rintro n hL
  dsimp only at hL ⊢
  refine yS fun _ K23 => ?_
  refine yS fun _ K24 => ?_
  refine yR ?_
  refine yM rfl rfl ?_
  refine yM rfl rfl ?_
  refine aa rfl (bi rfl rfl (List.length_map _)) ?_
  refine aa rfl (cn rfl rfl rfl) ?_
  refine yN ?_
  dsimp only [St.put]
  refine K24 _ ?_
  refine aq rfl (fun hc => ?_) (fun hc => ?_)
  ·replace hc := of_decide_eq_true hc
   have hnl : n < p.pages.length := by omega
   obtain ⟨x, hx⟩ : ∃ x, p.pages[n]? = some x := da hnl
   obtain ⟨e, he⟩ : ∃ e, es[n]? = some e := da (by omega)
   have h1 : g8 es n = e := udc he
   have h2 := inB_true.1 (hIn n hnl)
   have h3 := uac h n
   have h4 := wz p n
   rw [h1] at h2
   have h5 := hSb i n (by omega)
   have hSi : S i n = bif decide (ec b x = (k : Int)) then e else 0 := by rw [hS]; dsimp only; rw [hk.2 n x hx, h1]
   refine ay ?_
   refine K23 _ ?_
   refine yS fun _ K25 => ?_
   refine bf ?_
   refine yS fun _ K26 => ?_
   refine yR ?_
   refine yE rfl rfl rfl ?_
   refine yM rfl rfl ?_
   refine yM rfl rfl ?_
   refine yM rfl rfl ?_
   try dsimp only [St.put]
   refine af rfl (bd rfl rfl rfl (uba p n x b (k : Int) hx) ?_)
   refine yN ?_
   dsimp only [St.put]
   refine K26 _ ?_
   refine aq rfl (fun hc => ?_) (fun hc => ?_)
   ·have hrd := hc
    refine yR ?_
    refine yM rfl rfl ?_
    refine yM rfl rfl ?_
    refine yM rfl rfl ?_
    refine aa rfl (br rfl rfl rfl rfl (bq (by assumption)) (Enc.len _)) ?_
    refine yL rfl rfl rfl ?_
    refine aa rfl (bu rfl rfl rfl (by omega)) ?_
    refine yA rfl rfl ?_
    refine yN ?_
    dsimp only [St.put]
    refine K25 _ ?_
    refine yR ?_
    refine yM rfl rfl ?_
    refine aa rfl (bu rfl rfl rfl (by omega)) ?_
    refine yA rfl rfl ?_
    refine yN ?_
    dsimp only [St.put]
    first
    | (have hb : decide (ec b x = (k : Int)) = true := hrd
       rw [show sm n (S i) + e = sm (n + 1) (S i) by simp only [sm]; rw [hSi, hb]; rfl]
       exact ⟨n + 1, by omega, by omega, ⟨⟨rfl, rfl⟩, zF, zB, zN, zX⟩⟩)
    | (have hb : decide (ec b x = (k : Int)) = false := hrd
       rw [show sm n (S i) = sm (n + 1) (S i) by simp only [sm]; rw [hSi, hb]; simp]
       exact ⟨n + 1, by omega, by omega, ⟨⟨rfl, rfl⟩, zF, zB, zN, zX⟩⟩)
   have hrd := hc
   refine ay ?_
   refine K25 _ ?_
   refine yR ?_
   refine yM rfl rfl ?_
   refine aa rfl (bu rfl rfl rfl (by omega)) ?_
   refine yA rfl rfl ?_
   refine yN ?_
   dsimp only [St.put]
   first
   | (have hb : decide (ec b x = (k : Int)) = true := hrd
      rw [show sm n (S i) + e = sm (n + 1) (S i) by simp only [sm]; rw [hSi, hb]; rfl]
      exact ⟨n + 1, by omega, by omega, ⟨⟨rfl, rfl⟩, zF, zB, zN, zX⟩⟩)
   | (have hb : decide (ec b x = (k : Int)) = false := hrd
      rw [show sm n (S i) = sm (n + 1) (S i) by simp only [sm]; rw [hSi, hb]; simp]
      exact ⟨n + 1, by omega, by omega, ⟨⟨rfl, rfl⟩, zF, zB, zN, zX⟩⟩)
  replace hc := of_decide_eq_false hc
  obtain rfl : n = p.pages.length := by omega
  refine cz ?_
  refine K21 _ ?_
  refine yS fun _ K27 => ?_
  refine yR ?_
  refine yE rfl rfl rfl ?_
  refine yM rfl rfl ?_
  refine yM rfl rfl ?_
  try dsimp only [St.put]
  refine af rfl (bd rfl rfl rfl (ui0 p b k h hk.1.2) ?_)
  refine yM rfl rfl ?_
  refine yX rfl rfl rfl rfl ?_
  refine yX rfl rfl rfl rfl ?_
  refine yA rfl rfl ?_
  refine yA rfl rfl ?_
  refine yN ?_
  dsimp only [St.put]
  refine K27 _ ?_
  refine yS fun _ K28 => ?_
  refine yR ?_
  refine yM rfl rfl ?_
  refine yM rfl rfl ?_
  refine aa rfl (gz rfl rfl rfl) ?_
  refine yN ?_
  dsimp only [St.put]
  refine K28 _ ?_
  refine aq rfl (fun hc => ?_) (fun hc => ?_)
  ·have hgt : ¬ sm p.pages.length (S i) ≤ kg p i := by
    have := of_decide_eq_true hc
    rw [hk.1.1]
    omega
   refine yS fun _ K29 => ?_
   refine yR ?_
   refine yA rfl rfl ?_
   refine yN ?_
   dsimp only [St.put]
   refine K29 _ ?_
   refine ax ?_
   refine bg rfl (by constructor) zN zS ?_
   exact vb (ugr hi (by rw [hS] at hgt; exact hgt)).symm
  have hle : sm p.pages.length (S i) ≤ kg p i := by
   have := of_decide_eq_false hc
   rw [hk.1.1]
   omega
  refine ay ?_
  refine K16 _ ?_
  refine yR ?_
  refine yM rfl rfl ?_
  refine aa rfl (bu rfl rfl rfl (by omega)) ?_
  refine yA rfl rfl ?_
  refine yN ?_
  dsimp only [St.put]
  exact ⟨i + 1, by omega, ⟨by omega, fun k hk => by
    by_cases e : k = i
    ·subst e; exact hle
    exact hJ.2 k (by omega)⟩, ⟨⟨rfl, rfl⟩, zF, zB, zN, zX⟩⟩
 replace hc := of_decide_eq_false hc
 obtain rfl : i = cj p := by omega
 refine cz ?_
 refine K12 _ ?_
 refine yS fun _ K30 => ?_
 refine yR ?_
 refine yA rfl rfl ?_
 refine yN ?_
 dsimp only [St.put]
 refine K30 _ ?_
 refine ax ?_
 refine bg rfl (by constructor) zN zS ?_
 exact vb (ugp hl hIn (fun k hk => by have := hJ.2 k hk; rw [hS] at this; exact this)).symm
end Go.Proofs.YtbbdginipiljdaaGreatDoor
namespace Go.AB
open Go Go.RowKit
open Go.AB.Enc (cells)
open Go.PB (ba ai PlaceD bh bk bj bw ar ah cw bv dc dg)
def pgC (p : ah) (n : Int) : C := bif decide (em p n = 0) then jp p else .v (.pointer none)
theorem ui7 (m : Nat) (p : ah) (n : Int) : C.low m (pgC p n) := by
 unfold pgC
 cases decide (em p n = 0)
 ·exact .v
 exact ub4 m p
theorem ubk {p : ah} {n : Int} (h : em p n ≠ 0) : pgC p n = .v (.pointer none) := by unfold pgC; rw [decide_eq_false h]; rfl
theorem r5 {p : ah} {n : Int} (h : em p n = 0) : pgC p n = .elem [lst p.text, lst p.firsts, lst p.seconds, lst p.pages, lst (p.pages.map fun x => (dp p.text x : Int)), lst (p.pages.map (cp p.text)), lst (p.pages.map (c9 p.text))] := by
 unfold pgC
 rw [decide_eq_true h, cond_true, ux (p6 h).1]
theorem qo {α β : Type} {l : List α} {k : Nat} {x : α} (f : α → β) (h : l[k]? = some x) : (l.map f)[k]? = some (f x) := by rw [List.getElem?_map, h]; rfl
end Go.AB
namespace Go.Proofs.YtbbdginipiljdaaGreatDoor
set_option maxRecDepth 10000
open Go Go.RowKit Go.AB
open Go.AB.Enc (cells)
open Go.PB (ba ai PlaceD bh bk bj bw ar ah cw bv dc dg)
theorem uhw (m : Nat) (b : Bool) : ∀ c ∈ ni b, C.low m c := fun c hc => by
 simp only [List.mem_cons, List.not_mem_nil, or_false] at hc
 rcases hc with rfl | rfl | rfl <;> exact .fn (by simp)
theorem qj (n : Nat) (p : ah) (m : Int) : fg n e9 Tryz.prog 42 [val p, .v (.int .i64 m)] (.tup [pgC p m, .v (.int .i64 (em p m))]) := fun G nx hF hnx => by
 refine ip (G) (nx) Tryz.func42 rfl (.tup (cm (ui7 _ _ _) (cm .v di))) zN (fun hlt => zH) ?_
 simp only [Tryz.ntmps42, List.length_cons, List.length_nil, Nat.reduceAdd, Nat.reduceSub]
 refine bx fun hlt => ?_
 dsimp only at hlt
 refine yS fun _ K1 => ?_
 refine yR ?_
 try dsimp only [St.put]
 refine yB rfl rfl rfl ?_
 refine yA rfl rfl ?_
 refine yA rfl rfl ?_
 refine yN ?_
 dsimp only [St.put]
 refine K1 _ ?_
 refine yS fun _ K2 => ?_
 refine yR ?_
 refine yE rfl rfl rfl ?_
 try dsimp only [St.put]
 refine af rfl (ei rfl rfl rfl (nt n p) zG (by dsimp only [St.put]; omega) ?_)
 refine yM rfl rfl ?_
 refine yX rfl rfl rfl rfl ?_
 refine yX rfl rfl rfl rfl ?_
 refine yA rfl rfl ?_
 refine yA rfl rfl ?_
 refine yN ?_
 dsimp only [St.put]
 refine K2 _ ?_
 refine yS fun _ K3 => ?_
 refine yS fun _ K4 => ?_
 refine yR ?_
 refine yM rfl rfl ?_
 refine aa rfl (fk rfl rfl rfl) ?_
 refine yN ?_
 dsimp only [St.put]
 refine K4 _ ?_
 refine aq rfl (fun hc => ?_) (fun hc => ?_)
 ·have h0 : cx p ≠ 0 := jq hc
  have hE : em p m = cx p := by simp [em, h0]
  refine yS fun _ K5 => ?_
  refine yR ?_
  refine yM rfl rfl ?_
  refine yA rfl rfl ?_
  refine yA rfl rfl ?_
  refine yN ?_
  dsimp only [St.put]
  refine K5 _ ?_
  refine ax ?_
  refine js rfl (by constructor) (by constructor) zN zS ?_ ?_
  ·rw [ubk (by rw [hE]; exact h0)]
  rw [hE]
 have h0 : cx p = 0 := ii hc
 have hnp := (lu h0).1.np
 refine ay ?_
 refine K3 _ ?_
 refine yS fun _ K6 => ?_
 refine yS fun _ K7 => ?_
 refine yR ?_
 refine yF rfl rfl rfl rfl ?_
 refine yL rfl rfl rfl ?_
 refine aa rfl (bi rfl rfl (List.length_map _)) ?_
 refine aa rfl (f4 rfl rfl rfl (by omega)) ?_
 refine yM rfl rfl ?_
 try dsimp only [St.put]
 refine af rfl (ca rfl rfl rfl (by decide) (by decide) zR (by decide) ?_)
 try dsimp only [St.put]
 refine af rfl (bd rfl rfl rfl (mu _ _ [_]) ?_)
 refine aa rfl (dw rfl rfl) ?_
 refine yN ?_
 dsimp only [St.put]
 refine K7 _ ?_
 refine aq rfl (fun hc => ?_) (fun hc => ?_)
 ·have h1 : inB m 0 ((p.pages.length : Int) - 1) = false := by rw [gj] at hc; simpa using hc
  have hE : em p m = 2 := by simp [em, h0, h1]
  refine yS fun _ K8 => ?_
  refine yR ?_
  refine yA rfl rfl ?_
  refine yA rfl rfl ?_
  refine yN ?_
  dsimp only [St.put]
  refine K8 _ ?_
  refine ax ?_
  refine js rfl (by constructor) (by constructor) zN zS ?_ ?_
  ·rw [ubk (by rw [hE]; decide)]
  rw [hE]
 have h1 : inB m 0 ((p.pages.length : Int) - 1) = true := by rw [gj] at hc; simpa using hc
 have hE : em p m = 0 := by simp [em, h0, h1]
 refine ay ?_
 refine K6 _ ?_
 refine yS fun _ K9 => ?_
 refine yR ?_
 refine yM rfl rfl ?_
 refine yA rfl rfl ?_
 refine yA rfl rfl ?_
 refine yN ?_
 dsimp only [St.put]
 refine K9 _ ?_
 refine ax ?_
 refine js rfl (by constructor) (by constructor) zN zS ?_ ?_
 ·unfold pgC; rw [decide_eq_true hE]; rfl
 rw [hE]
theorem ujd (n : Nat) (p : ah) (m : Int) : fg n e9 Tryz.prog 62 [val p, .v (.int .i64 m)] (.tup [.v (.int .i64 (pi p m)), .v (.int .i64 (em p m))]) := fun G nx hF hnx => by
 refine ip (G) (nx) Tryz.func62 rfl (.tup (cm .v (cm .v di))) zN (fun hlt => zH) ?_
 simp only [Tryz.ntmps62, List.length_cons, List.length_nil, Nat.reduceAdd, Nat.reduceSub]
 refine bx fun hlt => ?_
 dsimp only at hlt
 refine yS fun _ K1 => ?_
 refine yR ?_
 try dsimp only [St.put]
 refine yB rfl rfl rfl ?_
 refine yA rfl rfl ?_
 refine yA rfl rfl ?_
 refine yN ?_
 dsimp only [St.put]
 refine K1 _ ?_
 refine yS fun _ K2 => ?_
 refine yR ?_
 refine yE rfl rfl rfl ?_
 refine yM rfl rfl ?_
 try dsimp only [St.put]
 refine af rfl (ei rfl rfl rfl (qj n p m) zG (by dsimp only [St.put]; omega) ?_)
 refine yM rfl rfl ?_
 refine yX rfl rfl rfl rfl ?_
 refine yX rfl rfl rfl rfl ?_
 refine yA rfl rfl ?_
 refine yA rfl rfl ?_
 refine yN ?_
 dsimp only [St.put]
 refine K2 _ ?_
 refine yS fun _ K3 => ?_
 refine yS fun _ K4 => ?_
 refine yR ?_
 refine yM rfl rfl ?_
 refine aa rfl (fk rfl rfl rfl) ?_
 refine yN ?_
 dsimp only [St.put]
 refine K4 _ ?_
 refine aq rfl (fun hc => ?_) (fun hc => ?_)
 ·have h0 : em p m ≠ 0 := jq hc
  have hV : pi p m = 0 := by unfold pi; rw [lf h0]
  refine yS fun _ K5 => ?_
  refine yR ?_
  refine yM rfl rfl ?_
  refine yA rfl rfl ?_
  refine yA rfl rfl ?_
  refine yN ?_
  dsimp only [St.put]
  refine K5 _ ?_
  refine ax ?_
  refine js rfl (by constructor) (by constructor) zN zS ?_ ?_
  ·exact vi hV.symm
  rfl
 have h0 : em p m = 0 := ii hc
 obtain ⟨hc0, j, x, rfl, hx, hpo⟩ := p6 h0
 have hw := qo (fun x => (dp p.text x : Int)) hx
 have hV : pi p (j : Int) = (dp p.text x : Int) := by unfold pi; rw [h0, hpo]; rfl
 rw [r5 h0]
 refine ay ?_
 refine K3 _ ?_
 refine yS fun _ K6 => ?_
 refine yR ?_
 refine yM rfl rfl ?_
 refine aa rfl (kx rfl rfl) ?_
 refine yF rfl rfl rfl rfl ?_
 refine yL rfl rfl rfl ?_
 refine yM rfl rfl ?_
 refine aa rfl (br rfl rfl rfl rfl (bq (by assumption)) (Enc.len _)) ?_
 refine yL rfl rfl rfl ?_
 refine yA rfl rfl ?_
 refine yA rfl rfl ?_
 refine yN ?_
 dsimp only [St.put]
 refine K6 _ ?_
 refine ax ?_
 refine js rfl (by constructor) (by constructor) zN zS ?_ ?_
 ·exact vi hV.symm
 exact vi h0.symm
theorem ubt (n : Nat) (p : ah) (m : Int) : fg n e9 Tryz.prog 64 [val p, .v (.int .i64 m)] (.tup [lst (o8 p m), .v (.int .i64 (em p m))]) := fun G nx hF hnx => by
 refine ip (G) (nx) Tryz.func64 rfl (.tup (cm (b9 _ _) (cm .v di))) zN (fun hlt => zH) ?_
 simp only [Tryz.ntmps64, List.length_cons, List.length_nil, Nat.reduceAdd, Nat.reduceSub]
 refine bx fun hlt => ?_
 dsimp only at hlt
 refine yS fun _ K1 => ?_
 refine yR ?_
 try dsimp only [St.put]
 refine yB rfl rfl rfl ?_
 refine yA rfl rfl ?_
 refine yA rfl rfl ?_
 refine yN ?_
 dsimp only [St.put]
 refine K1 _ ?_
 refine yS fun _ K2 => ?_
 refine yR ?_
 refine yE rfl rfl rfl ?_
 refine yM rfl rfl ?_
 try dsimp only [St.put]
 refine af rfl (ei rfl rfl rfl (qj n p m) zG (by dsimp only [St.put]; omega) ?_)
 refine yM rfl rfl ?_
 refine yX rfl rfl rfl rfl ?_
 refine yX rfl rfl rfl rfl ?_
 refine yA rfl rfl ?_
 refine yA rfl rfl ?_
 refine yN ?_
 dsimp only [St.put]
 refine K2 _ ?_
 refine yS fun _ K3 => ?_
 refine yS fun _ K4 => ?_
 refine yR ?_
 refine yM rfl rfl ?_
 refine aa rfl (fk rfl rfl rfl) ?_
 refine yN ?_
 dsimp only [St.put]
 refine K4 _ ?_
 refine aq rfl (fun hc => ?_) (fun hc => ?_)
 ·have h0 : em p m ≠ 0 := jq hc
  have hV : o8 p m = [] := by unfold o8; rw [lf h0]
  refine yS fun _ K5 => ?_
  refine yR ?_
  refine yM rfl rfl ?_
  refine yA rfl rfl ?_
  refine yA rfl rfl ?_
  refine yN ?_
  dsimp only [St.put]
  refine K5 _ ?_
  refine ax ?_
  refine ia rfl (eg (by constructor)) (eg (by constructor)) zN zS ?_ ?_
  ·rw [hV]; exact zW
  exact zW
 have h0 : em p m = 0 := ii hc
 obtain ⟨hc0, j, x, rfl, hx, hpo⟩ := p6 h0
 have hw := qo (cp p.text) hx
 have hV : o8 p (j : Int) = cp p.text x := by unfold o8; rw [h0, hpo]; rfl
 rw [r5 h0]
 refine ay ?_
 refine K3 _ ?_
 refine yS fun _ K6 => ?_
 refine yR ?_
 refine yM rfl rfl ?_
 refine aa rfl (kx rfl rfl) ?_
 refine yF rfl rfl rfl rfl ?_
 refine yL rfl rfl rfl ?_
 refine yM rfl rfl ?_
 refine aa rfl (br rfl rfl rfl rfl (bq (by assumption)) (Enc.len _)) ?_
 refine yL rfl rfl rfl ?_
 refine yA rfl rfl ?_
 refine yA rfl rfl ?_
 refine yN ?_
 dsimp only [St.put]
 refine K6 _ ?_
 refine ax ?_
 refine ia rfl (eg (by constructor)) (eg (by constructor)) zN zS ?_ ?_
 ·rw [hV]; exact zW
 rw [h0]; exact zW
theorem ujt (n : Nat) (p : ah) (m : Int) : fg n e9 Tryz.prog 65 [val p, .v (.int .i64 m)] (.tup [lst (ra p m), .v (.int .i64 (em p m))]) := fun G nx hF hnx => by
 refine ip (G) (nx) Tryz.func65 rfl (.tup (cm (b9 _ _) (cm .v di))) zN (fun hlt => zH) ?_
 simp only [Tryz.ntmps65, List.length_cons, List.length_nil, Nat.reduceAdd, Nat.reduceSub]
 refine bx fun hlt => ?_
 dsimp only at hlt
 refine yS fun _ K1 => ?_
 refine yR ?_
 try dsimp only [St.put]
 refine yB rfl rfl rfl ?_
 refine yA rfl rfl ?_
 refine yA rfl rfl ?_
 refine yN ?_
 dsimp only [St.put]
 refine K1 _ ?_
 refine yS fun _ K2 => ?_
 refine yR ?_
 refine yE rfl rfl rfl ?_
 refine yM rfl rfl ?_
 try dsimp only [St.put]
 refine af rfl (ei rfl rfl rfl (qj n p m) zG (by dsimp only [St.put]; omega) ?_)
 refine yM rfl rfl ?_
 refine yX rfl rfl rfl rfl ?_
 refine yX rfl rfl rfl rfl ?_
 refine yA rfl rfl ?_
 refine yA rfl rfl ?_
 refine yN ?_
 dsimp only [St.put]
 refine K2 _ ?_
 refine yS fun _ K3 => ?_
 refine yS fun _ K4 => ?_
 refine yR ?_
 refine yM rfl rfl ?_
 refine aa rfl (fk rfl rfl rfl) ?_
 refine yN ?_
 dsimp only [St.put]
 refine K4 _ ?_
 refine aq rfl (fun hc => ?_) (fun hc => ?_)
 ·have h0 : em p m ≠ 0 := jq hc
  have hV : ra p m = [] := by unfold ra; rw [lf h0]
  refine yS fun _ K5 => ?_
  refine yR ?_
  refine yM rfl rfl ?_
  refine yA rfl rfl ?_
  refine yA rfl rfl ?_
  refine yN ?_
  dsimp only [St.put]
  refine K5 _ ?_
  refine ax ?_
  refine ia rfl (eg (by constructor)) (eg (by constructor)) zN zS ?_ ?_
  ·rw [hV]; exact zW
  exact zW
 have h0 : em p m = 0 := ii hc
 obtain ⟨hc0, j, x, rfl, hx, hpo⟩ := p6 h0
 have hw := qo (c9 p.text) hx
 have hV : ra p (j : Int) = c9 p.text x := by unfold ra; rw [h0, hpo]; rfl
 rw [r5 h0]
 refine ay ?_
 refine K3 _ ?_
 refine yS fun _ K6 => ?_
 refine yR ?_
 refine yM rfl rfl ?_
 refine aa rfl (kx rfl rfl) ?_
 refine yF rfl rfl rfl rfl ?_
 refine yL rfl rfl rfl ?_
 refine yM rfl rfl ?_
 refine aa rfl (br rfl rfl rfl rfl (bq (by assumption)) (Enc.len _)) ?_
 refine yL rfl rfl rfl ?_
 refine yA rfl rfl ?_
 refine yA rfl rfl ?_
 refine yN ?_
 dsimp only [St.put]
 refine K6 _ ?_
 refine ax ?_
 refine ia rfl (eg (by constructor)) (eg (by constructor)) zN zS ?_ ?_
 ·rw [hV]; exact zW
 rw [h0]; exact zW
theorem ujs (n : Nat) (p : ah) (b : Bool) (m : Int) : fg n e9 Tryz.prog 29 [val p, .v (.bool b), .v (.int .i64 m)] (.tup [.v (.int .i64 (n8 p b m)), .v (.int .i64 (j8 p b m))]) := fun G nx hF hnx => by
 refine ip (G) (nx) Tryz.func29 rfl (.tup (cm .v (cm .v di))) zN (fun hlt => zH) ?_
 simp only [Tryz.ntmps29, List.length_cons, List.length_nil, Nat.reduceAdd, Nat.reduceSub]
 refine bx fun hlt => ?_
 dsimp only at hlt
 refine yS fun _ K1 => ?_
 refine yR ?_
 try dsimp only [St.put]
 refine yB rfl rfl rfl ?_
 refine yA rfl rfl ?_
 refine yA rfl rfl ?_
 refine yN ?_
 dsimp only [St.put]
 refine K1 _ ?_
 refine yS fun _ K2 => ?_
 refine yR ?_
 refine yE rfl rfl rfl ?_
 try dsimp only [St.put]
 refine af rfl (ei rfl rfl rfl (nt n p) zG (by dsimp only [St.put]; omega) ?_)
 refine yM rfl rfl ?_
 refine yX rfl rfl rfl rfl ?_
 refine yX rfl rfl rfl rfl ?_
 refine yA rfl rfl ?_
 refine yA rfl rfl ?_
 refine yN ?_
 dsimp only [St.put]
 refine K2 _ ?_
 refine yS fun _ K3 => ?_
 refine yS fun _ K4 => ?_
 refine yR ?_
 refine yM rfl rfl ?_
 refine aa rfl (fk rfl rfl rfl) ?_
 refine yN ?_
 dsimp only [St.put]
 refine K4 _ ?_
 refine aq rfl (fun hc => ?_) (fun hc => ?_)
 ·have h0 : cx p ≠ 0 := jq hc
  have hE : j8 p b m = cx p := by simp [j8, h0]
  refine yS fun _ K5 => ?_
  refine yR ?_
  refine yM rfl rfl ?_
  refine yA rfl rfl ?_
  refine yA rfl rfl ?_
  refine yN ?_
  dsimp only [St.put]
  refine K5 _ ?_
  refine ax ?_
  refine js rfl (by constructor) (by constructor) zN zS ?_ ?_
  ·exact vi (by simp [n8, atE, hE, h0])
  exact vi hE.symm
 have h0 : cx p = 0 := ii hc
 obtain ⟨hok, _⟩ := lu h0
 have hn1 := hok.nf
 have hn2 := hok.ns
 have hsl : (dv p b).length ≤ 3 := by
  cases b
  ·exact hn1
  exact hn2
 rw [ux h0]
 refine ay ?_
 refine K3 _ ?_
 refine yS fun _ K6 => ?_
 refine yR ?_
 try dsimp only [St.put]
 refine aa rfl (ucf (j := n) (k := 0) (m := 2) (sz := 3) rfl rfl zG rfl rfl (by decide) rfl) ?_
 try dsimp only [St.put]
 refine ci rfl (c := .agg (ni false)) (jc (cs := sidL) rfl rfl (show 3 ≤ 6 by decide)) ?_
 try dsimp only [St.put]
 refine af rfl (ed rfl ?_)
 try dsimp only [St.put]
 refine af rfl (dj rfl rfl rfl zG rfl rfl (by rfl) ?_)
 refine yN ?_
 dsimp only [St.put]
 refine K6 _ ?_
 refine co 13 ?_
 refine zQ ?_
 refine j4 (X := Nat) (fun wv => True) (fun wv => []) (fun wv G' => am G nx (.box wv (ni b))) rfl ?_ ?_ ?_ ?_
 ·rintro wv hI
  exact zL
 ·rintro wv hI
  exact (by (repeat' (refine k7 ?_ (by (try dsimp only); omega) ?_)); all_goals (first | exact k8 zS | (repeat' (first | exact trivial | refine ⟨?_, ?_⟩ | exact .v | exact .any | refine .elem ?_ | exact b9 _ _ | exact fo _ _ | exact el _ _ | exact fq _ (by (try dsimp only); omega) | exact .box (by (try dsimp only); omega) | exact fh | exact di | exact uhw _ _ | refine f3 ?_ ?_ | exact .arr (by (try dsimp only); omega) | exact .own (by (try dsimp only); omega) | exact .map (by (try dsimp only); omega) | exact eu _ | refine cm ?_ ?_ | exact b9 _ _))))
 ·refine yS fun _ K8 => ?_
  refine yR ?_
  refine yM rfl rfl ?_
  refine yN ?_
  dsimp only [St.put]
  refine K8 _ ?_
  refine aq rfl (fun hc => ?_) (fun hc => ?_)
  ·obtain rfl : b = true := hc
   have hyes : True := trivial
   refine yR ?_
   try dsimp only [St.put]
   refine aa rfl (ucf (j := n) (k := 1) (m := 2) (sz := 3) rfl rfl zG rfl rfl (by decide) rfl) ?_
   try dsimp only [St.put]
   refine ci rfl (eh rfl rfl rfl) ?_
   try dsimp only [St.put]
   refine af rfl (dj rfl rfl rfl zG rfl rfl (by rfl) ?_)
   refine yN ?_
   dsimp only [St.put]
   first
   | exact ⟨1 + 1, hyes, ⟨⟨rfl, rfl⟩, zF, zB, zN, zX⟩⟩
   | exact ⟨1, hno, ⟨⟨rfl, rfl⟩, zF, zB, zN, zX⟩⟩
  obtain rfl : b = false := hc
  have hno : True := trivial
  refine ay ?_
  first
  | exact ⟨1 + 1, hyes, ⟨⟨rfl, rfl⟩, zF, zB, zN, zX⟩⟩
  | exact ⟨1, hno, ⟨⟨rfl, rfl⟩, zF, zB, zN, zX⟩⟩
 rintro wv hI
 dsimp only at hI ⊢
 refine yS fun _ K9 => ?_
 refine yS fun _ K10 => ?_
 refine yR ?_
 refine aa rfl (bl rfl rfl) ?_
 try dsimp only [St.put]
 refine ci rfl (gg rfl rfl zG trivial (by first | rfl | assumption)) ?_
 refine yE rfl rfl rfl ?_
 try dsimp only [St.put]
 refine af rfl (bd rfl rfl rfl (ou b p) ?_)
 refine aa rfl (bi rfl rfl (List.length_map _)) ?_
 refine aa rfl (f4 rfl rfl rfl (by omega)) ?_
 refine yM rfl rfl ?_
 try dsimp only [St.put]
 refine af rfl (ca rfl rfl rfl (by decide) (by decide) zR (by decide) ?_)
 try dsimp only [St.put]
 refine af rfl (bd rfl rfl rfl (mu _ _ [_]) ?_)
 refine aa rfl (dw rfl rfl) ?_
 refine yN ?_
 dsimp only [St.put]
 refine K10 _ ?_
 refine aq rfl (fun hc => ?_) (fun hc => ?_)
 ·have h1 : inB m 0 (((dv p b).length : Int) - 1) = false := by rw [gj] at hc; simpa using hc
  have hE : j8 p b m = 2 := by simp [j8, h0, h1]
  refine yS fun _ K11 => ?_
  refine yR ?_
  refine yA rfl rfl ?_
  refine yA rfl rfl ?_
  refine yN ?_
  dsimp only [St.put]
  refine K11 _ ?_
  refine ax ?_
  refine js rfl (by constructor) (by constructor) zN zS ?_ ?_
  ·exact vi (by simp [n8, atE, hE])
  exact vi hE.symm
 have h1 : inB m 0 (((dv p b).length : Int) - 1) = true := by rw [gj] at hc; simpa using hc
 have hE : j8 p b m = 0 := by simp [j8, h0, h1]
 obtain ⟨j, hj⟩ : ∃ j : Nat, m = (j : Int) := ⟨m.toNat, by have := inB_true.1 h1; omega⟩
 subst hj
 have hjl : j < (dv p b).length := by have := inB_true.1 h1; omega
 have hV : n8 p b (j : Int) = ju p b j := by simp [n8, atE, hE]
 refine ay ?_
 refine K9 _ ?_
 refine yS fun _ K12 => ?_
 refine yR ?_
 refine yM rfl rfl ?_
 try dsimp only [St.put]
 refine ci rfl (i5 rfl rfl zG trivial (by rfl)) ?_
 refine yM rfl rfl ?_
 try dsimp only [St.put]
 refine af rfl (bd rfl rfl rfl (ubm p b j hok hjl) ?_)
 refine yM rfl rfl ?_
 refine yX rfl rfl rfl rfl ?_
 refine yX rfl rfl rfl rfl ?_
 refine yA rfl rfl ?_
 refine yA rfl rfl ?_
 refine yN ?_
 dsimp only [St.put]
 refine K12 _ ?_
 refine yS fun _ K13 => ?_
 refine yR ?_
 refine yM rfl rfl ?_
 refine yA rfl rfl ?_
 refine yA rfl rfl ?_
 refine yN ?_
 dsimp only [St.put]
 refine K13 _ ?_
 refine ax ?_
 refine js rfl (by constructor) (by constructor) zN zS ?_ ?_
 ·exact vi hV.symm
 exact vi hE.symm
theorem ujp (n : Nat) (p : ah) (m : Int) : fg n e9 Tryz.prog 66 [val p, .v (.int .i64 m)] (.tup [val (n1 p m), .v (.int .i64 (m4 p m))]) := fun G nx hF hnx => by
 refine ip (G) (nx) Tryz.func66 rfl (.tup (cm (el _ _) (cm .v di))) zN (fun hlt => zH) ?_
 simp only [Tryz.ntmps66, List.length_cons, List.length_nil, Nat.reduceAdd, Nat.reduceSub]
 refine bx fun hlt => ?_
 dsimp only at hlt
 refine yS fun _ K1 => ?_
 refine yR ?_
 try dsimp only [St.put]
 refine yB rfl rfl rfl ?_
 try dsimp only [St.put]
 refine af rfl (ed rfl ?_)
 refine yA rfl rfl ?_
 refine yN ?_
 dsimp only [St.put]
 refine K1 _ ?_
 refine yS fun _ K2 => ?_
 refine yR ?_
 refine yE rfl rfl rfl ?_
 refine yM rfl rfl ?_
 try dsimp only [St.put]
 refine af rfl (ei rfl rfl rfl (qj n p m) zG (by dsimp only [St.put]; omega) ?_)
 refine yM rfl rfl ?_
 refine yX rfl rfl rfl rfl ?_
 refine yX rfl rfl rfl rfl ?_
 refine yA rfl rfl ?_
 refine yA rfl rfl ?_
 refine yN ?_
 dsimp only [St.put]
 refine K2 _ ?_
 refine yS fun _ K3 => ?_
 refine yS fun _ K4 => ?_
 refine yR ?_
 refine yM rfl rfl ?_
 refine aa rfl (fk rfl rfl rfl) ?_
 refine yN ?_
 dsimp only [St.put]
 refine K4 _ ?_
 refine aq rfl (fun hc => ?_) (fun hc => ?_)
 ·have h0 : em p m ≠ 0 := jq hc
  have hE : m4 p m = em p m := by unfold m4; rw [decide_eq_false h0]; rfl
  have hV : n1 p m = ⟨0, 0⟩ := by unfold n1; rw [hE, lf h0]
  refine yS fun _ K5 => ?_
  refine yR ?_
  refine aa rfl (ij rfl rfl) ?_
  refine yM rfl rfl ?_
  try dsimp only [St.put]
  refine af rfl (dj rfl rfl rfl zG rfl rfl (by rfl) ?_)
  refine yA rfl rfl ?_
  refine yN ?_
  dsimp only [St.put]
  refine K5 _ ?_
  refine ax ?_
  refine ia rfl (jz rfl zG (by rfl) zC rfl) (eg (by constructor)) zN zS ?_ ?_
  ·rw [hV]; exact zW
  rw [hE]; exact zW
 have h0 : em p m = 0 := ii hc
 obtain ⟨hc0, j, x, rfl, hx, hpo⟩ := p6 h0
 obtain ⟨hok, _⟩ := lu hc0
 have hp := pageB_true.1 (hok.page j x hx)
 have hal := lg hok.text
 have hfl := lp hp.found
 have hwl := lp hp.well
 have hbl := uen p.text x
 have hw := qo (c9 p.text) hx
 rw [r5 h0]
 refine ay ?_
 refine K3 _ ?_
 refine yS fun _ K6 => ?_
 refine yR ?_
 refine yM rfl rfl ?_
 refine aa rfl (kx rfl rfl) ?_
 refine yF rfl rfl rfl rfl ?_
 refine yL rfl rfl rfl ?_
 refine yM rfl rfl ?_
 refine aa rfl (br rfl rfl rfl rfl (bq (by assumption)) (Enc.len _)) ?_
 refine yL rfl rfl rfl ?_
 refine aa rfl (bi rfl rfl (List.length_map _)) ?_
 refine yA rfl rfl ?_
 refine yN ?_
 dsimp only [St.put]
 refine K6 _ ?_
 refine yS fun _ K7 => ?_
 refine yS fun _ K8 => ?_
 refine yR ?_
 refine yM rfl rfl ?_
 refine aa rfl (fm rfl rfl rfl) ?_
 refine yN ?_
 dsimp only [St.put]
 refine K8 _ ?_
 refine aq rfl (fun hc => ?_) (fun hc => ?_)
 ·have hk : (c9 p.text x).length = 0 := by have := of_decide_eq_true hc; omega
  have hE : m4 p (j : Int) = 6 := by unfold m4; rw [h0, hpo, decide_eq_true hk]; rfl
  have hV : n1 p (j : Int) = ⟨0, 0⟩ := by unfold n1; rw [hE, lf (by decide)]
  refine yS fun _ K9 => ?_
  refine yR ?_
  refine aa rfl (ij rfl rfl) ?_
  try dsimp only [St.put]
  refine af rfl (dj rfl rfl rfl zG rfl rfl (by rfl) ?_)
  refine yA rfl rfl ?_
  refine yN ?_
  dsimp only [St.put]
  refine K9 _ ?_
  refine ax ?_
  refine ia rfl (jz rfl zG (by rfl) zC rfl) (eg (by constructor)) zN zS ?_ ?_
  ·rw [hV]; exact zW
  rw [hE]; exact zW
 have hk : ¬ (c9 p.text x).length = 0 := by have := of_decide_eq_false hc; omega
 obtain ⟨hE, hV⟩ := ult h0 hpo rfl hk
 have hfw : x.found.length * x.well.length ≤ 600 * 600 := Nat.mul_le_mul (by omega) (by omega)
 have hfc := Int.natCast_mul x.found.length x.well.length
 have hjl := (List.getElem?_eq_some_iff.1 hx).1
 refine ay ?_
 refine K7 _ ?_
 refine yS fun _ K10 => ?_
 refine fu [(0, none), (1, none), (2, none), (3, none), (4, none), (5, none), (6, none), (7, none), (8, none), (9, none), (10, none), (11, none), (12, none), (13, none), (14, none), (15, none)] (fun i => [].contains i) (fun i => [].contains i) (fun i => [0, 2, 3, 4, 6, 7, 9, 10, 11, 13, 14, 15].contains i) [] (by kernel_rfl) (by kernel_rfl) ?_
 refine ae rfl rfl rfl rfl (cv rfl rfl rfl) ?_
 try dsimp only [St.put]
 refine bc rfl rfl rfl rfl (cg rfl rfl) ?_
 refine xM rfl rfl rfl rfl rfl ?_
 try dsimp only [St.put]
 refine ae rfl rfl rfl rfl (br rfl rfl rfl rfl (bq (by assumption)) (Enc.len _)) ?_
 refine ae rfl rfl rfl rfl (cv rfl rfl rfl) ?_
 try dsimp only [St.put]
 refine bc rfl rfl rfl rfl (cg rfl rfl) ?_
 refine ae rfl rfl rfl rfl (bi rfl rfl (List.length_map _)) ?_
 refine ae rfl rfl rfl rfl (cv rfl rfl rfl) ?_
 try dsimp only [St.put]
 refine bc rfl rfl rfl rfl (cg rfl rfl) ?_
 refine xM rfl rfl rfl rfl rfl ?_
 try dsimp only [St.put]
 refine ae rfl rfl rfl rfl (br rfl rfl rfl rfl (bq (by assumption)) (Enc.len _)) ?_
 refine ae rfl rfl rfl rfl (cv rfl rfl rfl) ?_
 try dsimp only [St.put]
 refine bc rfl rfl rfl rfl (cg rfl rfl) ?_
 refine ae rfl rfl rfl rfl (bi rfl rfl (List.length_map _)) ?_
 refine ae rfl rfl rfl rfl (si rfl rfl rfl (by omega)) ?_
 refine ae rfl rfl rfl rfl (fa rfl (by constructor)) ?_
 refine az ?_
 dsimp only [St.put]
 rw [show (x.found.length : Int) * (x.well.length : Int) = ((x.found.length * x.well.length : Nat) : Int) from hfc.symm]
 obtain ⟨M, hM⟩ : ∃ M, x.found.length * x.well.length = M := ⟨_, rfl⟩
 obtain ⟨K, hK⟩ : ∃ K, (c9 p.text x).length = K := ⟨_, rfl⟩
 have hV2 : n1 p (j : Int) = ⟨(M : Int) / (K : Int), ((M : Int) + (K : Int) - 1) / (K : Int)⟩ := by
  rw [hV]
  unfold yr
  rw [hM, hK, Int.natCast_ediv, Int.natCast_ediv, show ((M + K - 1 : Nat) : Int) = (M : Int) + (K : Int) - 1 by omega]
 rw [hM] at hfw
 rw [hK] at hk hbl
 rw [hM, hK]
 refine K10 _ ?_
 refine yS fun _ K11 => ?_
 refine fu [(0, none), (1, none), (2, none), (3, none), (4, none), (5, none), (6, none), (7, none), (8, none), (9, none), (10, none), (11, none)] (fun i => [10].contains i) (fun i => [10].contains i) (fun i => [0, 1, 2, 3, 4, 5, 6, 7, 8, 9, 11].contains i) [] (by kernel_rfl) (by kernel_rfl) ?_
 refine xM rfl rfl rfl rfl rfl ?_
 refine xM rfl rfl rfl rfl rfl ?_
 refine ae rfl rfl rfl rfl (sg rfl rfl rfl (by omega) (by omega)) ?_
 refine xM rfl rfl rfl rfl rfl ?_
 refine xM rfl rfl rfl rfl rfl ?_
 refine ae rfl rfl rfl rfl (bu rfl rfl rfl (by omega)) ?_
 refine ae rfl rfl rfl rfl (f4 rfl rfl rfl (by omega)) ?_
 refine xM rfl rfl rfl rfl rfl ?_
 refine ae rfl rfl rfl rfl (sg rfl rfl rfl (by omega) (by omega)) ?_
 refine ae rfl rfl rfl rfl (ij rfl rfl) ?_
 refine g7 ?_
 try dsimp only [St.put]
 refine g4 rfl rfl rfl rfl (dj rfl rfl rfl zG rfl rfl (by rfl) ?_)
 refine dq rfl rfl rfl rfl (fa rfl (by constructor)) ?_
 refine gw ?_
 dsimp only [St.put]
 refine K11 _ ?_
 refine ax ?_
 refine ia rfl (jz rfl zG (by rfl) zC rfl) (eg (by constructor)) zN zS ?_ ?_
 ·rw [hV2]; exact zW
 rw [hE]; exact zW
end Go.Proofs.YtbbdginipiljdaaGreatDoor
namespace Go.AB
open Go Go.RowKit
open Go.AB.Enc (cells)
open Go.PB (ba ai PlaceD bh bk bj bw ar ah cw bv dc dg)
/-- who has read a page, of some sides -/
def ow (p : ah) (x : ar) : Nat → List Int
 | 0 => []
 | k + 1 => ow p x k ++ bif decide (0 ≤ ec (decide (k = 1)) x) then [(sdN p k : Int) + ec (decide (k = 1)) x] else []
theorem uiv (p : ah) (x : ar) : ow p x 2 = du p x := by
 show ([] ++ bif decide (0 ≤ x.fst) then [((0 : Nat) : Int) + x.fst] else []) ++ (bif decide (0 ≤ x.snd) then [(p.firsts.length : Int) + x.snd] else []) = du p x
 rw [List.nil_append, show ((0 : Nat) : Int) + x.fst = x.fst by omega]
 rfl
theorem ua9 (p : ah) (x : ar) : ∀ k, (ow p x k).length ≤ k
 | 0 => Nat.le_refl _
 | k + 1 => by
  have := ua9 p x k
  simp only [ow, List.length_append]
  cases decide (0 ≤ ec (decide (k = 1)) x)
  ·rw [cond_false]; simp; omega
  rw [cond_true]; simp; omega
theorem ukt {α β : Type} {l : List α} {j : Nat} {x : α} (f : α → β) (h : l[j]? = some x) : (l.take (j + 1)).map f = (l.take j).map f ++ [f x] := by rw [List.take_add_one, h, Option.toList_some, List.map_append]; rfl
theorem uk9 {p : ah} : (!(bp (cj p) (cy p)).any fun n => decide (n < 0)) = ie p := by
 rw [Bool.eq_iff_iff, Bool.not_eq_true', ← Bool.not_eq_true, List.any_eq_true]
 unfold ie bp
 rw [List.all_eq_true]
 constructor
 ·intro h i hi
  refine decide_eq_true ?_
  rcases Int.lt_or_le (cy p i) 0 with q | q
  ·exact absurd ⟨_, List.mem_map.2 ⟨i, hi, rfl⟩, decide_eq_true q⟩ h
  exact q
 rintro h ⟨z, hz, hl⟩
 obtain ⟨i, hi, rfl⟩ := List.mem_map.1 hz
 have := of_decide_eq_true (h i hi)
 have := of_decide_eq_true hl
 omega
end Go.AB
namespace Go.Proofs.YtbbdginipiljdaaGreatDoor
set_option maxRecDepth 10000
open Go Go.RowKit Go.AB
open Go.AB.Enc (cells)
open Go.PB (ba ai PlaceD bh bk bj bw ar ah cw bv dc dg)
theorem uij (z : Int) : Pure Tryz.prog 98 [.v (.int .i64 z)] (.v (.bool (decide (z < 0)))) := by
 refine c4 Tryz.func98 rfl (fun m => .v) fun G nx => ?_
 simp only [Tryz.ntmps98, List.length_cons, List.length_nil, Nat.reduceAdd, Nat.reduceSub]
 refine bx fun hlt => ?_
 dsimp only at hlt
 refine yS fun _ K1 => ?_
 refine yR ?_
 refine yA rfl rfl ?_
 refine yN ?_
 dsimp only [St.put]
 refine K1 _ ?_
 refine yS fun _ K2 => ?_
 refine yR ?_
 refine yM rfl rfl ?_
 refine aa rfl (cn rfl rfl rfl) ?_
 refine yA rfl rfl ?_
 refine yN ?_
 dsimp only [St.put]
 refine K2 _ ?_
 refine ax ?_
 refine bg rfl (by constructor) zN zS ?_
 rfl
theorem uk6 (p : ah) : Pure Tryz.prog 97 [.elem (j9 p)] (.fn (.func 110) [.elem [.elem (j9 p)]]) := by
 refine c4 Tryz.func97 rfl (fun m => (.fn (cm (.elem (cm (.elem (cm (b9 _ _) (cm (b9 _ _) (cm (b9 _ _) (cm (b9 _ _) (cm (b9 _ _) (cm (b9 _ _) (cm (b9 _ _) di)))))))) di)) di))) fun G nx => ?_
 simp only [Tryz.ntmps97, List.length_cons, List.length_nil, Nat.reduceAdd, Nat.reduceSub]
 refine bx fun hlt => ?_
 dsimp only at hlt
 refine yS fun _ K1 => ?_
 refine yR ?_
 try dsimp only [St.put]
 refine yB rfl rfl rfl ?_
 refine yA rfl rfl ?_
 refine yN ?_
 dsimp only [St.put]
 refine K1 _ ?_
 refine yS fun _ K2 => ?_
 refine yR ?_
 refine aa rfl (pp rfl rfl) ?_
 refine yA rfl rfl ?_
 refine yN ?_
 dsimp only [St.put]
 refine K2 _ ?_
 refine ax ?_
 refine bg rfl (by constructor) zN zS ?_
 rfl
set_option maxHeartbeats 2000000 in
theorem ujl (n : Nat) (p : ah) (h : ef p) : fg n e9 Tryz.prog 79 [.elem (j9 p)] (.tup [val (gh p (cy p) (dd p)), .v (.bool (ie p))]) := fun G nx hF hnx => by
 refine ip (G) (nx) Tryz.func79 rfl (.tup (cm (el _ _) (cm .v di))) zN (fun hlt => zH) ?_
 simp only [Tryz.ntmps79, List.length_cons, List.length_nil, Nat.reduceAdd, Nat.reduceSub]
 refine bx fun hlt => ?_
 dsimp only at hlt
 have hn1 := h.nf
 have hn2 := h.ns
 have hnp := h.np
 have hnr : cj p = p.firsts.length + p.seconds.length := rfl
 have hal := lg h.text
 refine yS fun _ K1 => ?_
 refine yR ?_
 try dsimp only [St.put]
 refine af rfl (ed rfl ?_)
 refine yA rfl rfl ?_
 refine yN ?_
 dsimp only [St.put]
 refine K1 _ ?_
 refine yS fun _ K2 => ?_
 refine yR ?_
 try dsimp only [St.put]
 refine af rfl (ed rfl ?_)
 refine yN ?_
 dsimp only [St.put]
 refine K2 _ ?_
 refine re (nx + 1) 0 _ _ 3 1 zG rfl (by decide) ?_
 refine re (nx + 1) 1 _ _ 3 1 zG rfl (by decide) ?_
 refine re (nx + 1) 2 _ _ 40 1 zG rfl (by decide) ?_
 dsimp only [List.set_cons_zero, List.set_cons_succ]
 refine yS fun _ K3 => ?_
 refine yS fun _ K4 => ?_
 refine yR ?_
 refine yM rfl rfl ?_
 try dsimp only [St.put]
 refine af rfl (bd rfl rfl rfl (uk6 p) ?_)
 refine yN ?_
 dsimp only [St.put]
 refine K4 _ ?_
 refine bf ?_
 refine co 15 ?_
 refine zQ ?_
 refine c7 ((am (am (am (am (am G nx (.box 0 [.list [] .nil, .list [] .nil, .list [] .nil])) (nx + 1) (.box (0) [.list ((bp 0 (cy p)).map cells) (.tip (nx + 1 + 1)), .list ((bp 0 (dd p)).map cells) (.tip (nx + 1 + 1 + 1)), .list (((p.pages.take 0).map (du p)).map cells) (.tip (nx + 1 + 1 + 1 + 1))])) (nx + 1 + 1) (.tip (bp 0 (cy p)).length 3 1)) (nx + 1 + 1 + 1) (.tip (bp 0 (dd p)).length 3 1)) (nx + 1 + 1 + 1 + 1) (.tip ((p.pages.take 0).map (du p)).length 40 1))) zX ?_
 dsimp only
 refine uey [15] (fun k => (am (am (am (am (am G nx (.box 0 [.list [] .nil, .list [] .nil, .list [] .nil])) (nx + 1) (.box (k) [.list ((bp k (cy p)).map cells) (.tip (nx + 1 + 1)), .list ((bp 0 (dd p)).map cells) (.tip (nx + 1 + 1 + 1)), .list (((p.pages.take 0).map (du p)).map cells) (.tip (nx + 1 + 1 + 1 + 1))])) (nx + 1 + 1) (.tip (bp k (cy p)).length 3 1)) (nx + 1 + 1 + 1) (.tip (bp 0 (dd p)).length 3 1)) (nx + 1 + 1 + 1 + 1) (.tip ((p.pages.take 0).map (du p)).length 40 1))) (fun k => [(15, .v (.int .i64 (cy p k)))]) (uk7 n p h) (fun k => zG) (by (try dsimp only); omega) rfl rfl (fun _ => rfl) ?_ ?_ ?_ (fun lr k hrk => ?_) ?_
 ·intro k
  rfl
 ·exact zX
 ·intro k
  exact zH
 ·have hll := g6 k (cy p)
  refine yR ?_
  refine yA rfl rfl ?_
  refine yN ?_
  dsimp only [St.put]
  show AW _ _ _ _ _
  refine bf ?_
  refine yR ?_
  refine aa rfl (bl rfl rfl) ?_
  try dsimp only [St.put]
  refine ci rfl (gg rfl rfl zG trivial (by first | rfl | assumption)) ?_
  refine yM rfl rfl ?_
  try dsimp only [St.put]
  refine af rfl (ca rfl rfl rfl (by decide) (by decide) zR (by decide) ?_)
  try dsimp only [St.put]
  refine af rfl (ce ([cy p k]) rfl rfl zG zE rfl rfl zA ?_ zA)
  refine aa rfl (bl rfl rfl) ?_
  try dsimp only [St.put]
  refine af rfl (cd rfl rfl rfl zG (by constructor) rfl zO ?_)
  refine yN ?_
  dsimp only [St.put]
  rw [← rp k (cy p)]
  exact zX
 dsimp only
 refine K3 _ ?_
 refine yS fun _ K5 => ?_
 refine yS fun _ K6 => ?_
 refine yR ?_
 refine yM rfl rfl ?_
 refine aa rfl (kx rfl rfl) ?_
 refine yF rfl rfl rfl rfl ?_
 refine yF rfl rfl rfl rfl ?_
 refine yL rfl rfl rfl ?_
 refine aa rfl (bi rfl rfl (List.length_map _)) ?_
 refine yM rfl rfl ?_
 refine yN ?_
 dsimp only [St.put]
 refine K6 _ ?_
 refine bf ?_
 refine co 29 ?_
 refine zQ ?_
 refine c7 ((am (am (am (am (am G nx (.box 0 [.list [] .nil, .list [] .nil, .list [] .nil])) (nx + 1) (.box ((cj p)) [.list ((bp (cj p) (cy p)).map cells) (.tip (nx + 1 + 1)), .list ((bp 0 (dd p)).map cells) (.tip (nx + 1 + 1 + 1)), .list (((p.pages.take 0).map (du p)).map cells) (.tip (nx + 1 + 1 + 1 + 1))])) (nx + 1 + 1) (.tip (bp (cj p) (cy p)).length 3 1)) (nx + 1 + 1 + 1) (.tip (bp 0 (dd p)).length 3 1)) (nx + 1 + 1 + 1 + 1) (.tip ((p.pages.take 0).map (du p)).length 40 1))) zX ?_
 dsimp only
 refine c6 (X := Nat) (fun j => j ≤ p.pages.length) (fun j => p.pages.length - j) (fun j => [(6, .any), (7, .any), (8, .any), (9, .any), (10, .any), (11, .any), (12, .any), (28, .v (.int .i64 (j : Int)))]) (fun j G' => (am (am (am (am (am G nx (.box 0 [.list [] .nil, .list [] .nil, .list [] .nil])) (nx + 1) (.box ((cj p + 2 * j)) [.list ((bp (cj p) (cy p)).map cells) (.tip (nx + 1 + 1)), .list ((bp j (dd p)).map cells) (.tip (nx + 1 + 1 + 1)), .list (((p.pages.take j).map (du p)).map cells) (.tip (nx + 1 + 1 + 1 + 1))])) (nx + 1 + 1) (.tip (bp (cj p) (cy p)).length 3 1)) (nx + 1 + 1 + 1) (.tip (bp j (dd p)).length 3 1)) (nx + 1 + 1 + 1 + 1) (.tip ((p.pages.take j).map (du p)).length 40 1))) 0 rfl ?_ ?_ ?_ ?_ ?_ ?_
 ·exact Nat.zero_le _
 ·exact zF
 ·exact zX
 ·rintro j hI
  exact zL
 ·rintro j hI
  exact zH
 rintro j hJ
 dsimp only at hJ ⊢
 refine yS fun _ K7 => ?_
 refine yR ?_
 refine aa rfl (cn rfl rfl rfl) ?_
 refine yN ?_
 dsimp only [St.put]
 refine K7 _ ?_
 refine yS fun _ K8 => ?_
 refine aq rfl (fun hc => ?_) (fun hc => ?_)
 ·replace hc := of_decide_eq_true hc
  obtain ⟨x, hx⟩ : ∃ x, p.pages[j]? = some x := da (by omega)
  have hw1 : (p.pages.map fun x => (dp p.text x : Int))[j]? = some (dp p.text x : Int) := qo (fun x => (dp p.text x : Int)) hx
  have hw2 := qo (cp p.text) hx
  have hgl := qy p.text x
  have hwx := t8 p.text x
  have hll := g6 j (dd p)
  have hp := pageB_true.1 (h.page j x hx)
  have hp1 := hp.fst
  have hp2 := hp.snd
  have hll2 : ((p.pages.take j).map (du p)).length ≤ 8 := by rw [List.length_map, List.length_take]; omega
  refine ay ?_
  refine K8 _ ?_
  refine yS fun _ K9 => ?_
  refine bf ?_
  refine yS fun _ K10 => ?_
  refine yR ?_
  refine yM rfl rfl ?_
  refine aa rfl (br rfl rfl rfl rfl (bq (by assumption)) (Enc.len _)) ?_
  refine yE rfl rfl rfl ?_
  try dsimp only [St.put]
  refine af rfl (ed rfl ?_)
  refine yA rfl rfl ?_
  try dsimp only [St.put]
  refine af rfl (dj rfl rfl rfl zG rfl rfl (by rfl) ?_)
  refine yN ?_
  dsimp only [St.put]
  refine K10 _ ?_
  refine gp (i := 7) rfl zG zC ?_
  dsimp only
  refine yS fun _ K11 => ?_
  refine fu [(0, none), (1, none), (2, none), (3, none), (4, none), (5, none), (6, none), (7, none), (8, none), (9, none), (10, none), (11, none), (12, none), (13, none), (14, none), (15, none), (16, none), (17, none), (18, none), (19, none), (20, none), (21, none)] (fun i => [19, 21].contains i) (fun i => [18, 19, 21].contains i) (fun i => [0, 2, 3, 4, 6, 7, 9, 10, 11, 13, 14, 16, 17, 20].contains i) [nx + 1] (by kernel_rfl) (by kernel_rfl) ?_
  refine ae rfl rfl rfl rfl (bl rfl rfl) ?_
  try dsimp only [St.put]
  refine bc rfl rfl rfl rfl (gg rfl rfl zG (by simp) (by first | rfl | assumption)) ?_
  refine xM rfl rfl rfl rfl rfl ?_
  refine ae rfl rfl rfl rfl (kx rfl rfl) ?_
  refine ae rfl rfl rfl rfl (cv rfl rfl rfl) ?_
  try dsimp only [St.put]
  refine bc rfl rfl rfl rfl (cg rfl rfl) ?_
  refine xM rfl rfl rfl rfl rfl ?_
  try dsimp only [St.put]
  refine ae rfl rfl rfl rfl (br rfl rfl rfl rfl (bq (by assumption)) (Enc.len _)) ?_
  try dsimp only [St.put]
  refine bc rfl rfl rfl rfl (cg rfl rfl) ?_
  refine xM rfl rfl rfl rfl rfl ?_
  refine ae rfl rfl rfl rfl (kx rfl rfl) ?_
  refine ae rfl rfl rfl rfl (cv rfl rfl rfl) ?_
  try dsimp only [St.put]
  refine bc rfl rfl rfl rfl (cg rfl rfl) ?_
  refine xM rfl rfl rfl rfl rfl ?_
  try dsimp only [St.put]
  refine ae rfl rfl rfl rfl (br rfl rfl rfl rfl (bq (by assumption)) (Enc.len _)) ?_
  try dsimp only [St.put]
  refine bc rfl rfl rfl rfl (cg rfl rfl) ?_
  refine ae rfl rfl rfl rfl (bi rfl rfl (List.length_map _)) ?_
  refine ae rfl rfl rfl rfl (f4 rfl rfl rfl (by omega)) ?_
  refine g7 ?_
  try dsimp only [St.put]
  refine i9 rfl rfl rfl (ca rfl rfl rfl (by decide) (by decide) zR (by decide) ⟨zD, ?_⟩)
  try dsimp only [St.put]
  refine g4 rfl rfl rfl rfl (ce ([(dp p.text x : Int) - ((cp p.text x).length : Int)]) rfl rfl zG zE rfl rfl zA ?_ zA)
  refine dq rfl rfl rfl rfl (bl rfl rfl) ?_
  try dsimp only [St.put]
  refine g4 rfl rfl rfl rfl (cd rfl rfl rfl zG (by constructor) rfl zO ?_)
  refine gw ?_
  dsimp only [St.put]
  have e := rp j (dd p)
  rw [show dd p j = (dp p.text x : Int) - ((cp p.text x).length : Int) from oy hx _] at e
  simp only [← e]
  refine K11 _ ?_
  refine yS fun _ K12 => ?_
  refine yR ?_
  refine yA rfl rfl ?_
  refine yN ?_
  dsimp only [St.put]
  refine K12 _ ?_
  refine na 8 3 1 rfl (by decide) ?_
  dsimp only [List.set_cons_zero, List.set_cons_succ]
  refine yS fun _ K13 => ?_
  refine yR ?_
  refine yA rfl rfl ?_
  refine yN ?_
  dsimp only [St.put]
  refine K13 _ ?_
  refine yS fun _ K14 => ?_
  refine yS fun _ K15 => ?_
  refine yR ?_
  try dsimp only [St.put]
  refine ci rfl (mq (n := 6) (m := n) rfl rfl zG rfl) ?_
  refine yM rfl rfl ?_
  refine yN ?_
  dsimp only [St.put]
  refine K15 _ ?_
  refine bf ?_
  refine co 56 ?_
  refine zQ ?_
  refine c7 (am ((am (am (am (am (am G nx (.box 0 [.list [] .nil, .list [] .nil, .list [] .nil])) (nx + 1) (.box ((cj p + 2 * j + 1)) [.list ((bp (cj p) (cy p)).map cells) (.tip (nx + 1 + 1)), .list ((bp (j + 1) (dd p)).map cells) (.tip (nx + 1 + 1 + 1)), .list (((p.pages.take j).map (du p)).map cells) (.tip (nx + 1 + 1 + 1 + 1))])) (nx + 1 + 1) (.tip (bp (cj p) (cy p)).length 3 1)) (nx + 1 + 1 + 1) (.tip (bp (j + 1) (dd p)).length 3 1)) (nx + 1 + 1 + 1 + 1) (.tip ((p.pages.take j).map (du p)).length 40 1))) (nx + 1 + 1 + 1 + 1 + 1 + 1) (.tip 0 3 1)) zX ?_
  dsimp only
  refine c6 (X := Nat) (fun k => k ≤ 2) (fun k => 2 - k) (fun k => [(8, .list ((ow p x k).map cells) (.tip (nx + 1 + 1 + 1 + 1 + 1 + 1))), (9, .v (.int .i64 (sdN p k : Int))), (11, .any), (12, .any), (55, .v (.int .i64 (k : Int)))]) (fun k G' => am ((am (am (am (am (am G nx (.box 0 [.list [] .nil, .list [] .nil, .list [] .nil])) (nx + 1) (.box ((cj p + 2 * j + 1)) [.list ((bp (cj p) (cy p)).map cells) (.tip (nx + 1 + 1)), .list ((bp (j + 1) (dd p)).map cells) (.tip (nx + 1 + 1 + 1)), .list (((p.pages.take j).map (du p)).map cells) (.tip (nx + 1 + 1 + 1 + 1))])) (nx + 1 + 1) (.tip (bp (cj p) (cy p)).length 3 1)) (nx + 1 + 1 + 1) (.tip (bp (j + 1) (dd p)).length 3 1)) (nx + 1 + 1 + 1 + 1) (.tip ((p.pages.take j).map (du p)).length 40 1))) (nx + 1 + 1 + 1 + 1 + 1 + 1) (.tip (ow p x k).length 3 1)) 0 rfl ?_ ?_ ?_ ?_ ?_ ?_
  ·exact Nat.zero_le _
  ·exact zF
  ·exact zX
  ·rintro k hI
   exact zL
  ·rintro k hI
   exact zH
  rintro k hK
  dsimp only at hK ⊢
  refine yS fun _ K16 => ?_
  refine yR ?_
  refine aa rfl (cn rfl rfl rfl) ?_
  refine yN ?_
  dsimp only [St.put]
  refine K16 _ ?_
  refine yS fun _ K17 => ?_
  refine aq rfl (fun hc => ?_) (fun hc => ?_)
  ·replace hc := of_decide_eq_true hc
   have hk : k < 2 := by omega
   have hsd : sdN p k ≤ 3 ∧ (dv p (decide (k = 1))).length ≤ 3 ∧ -1 ≤ ec (decide (k = 1)) x ∧ ec (decide (k = 1)) x ≤ 3 := by
    have : k = 0 ∨ k = 1 := by omega
    rcases this with rfl | rfl
    ·exact ⟨Nat.zero_le _, hn1, by show -1 ≤ x.fst; omega, by show x.fst ≤ 3; omega⟩
    exact ⟨hn1, hn2, by show -1 ≤ x.snd; omega, by show x.snd ≤ 3; omega⟩
   have hst : ow p x (k + 1) = ow p x k ++ bif decide (0 ≤ ec (decide (k = 1)) x) then [(sdN p k : Int) + ec (decide (k = 1)) x] else [] := rfl
   have hrl := ua9 p x k
   refine ay ?_
   refine K17 _ ?_
   refine yS fun _ K18 => ?_
   refine bf ?_
   refine yS fun _ K19 => ?_
   refine yR ?_
   refine aa rfl (u9 (k := k) (m := 2) (sz := 3) rfl rfl rfl rfl hk (uk hk)) ?_
   try dsimp only [St.put]
   refine af rfl (ed rfl ?_)
   try dsimp only [St.put]
   refine af rfl (dj rfl rfl rfl zG rfl rfl (by rfl) ?_)
   refine yN ?_
   dsimp only [St.put]
   refine K19 _ ?_
   refine gp (i := 11) rfl zG zC ?_
   dsimp only
   refine yS fun _ K20 => ?_
   refine yS fun _ K21 => ?_
   refine yR ?_
   refine yF rfl rfl rfl rfl ?_
   refine yL rfl rfl rfl ?_
   refine yE rfl rfl rfl ?_
   try dsimp only [St.put]
   refine af rfl (bd rfl rfl rfl (xi (decide (k = 1)) x) ?_)
   refine yA rfl rfl ?_
   refine yN ?_
   dsimp only [St.put]
   refine K21 _ ?_
   refine yS fun _ K22 => ?_
   refine yR ?_
   refine yM rfl rfl ?_
   refine aa rfl (mx rfl rfl rfl) ?_
   refine yN ?_
   dsimp only [St.put]
   refine K22 _ ?_
   refine aq rfl (fun hc => ?_) (fun hc => ?_)
   ·have hyes : 0 ≤ ec (decide (k = 1)) x := of_decide_eq_true hc
    refine yR ?_
    refine yM rfl rfl ?_
    refine yM rfl rfl ?_
    refine yM rfl rfl ?_
    refine aa rfl (bu rfl rfl rfl (by omega)) ?_
    try dsimp only [St.put]
    refine af rfl (ca rfl rfl rfl (by decide) (by decide) zR (by decide) ?_)
    try dsimp only [St.put]
    refine af rfl (ce ([(sdN p k : Int) + ec (decide (k = 1)) x]) rfl rfl zG zE rfl rfl zA ?_ zA)
    refine yA rfl rfl ?_
    refine yN ?_
    dsimp only [St.put]
    refine K20 _ ?_
    refine fu [(0, none), (1, none), (2, none), (3, none), (4, none), (5, none), (6, none), (7, none), (8, none), (9, none), (10, none)] (fun i => [7].contains i) (fun i => [7].contains i) (fun i => [0, 1, 3, 4, 5, 8, 9, 10].contains i) [] (by kernel_rfl) (by kernel_rfl) ?_
    refine xM rfl rfl rfl rfl rfl ?_
    refine ae rfl rfl rfl rfl (cv rfl rfl rfl) ?_
    try dsimp only [St.put]
    refine bc rfl rfl rfl rfl (cg rfl rfl) ?_
    refine xM rfl rfl rfl rfl rfl ?_
    refine ae rfl rfl rfl rfl (kx rfl rfl) ?_
    refine ae rfl rfl rfl rfl (cv rfl rfl rfl) ?_
    try dsimp only [St.put]
    refine bc rfl rfl rfl rfl (c := val p) (jc (cs := j9 p) rfl rfl (show 4 ≤ 7 by decide)) ?_
    refine g7 ?_
    try dsimp only [St.put]
    refine g4 rfl rfl rfl rfl (bd rfl rfl rfl (ou (decide (k = 1)) p) ?_)
    refine dq rfl rfl rfl rfl (bi rfl rfl (List.length_map _)) ?_
    refine dq rfl rfl rfl rfl (bu rfl rfl rfl (by omega)) ?_
    refine dq rfl rfl rfl rfl (fa rfl (by constructor)) ?_
    refine gw ?_
    dsimp only [St.put]
    refine K18 _ ?_
    refine yR ?_
    refine aa rfl (bu rfl rfl rfl (by omega)) ?_
    refine yM rfl rfl ?_
    refine yN ?_
    dsimp only [St.put]
    rw [show ((sdN p k : Nat) : Int) + ((dv p (decide (k = 1))).length : Int) = ((sdN p (k + 1) : Nat) : Int) by rw [xh hk]; omega]
    first
    | (have z : 0 ≤ ec (decide (k = 1)) x := hyes
       rw [decide_eq_true z, cond_true] at hst
       rw [← hst]
       exact ⟨k + 1, by omega, by omega, ⟨⟨rfl, rfl⟩, zF, zB, zN, zX⟩⟩)
    | (have z : ¬ 0 ≤ ec (decide (k = 1)) x := hno
       rw [decide_eq_false z, cond_false, List.append_nil] at hst
       rw [← hst]
       exact ⟨k + 1, by omega, by omega, ⟨⟨rfl, rfl⟩, zF, zB, zN, zX⟩⟩)
   have hno : ¬ 0 ≤ ec (decide (k = 1)) x := of_decide_eq_false hc
   refine ay ?_
   refine K20 _ ?_
   refine fu [(0, none), (1, none), (2, none), (3, none), (4, none), (5, none), (6, none), (7, none), (8, none), (9, none), (10, none)] (fun i => [7].contains i) (fun i => [7].contains i) (fun i => [0, 1, 3, 4, 5, 8, 9, 10].contains i) [] (by kernel_rfl) (by kernel_rfl) ?_
   refine xM rfl rfl rfl rfl rfl ?_
   refine ae rfl rfl rfl rfl (cv rfl rfl rfl) ?_
   try dsimp only [St.put]
   refine bc rfl rfl rfl rfl (cg rfl rfl) ?_
   refine xM rfl rfl rfl rfl rfl ?_
   refine ae rfl rfl rfl rfl (kx rfl rfl) ?_
   refine ae rfl rfl rfl rfl (cv rfl rfl rfl) ?_
   try dsimp only [St.put]
   refine bc rfl rfl rfl rfl (c := val p) (jc (cs := j9 p) rfl rfl (show 4 ≤ 7 by decide)) ?_
   refine g7 ?_
   try dsimp only [St.put]
   refine g4 rfl rfl rfl rfl (bd rfl rfl rfl (ou (decide (k = 1)) p) ?_)
   refine dq rfl rfl rfl rfl (bi rfl rfl (List.length_map _)) ?_
   refine dq rfl rfl rfl rfl (bu rfl rfl rfl (by omega)) ?_
   refine dq rfl rfl rfl rfl (fa rfl (by constructor)) ?_
   refine gw ?_
   dsimp only [St.put]
   refine K18 _ ?_
   refine yR ?_
   refine aa rfl (bu rfl rfl rfl (by omega)) ?_
   refine yM rfl rfl ?_
   refine yN ?_
   dsimp only [St.put]
   rw [show ((sdN p k : Nat) : Int) + ((dv p (decide (k = 1))).length : Int) = ((sdN p (k + 1) : Nat) : Int) by rw [xh hk]; omega]
   first
   | (have z : 0 ≤ ec (decide (k = 1)) x := hyes
      rw [decide_eq_true z, cond_true] at hst
      rw [← hst]
      exact ⟨k + 1, by omega, by omega, ⟨⟨rfl, rfl⟩, zF, zB, zN, zX⟩⟩)
   | (have z : ¬ 0 ≤ ec (decide (k = 1)) x := hno
      rw [decide_eq_false z, cond_false, List.append_nil] at hst
      rw [← hst]
      exact ⟨k + 1, by omega, by omega, ⟨⟨rfl, rfl⟩, zF, zB, zN, zX⟩⟩)
  replace hc := of_decide_eq_false hc
  obtain rfl : k = 2 := by omega
  rw [uiv]
  refine wg 8 (lst (du p x)) rfl Wk.tok ?_
  refine cz ?_
  refine K14 _ ?_
  refine yR ?_
  refine aa rfl (bl rfl rfl) ?_
  try dsimp only [St.put]
  refine ci rfl (gg rfl rfl zG trivial (by first | rfl | assumption)) ?_
  refine yM rfl rfl ?_
  try dsimp only [St.put]
  refine af rfl (ca rfl rfl rfl (by decide) (by decide) zR (by decide) ?_)
  try dsimp only [St.put]
  refine af rfl (ce ([du p x]) rfl rfl zG zE rfl rfl zA ?_ zA)
  refine aa rfl (bl rfl rfl) ?_
  try dsimp only [St.put]
  refine af rfl (cd rfl rfl rfl zG (by constructor) rfl zO ?_)
  refine yN ?_
  dsimp only [St.put]
  refine K9 _ ?_
  refine yR ?_
  refine aa rfl (bu rfl rfl rfl (by omega)) ?_
  refine yM rfl rfl ?_
  refine yN ?_
  dsimp only [St.put]
  have e2 := ukt (du p) hx
  simp only [← e2]
  exact ⟨j + 1, by omega, by omega, ⟨⟨rfl, rfl⟩, zF, zB, zN, zX⟩⟩
 replace hc := of_decide_eq_false hc
 obtain rfl : j = p.pages.length := by omega
 rw [List.take_length]
 refine zl (nx + 1) (cj p + 2 * p.pages.length) (cells (gh p (cy p) (dd p))) zG zW ?_
 refine cz ?_
 refine K5 _ ?_
 refine yS fun _ K23 => ?_
 refine fu [(0, none), (1, none), (2, none), (3, none), (4, none), (5, none), (6, none)] (fun i => [5].contains i) (fun i => [3, 5].contains i) (fun i => [1, 4, 6].contains i) [nx + 1] (by kernel_rfl) (by kernel_rfl) ?_
 try dsimp only [St.put]
 refine bc rfl rfl rfl rfl (i5 rfl rfl zG (by simp) (by rfl)) ?_
 refine ae rfl rfl rfl rfl (bl rfl rfl) ?_
 try dsimp only [St.put]
 refine bc rfl rfl rfl rfl (gg rfl rfl zG (by simp) (by first | rfl | assumption)) ?_
 refine g7 ?_
 try dsimp only [St.put]
 refine i9 rfl rfl rfl (bd rfl rfl rfl (wr (bp (cj p) (cy p)) (fun z => decide (z < 0)) _ _ fun z _ => uij z) ⟨zD, ?_⟩)
 refine dq rfl rfl rfl rfl (dw rfl rfl) ?_
 try dsimp only [St.put]
 refine g4 rfl rfl rfl rfl (dj rfl rfl rfl zG rfl rfl (by rfl) ?_)
 refine dq rfl rfl rfl rfl (fa rfl (by constructor)) ?_
 refine gw ?_
 dsimp only [St.put]
 refine K23 _ ?_
 refine ax ?_
 refine ia rfl (jz rfl zG (by rfl) zC rfl) (eg (by constructor)) zN zS ?_ ?_
 ·exact zW
 rw [uk9]; exact zW
theorem uik (m : Nat) (e : Int) (p : ah) : C.low m (bif decide (e = 0) then val (gh p (cy p) (dd p)) else .agg [.list [] .nil, .list [] .nil, .list [] .nil]) := by
 cases decide (e = 0)
 ·exact .agg (cm fh (cm fh (cm fh di)))
 exact el _ _
theorem ubo (n : Nat) (p : ah) (c : C) (e : Int) (h : e = 0 → ef p ∧ c = .elem (j9 p)) : fg n e9 Tryz.prog 41 [c, .v (.int .i64 e)] (.tup [bif decide (fj p e = 0) then val (gh p (cy p) (dd p)) else .agg [.list [] .nil, .list [] .nil, .list [] .nil], .v (.int .i64 (fj p e))]) := fun G nx hF hnx => by
 refine ip (G) (nx) Tryz.func41 rfl (.tup (cm (uik _ _ _) (cm .v di))) zN (fun hlt => zH) ?_
 simp only [Tryz.ntmps41, List.length_cons, List.length_nil, Nat.reduceAdd, Nat.reduceSub]
 refine bx fun hlt => ?_
 dsimp only at hlt
 refine yS fun _ K1 => ?_
 refine yR ?_
 try dsimp only [St.put]
 refine af rfl (ed rfl ?_)
 refine yA rfl rfl ?_
 refine yN ?_
 dsimp only [St.put]
 refine K1 _ ?_
 refine yS fun _ K2 => ?_
 refine yS fun _ K3 => ?_
 refine yR ?_
 refine yM rfl rfl ?_
 refine aa rfl (fk rfl rfl rfl) ?_
 refine yN ?_
 dsimp only [St.put]
 refine K3 _ ?_
 refine aq rfl (fun hc => ?_) (fun hc => ?_)
 ·have h0 : e ≠ 0 := jq hc
  have hE : fj p e = e := uc0 h0
  refine yS fun _ K4 => ?_
  refine yR ?_
  refine aa rfl (ij rfl rfl) ?_
  refine yM rfl rfl ?_
  try dsimp only [St.put]
  refine af rfl (dj rfl rfl rfl zG rfl rfl (by rfl) ?_)
  refine yA rfl rfl ?_
  refine yN ?_
  dsimp only [St.put]
  refine K4 _ ?_
  refine ax ?_
  refine ia rfl (jz rfl zG (by rfl) zC rfl) (eg (by constructor)) zN zS ?_ ?_
  ·rw [hE, decide_eq_false h0]; exact zW
  rw [hE]; exact zW
 have h0 : e = 0 := ii hc
 obtain ⟨hok, rfl⟩ := h h0
 subst h0
 refine ay ?_
 refine K2 _ ?_
 refine yS fun _ K5 => ?_
 refine yR ?_
 refine yM rfl rfl ?_
 try dsimp only [St.put]
 refine af rfl (ei rfl rfl rfl (ujl n p hok) zG (by dsimp only [St.put]; omega) ?_)
 refine yM rfl rfl ?_
 refine yX rfl rfl rfl rfl ?_
 refine yX rfl rfl rfl rfl ?_
 try dsimp only [St.put]
 refine af rfl (ed rfl ?_)
 try dsimp only [St.put]
 refine af rfl (dj rfl rfl rfl zG rfl rfl (by rfl) ?_)
 refine yA rfl rfl ?_
 refine yN ?_
 dsimp only [St.put]
 refine K5 _ ?_
 refine yS fun _ K6 => ?_
 refine yS fun _ K7 => ?_
 refine yR ?_
 refine yM rfl rfl ?_
 refine aa rfl (dw rfl rfl) ?_
 refine yN ?_
 dsimp only [St.put]
 refine K7 _ ?_
 refine aq rfl (fun hc => ?_) (fun hc => ?_)
 ·have hTB : ie p = false := by simpa using hc
  have hE : fj p 0 = 8 := by rw [qs, hTB]; rfl
  refine yS fun _ K8 => ?_
  refine yR ?_
  refine aa rfl (ij rfl rfl) ?_
  try dsimp only [St.put]
  refine af rfl (dj rfl rfl rfl zG rfl rfl (by rfl) ?_)
  refine yA rfl rfl ?_
  refine yN ?_
  dsimp only [St.put]
  refine K8 _ ?_
  refine ax ?_
  refine ia rfl (jz rfl zG (by rfl) zC rfl) (eg (by constructor)) zN zS ?_ ?_
  ·rw [hE]; exact zW
  rw [hE]; exact zW
 have hTB : ie p = true := by simpa using hc
 have hE : fj p 0 = 0 := by rw [qs, hTB]; rfl
 refine ay ?_
 refine K6 _ ?_
 refine yS fun _ K9 => ?_
 refine yR ?_
 try dsimp only [St.put]
 refine ci rfl (i5 rfl rfl zG trivial (by rfl)) ?_
 try dsimp only [St.put]
 refine af rfl (dj rfl rfl rfl zG rfl rfl (by rfl) ?_)
 refine yA rfl rfl ?_
 refine yN ?_
 dsimp only [St.put]
 refine K9 _ ?_
 refine ax ?_
 refine ia rfl (jz rfl zG (by rfl) zC rfl) (eg (by constructor)) zN zS ?_ ?_
 ·rw [hE]; exact zW
 rw [hE]; exact zW
end Go.Proofs.YtbbdginipiljdaaGreatDoor
namespace Go.AB
open Go Go.RowKit
open Go.AB.Enc (cells)
open Go.PB (ba ai PlaceD bh bk bj bw ar ah cw bv dc dg)
/-- what may remain ahead of a page, by the worst truth -/
noncomputable def rmR (p : ah) (i : Nat) : Nat → Int := ((bt p).room (cy p) (dd p) i).1
noncomputable def rmC (p : ah) (i : Nat) : Nat → Int := ((bt p).room (cy p) (dd p) i).2
theorem uih (p : ah) (i : Nat) : rmR p (i + 1) = (bt p).lessR (rmR p i) i (fw p i) := rfl
theorem uii (p : ah) (i : Nat) : rmC p (i + 1) = d7 (rmC p i) i := rfl
theorem zy {p : ah} (h : ef p) (ht : ie p = true) {i : Nat} (hi : i < p.pages.length) : (bt p).Pick (rmR p i) (rmC p i) i ((bt p).pick (rmR p i) (rmC p i) i) :=
 Net.worst_pick (qm h) (qc ht) (fun j _ => p3 h j) hi
theorem zz (p : ah) (i : Nat) : fw p i = (bt p).pick (rmR p i) (rmC p i) i := rfl
theorem ua5 {p : ah} (h : ef p) (ht : ie p = true) : ∀ {i : Nat}, i ≤ p.pages.length → Bd p (rmR p i) (rmC p i)
 | 0, _ => tm h
 | i + 1, hi => by
  have hp := zy h ht (i := i) (by omega)
  rw [uih, uii, zz]
  exact zk (ua5 h ht (by omega)) hp.nn hp.le
theorem unu {p : ah} {R C : Nat → Int} (hB : Bd p R C) (j : Nat) : (bt p).alone R C j ≤ 1000000 := Int.le_trans (Net.le_alone.1 (Int.le_refl _)).1 (hB.c j).2
end Go.AB
namespace Go.Proofs.YtbbdginipiljdaaGreatDoor
set_option maxRecDepth 10000
open Go.RowKit Go.AB
open Go.AB.Enc (cells)
open Go.PB (ba ai PlaceD bh bk bj bw ar ah cw bv dc dg)
end Go.Proofs.YtbbdginipiljdaaGreatDoor
namespace Go.AB
open Go Go.RowKit
open Go.AB.Enc (cells)
open Go.PB (ba ai PlaceD bh bk bj bw ar ah cw bv dc dg)
theorem qt {p : ah} {e : Int} (h : fj p e = 0) : e = 0 ∧ ie p = true := by
 by_cases h0 : e = 0
 ·subst h0
  rw [qs] at h
  cases ht : ie p
  ·rw [ht] at h; cases h
  exact ⟨rfl, rfl⟩
 rw [uc0 h0] at h; exact absurd h h0
end Go.AB
namespace Go.Proofs.YtbbdginipiljdaaGreatDoor
set_option maxRecDepth 10000
open Go Go.RowKit Go.AB
open Go.AB.Enc (cells)
open Go.PB (ba ai PlaceD bh bk bj bw ar ah cw bv dc dg)
theorem ue3 {p : ah} {n : Int} (h : em p n = 0) : ef p ∧ pgC p n = .elem (j9 p) := ⟨(lu (p6 h).1).1, r5 h⟩
theorem pa {p : ah} (h : cx p = 0) : ef p ∧ jp p = .elem (j9 p) := ⟨(lu h).1, ux h⟩
theorem r7 (n : Nat) (p : ah) (c : C) (e : Int) (h : e = 0 → ef p ∧ c = .elem (j9 p)) (hE : fj p e = 0) : fg n e9 Tryz.prog 41 [c, .v (.int .i64 e)] (.tup [val (gh p (cy p) (dd p)), .v (.int .i64 0)]) := by
 have := ubo n p c e h
 rwa [hE, decide_eq_true rfl, cond_true] at this
theorem r8 (n : Nat) (p : ah) (c : C) (e : Int) (h : e = 0 → ef p ∧ c = .elem (j9 p)) (hE : fj p e ≠ 0) : fg n e9 Tryz.prog 41 [c, .v (.int .i64 e)] (.tup [.agg [.list [] .nil, .list [] .nil, .list [] .nil], .v (.int .i64 (fj p e))]) := by
 have := ubo n p c e h
 rwa [decide_eq_false hE, cond_false] at this
theorem ubp (n : Nat) (p : ah) (m : Int) : fg n e9 Tryz.prog 11 [val p, .v (.int .i64 m)] (.tup [val (nm p m), .v (.int .i64 (fj p (em p m)))]) := fun G nx hF hnx => by
 refine ip (G) (nx) Tryz.func11 rfl (.tup (cm (el _ _) (cm .v di))) zN (fun hlt => zH) ?_
 simp only [Tryz.ntmps11, List.length_cons, List.length_nil, Nat.reduceAdd, Nat.reduceSub]
 refine bx fun hlt => ?_
 dsimp only at hlt
 refine yS fun _ K1 => ?_
 refine yR ?_
 try dsimp only [St.put]
 refine yB rfl rfl rfl ?_
 try dsimp only [St.put]
 refine af rfl (ed rfl ?_)
 refine yA rfl rfl ?_
 refine yN ?_
 dsimp only [St.put]
 refine K1 _ ?_
 refine yS fun _ K2 => ?_
 by_cases hL : fj p (em p m) = 0
 ·refine yR ?_
  refine yE rfl rfl rfl ?_
  refine yM rfl rfl ?_
  try dsimp only [St.put]
  refine af rfl (ei rfl rfl rfl (qj n p m) zG (by dsimp only [St.put]; omega) ?_)
  refine yX rfl rfl rfl rfl ?_
  refine yX rfl rfl rfl rfl ?_
  try dsimp only [St.put]
  refine af rfl (ei rfl rfl rfl (r7 n p (pgC p m) (em p m) ue3 hL) zG (by dsimp only [St.put]; omega) ?_)
  refine yM rfl rfl ?_
  refine yX rfl rfl rfl rfl ?_
  refine yX rfl rfl rfl rfl ?_
  try dsimp only [St.put]
  refine af rfl (ed rfl ?_)
  try dsimp only [St.put]
  refine af rfl (dj rfl rfl rfl zG rfl rfl (by rfl) ?_)
  refine yA rfl rfl ?_
  refine yN ?_
  dsimp only [St.put]
  refine K2 _ ?_
  refine yS fun _ K3 => ?_
  refine yS fun _ K4 => ?_
  refine yR ?_
  refine yM rfl rfl ?_
  refine aa rfl (fk rfl rfl rfl) ?_
  refine yN ?_
  dsimp only [St.put]
  refine K4 _ ?_
  refine aq rfl (fun hc => ?_) (fun hc => ?_)
  ·exact absurd hc (by decide)
  obtain ⟨h0, hTB⟩ := qt hL
  obtain ⟨hc0, j, x, rfl, hx, hpo⟩ := p6 h0
  obtain ⟨hok, _⟩ := lu hc0
  have hV : nm p (j : Int) = ⟨0, (bt p).alone (cy p) (dd p) j⟩ := by unfold nm; rw [hL, pf, Int.toNat_natCast]
  refine ay ?_
  refine K3 _ ?_
  refine yS fun _ K5 => ?_
  refine yR ?_
  try dsimp only [St.put]
  refine ci rfl (i5 rfl rfl zG trivial (by rfl)) ?_
  refine yM rfl rfl ?_
  try dsimp only [St.put]
  refine af rfl (bd rfl rfl rfl (ubr p (cy p) (dd p) j x hok hx) ?_)
  refine aa rfl (ij rfl rfl) ?_
  try dsimp only [St.put]
  refine af rfl (dj rfl rfl rfl zG rfl rfl (by rfl) ?_)
  refine yA rfl rfl ?_
  refine yN ?_
  dsimp only [St.put]
  refine K5 _ ?_
  refine ax ?_
  refine ia rfl (jz rfl zG (by rfl) zC rfl) (eg (by constructor)) zN zS ?_ ?_
  ·rw [hV]; exact zW
  rw [hL]; exact zW
 refine yR ?_
 refine yE rfl rfl rfl ?_
 refine yM rfl rfl ?_
 try dsimp only [St.put]
 refine af rfl (ei rfl rfl rfl (qj n p m) zG (by dsimp only [St.put]; omega) ?_)
 refine yX rfl rfl rfl rfl ?_
 refine yX rfl rfl rfl rfl ?_
 try dsimp only [St.put]
 refine af rfl (ei rfl rfl rfl (r8 n p (pgC p m) (em p m) ue3 hL) zG (by dsimp only [St.put]; omega) ?_)
 refine yM rfl rfl ?_
 refine yX rfl rfl rfl rfl ?_
 refine yX rfl rfl rfl rfl ?_
 try dsimp only [St.put]
 refine af rfl (ed rfl ?_)
 try dsimp only [St.put]
 refine af rfl (dj rfl rfl rfl zG rfl rfl (by rfl) ?_)
 refine yA rfl rfl ?_
 refine yN ?_
 dsimp only [St.put]
 refine K2 _ ?_
 refine yS fun _ K6 => ?_
 refine yS fun _ K7 => ?_
 refine yR ?_
 refine yM rfl rfl ?_
 refine aa rfl (fk rfl rfl rfl) ?_
 refine yN ?_
 dsimp only [St.put]
 refine K7 _ ?_
 refine aq rfl (fun hc => ?_) (fun hc => ?_)
 ·have hV : nm p m = ⟨0, 0⟩ := by unfold nm; rw [lf hL]
  refine yS fun _ K8 => ?_
  refine yR ?_
  refine aa rfl (ij rfl rfl) ?_
  refine yM rfl rfl ?_
  try dsimp only [St.put]
  refine af rfl (dj rfl rfl rfl zG rfl rfl (by rfl) ?_)
  refine yA rfl rfl ?_
  refine yN ?_
  dsimp only [St.put]
  refine K8 _ ?_
  refine ax ?_
  refine ia rfl (jz rfl zG (by rfl) zC rfl) (eg (by constructor)) zN zS ?_ ?_
  ·rw [hV]; exact zW
  exact zW
 exact absurd (ii hc) hL
theorem uji (n : Nat) (p : ah) : fg n e9 Tryz.prog 13 [val p] (.tup [val (qd p), .v (.int .i64 (fj p (cx p)))]) := fun G nx hF hnx => by
 refine ip (G) (nx) Tryz.func13 rfl (.tup (cm (el _ _) (cm .v di))) zN (fun hlt => zH) ?_
 simp only [Tryz.ntmps13, List.length_cons, List.length_nil, Nat.reduceAdd, Nat.reduceSub]
 refine bx fun hlt => ?_
 dsimp only at hlt
 refine yS fun _ K1 => ?_
 refine yR ?_
 try dsimp only [St.put]
 refine yB rfl rfl rfl ?_
 try dsimp only [St.put]
 refine af rfl (ed rfl ?_)
 refine yA rfl rfl ?_
 refine yN ?_
 dsimp only [St.put]
 refine K1 _ ?_
 refine yS fun _ K2 => ?_
 by_cases hL : fj p (cx p) = 0
 ·refine yR ?_
  refine yE rfl rfl rfl ?_
  try dsimp only [St.put]
  refine af rfl (ei rfl rfl rfl (nt n p) zG (by dsimp only [St.put]; omega) ?_)
  refine yX rfl rfl rfl rfl ?_
  refine yX rfl rfl rfl rfl ?_
  try dsimp only [St.put]
  refine af rfl (ei rfl rfl rfl (r7 n p (jp p) (cx p) pa hL) zG (by dsimp only [St.put]; omega) ?_)
  refine yM rfl rfl ?_
  refine yX rfl rfl rfl rfl ?_
  refine yX rfl rfl rfl rfl ?_
  try dsimp only [St.put]
  refine af rfl (ed rfl ?_)
  try dsimp only [St.put]
  refine af rfl (dj rfl rfl rfl zG rfl rfl (by rfl) ?_)
  refine yA rfl rfl ?_
  refine yN ?_
  dsimp only [St.put]
  refine K2 _ ?_
  refine yS fun _ K3 => ?_
  refine yS fun _ K4 => ?_
  refine yR ?_
  refine yM rfl rfl ?_
  refine aa rfl (fk rfl rfl rfl) ?_
  refine yN ?_
  dsimp only [St.put]
  refine K4 _ ?_
  refine aq rfl (fun hc => ?_) (fun hc => ?_)
  ·exact absurd hc (by decide)
  obtain ⟨h0, hTB⟩ := qt hL
  obtain ⟨hok, _⟩ := lu h0
  have hV : qd p = ⟨0, (bt p).most (cy p) (dd p)⟩ := by unfold qd; rw [hL, pf]; rfl
  refine ay ?_
  refine K3 _ ?_
  refine yS fun _ K5 => ?_
  refine yR ?_
  try dsimp only [St.put]
  refine ci rfl (i5 rfl rfl zG trivial (by rfl)) ?_
  try dsimp only [St.put]
  refine af rfl (bd rfl rfl rfl (r9 p (cy p) (dd p) hok (tm hok)) ?_)
  refine aa rfl (ij rfl rfl) ?_
  try dsimp only [St.put]
  refine af rfl (dj rfl rfl rfl zG rfl rfl (by rfl) ?_)
  refine yA rfl rfl ?_
  refine yN ?_
  dsimp only [St.put]
  refine K5 _ ?_
  refine ax ?_
  refine ia rfl (jz rfl zG (by rfl) zC rfl) (eg (by constructor)) zN zS ?_ ?_
  ·rw [hV]; exact zW
  rw [hL]; exact zW
 refine yR ?_
 refine yE rfl rfl rfl ?_
 try dsimp only [St.put]
 refine af rfl (ei rfl rfl rfl (nt n p) zG (by dsimp only [St.put]; omega) ?_)
 refine yX rfl rfl rfl rfl ?_
 refine yX rfl rfl rfl rfl ?_
 try dsimp only [St.put]
 refine af rfl (ei rfl rfl rfl (r8 n p (jp p) (cx p) pa hL) zG (by dsimp only [St.put]; omega) ?_)
 refine yM rfl rfl ?_
 refine yX rfl rfl rfl rfl ?_
 refine yX rfl rfl rfl rfl ?_
 try dsimp only [St.put]
 refine af rfl (ed rfl ?_)
 try dsimp only [St.put]
 refine af rfl (dj rfl rfl rfl zG rfl rfl (by rfl) ?_)
 refine yA rfl rfl ?_
 refine yN ?_
 dsimp only [St.put]
 refine K2 _ ?_
 refine yS fun _ K6 => ?_
 refine yS fun _ K7 => ?_
 refine yR ?_
 refine yM rfl rfl ?_
 refine aa rfl (fk rfl rfl rfl) ?_
 refine yN ?_
 dsimp only [St.put]
 refine K7 _ ?_
 refine aq rfl (fun hc => ?_) (fun hc => ?_)
 ·have hV : qd p = ⟨0, 0⟩ := by unfold qd; rw [lf hL]
  refine yS fun _ K8 => ?_
  refine yR ?_
  refine aa rfl (ij rfl rfl) ?_
  refine yM rfl rfl ?_
  try dsimp only [St.put]
  refine af rfl (dj rfl rfl rfl zG rfl rfl (by rfl) ?_)
  refine yA rfl rfl ?_
  refine yN ?_
  dsimp only [St.put]
  refine K8 _ ?_
  refine ax ?_
  refine ia rfl (jz rfl zG (by rfl) zC rfl) (eg (by constructor)) zN zS ?_ ?_
  ·rw [hV]; exact zW
  exact zW
 exact absurd (ii hc) hL
set_option maxHeartbeats 1000000 in
theorem xu (n0 : Nat) (p : ah) : fg n0 e9 Tryz.prog 15 [val p] (.tup [lst (ne p), .v (.int .i64 (fj p (cx p)))]) := fun G nx hF hnx => by
 refine ip (G) (nx) Tryz.func15 rfl (.tup (cm (b9 _ _) (cm .v di))) zN (fun hlt => zH) ?_
 simp only [Tryz.ntmps15, List.length_cons, List.length_nil, Nat.reduceAdd, Nat.reduceSub]
 refine bx fun hlt => ?_
 dsimp only at hlt
 refine yS fun _ K1 => ?_
 refine yR ?_
 try dsimp only [St.put]
 refine yB rfl rfl rfl ?_
 refine yA rfl rfl ?_
 refine yA rfl rfl ?_
 refine yN ?_
 dsimp only [St.put]
 refine K1 _ ?_
 refine yS fun _ K2 => ?_
 by_cases hL : fj p (cx p) = 0
 ·refine yR ?_
  refine yE rfl rfl rfl ?_
  try dsimp only [St.put]
  refine af rfl (ei rfl rfl rfl (nt n0 p) zG (by dsimp only [St.put]; omega) ?_)
  refine yX rfl rfl rfl rfl ?_
  refine yX rfl rfl rfl rfl ?_
  try dsimp only [St.put]
  refine af rfl (ei rfl rfl rfl (r7 n0 p (jp p) (cx p) pa hL) zG (by dsimp only [St.put]; omega) ?_)
  refine yM rfl rfl ?_
  refine yX rfl rfl rfl rfl ?_
  refine yX rfl rfl rfl rfl ?_
  try dsimp only [St.put]
  refine af rfl (ed rfl ?_)
  try dsimp only [St.put]
  refine af rfl (dj rfl rfl rfl zG rfl rfl (by rfl) ?_)
  refine yA rfl rfl ?_
  refine yN ?_
  dsimp only [St.put]
  refine K2 _ ?_
  refine yS fun _ K3 => ?_
  refine yS fun _ K4 => ?_
  refine yR ?_
  refine yM rfl rfl ?_
  refine aa rfl (fk rfl rfl rfl) ?_
  refine yN ?_
  dsimp only [St.put]
  refine K4 _ ?_
  refine aq rfl (fun hc => ?_) (fun hc => ?_)
  ·exact absurd hc (by decide)
  obtain ⟨h0, hTB⟩ := qt hL
  obtain ⟨hok, _⟩ := lu h0
  have hnp := hok.np
  have hV : ne p = bp p.pages.length (fw p) := by unfold ne; rw [hL, pf]
  refine ay ?_
  refine K3 _ ?_
  refine yS fun _ K5 => ?_
  refine yR ?_
  refine yA rfl rfl ?_
  refine yN ?_
  dsimp only [St.put]
  refine K5 _ ?_
  refine na 6 3 1 rfl (by decide) ?_
  dsimp only [List.set_cons_zero, List.set_cons_succ]
  refine yS fun _ K6 => ?_
  refine yS fun _ K7 => ?_
  refine yR ?_
  refine yF rfl rfl rfl rfl ?_
  refine yL rfl rfl rfl ?_
  refine aa rfl (bi rfl rfl (List.length_map _)) ?_
  refine yM rfl rfl ?_
  refine yN ?_
  dsimp only [St.put]
  refine K7 _ ?_
  refine bf ?_
  refine co 25 ?_
  refine zQ ?_
  refine c7 ((am (am G nx (.box (0 + 1) (cells (gh p (rmR p 0) (rmC p 0))))) (nx + 1) (.tip (bp 0 (fw p)).length 3 1))) zX ?_
  dsimp only
  refine c6 (X := Nat) (fun i => i ≤ p.pages.length) (fun i => p.pages.length - i) (fun i => [(6, .list ((bp i (fw p)).map cells) (.tip (nx + 1))), (7, .any), (8, .any), (9, .any), (24, .v (.int .i64 (i : Int)))]) (fun i G' => (am (am G nx (.box (i + 1) (cells (gh p (rmR p i) (rmC p i))))) (nx + 1) (.tip (bp i (fw p)).length 3 1))) 0 rfl ?_ ?_ ?_ ?_ ?_ ?_
  ·exact Nat.zero_le _
  ·exact zF
  ·exact zX
  ·rintro i hI
   exact zL
  ·rintro i hI
   exact zH
  rintro i hI
  dsimp only at hI ⊢
  refine yS fun _ K8 => ?_
  refine yR ?_
  refine aa rfl (cn rfl rfl rfl) ?_
  refine yN ?_
  dsimp only [St.put]
  refine K8 _ ?_
  refine yS fun _ K9 => ?_
  refine aq rfl (fun hc => ?_) (fun hc => ?_)
  ·replace hc := of_decide_eq_true hc
   have hi : i < p.pages.length := by omega
   obtain ⟨x, hx⟩ : ∃ x, p.pages[i]? = some x := da hi
   have hB := ua5 hok hTB (Nat.le_of_lt hi)
   have hP := zy hok hTB hi
   have hab := unu hB i
   have hmb := ucg hB
   have hln := g6 i (fw p)
   have hPn := hP.nn
   refine ay ?_
   refine K9 _ ?_
   refine yS fun _ K10 => ?_
   refine bf ?_
   refine yS fun _ K11 => ?_
   refine yR ?_
   refine yM rfl rfl ?_
   refine yA rfl rfl ?_
   refine yN ?_
   dsimp only [St.put]
   refine K11 _ ?_
   refine yS fun _ K12 => ?_
   refine fu [(0, none), (2, none), (3, none), (1, none), (4, none), (5, none), (6, none)] (fun i => [4].contains i) (fun i => [1, 4].contains i) (fun i => [3, 5, 6].contains i) [nx] (by kernel_rfl) (by kernel_rfl) ?_
   try dsimp only [St.put]
   refine bc rfl rfl rfl rfl (i5 rfl rfl zG (by simp) (by rfl)) ?_
   try dsimp only [St.put]
   refine bc rfl rfl rfl rfl (i5 rfl rfl zG (by simp) (by rfl)) ?_
   refine xM rfl rfl rfl rfl rfl ?_
   refine g7 ?_
   try dsimp only [St.put]
   refine i9 rfl rfl rfl (bd rfl rfl rfl (r9 p _ _ hok hB) ⟨zD, ?_⟩)
   try dsimp only [St.put]
   refine g4 rfl rfl rfl rfl (bd rfl rfl rfl (ubr p (rmR p i) (rmC p i) i x hok hx) ?_)
   refine dq rfl rfl rfl rfl (fa rfl (by constructor)) ?_
   refine dq rfl rfl rfl rfl (fa rfl (by constructor)) ?_
   refine gw ?_
   dsimp only [St.put]
   refine K12 _ ?_
   refine yS fun _ K13 => ?_
   refine bf ?_
   refine co 25 ?_
   refine zQ ?_
   refine c6 (X := Int) (fun n => FromTop p (rmR p i) (rmC p i) i n) (fun n => n.toNat) (fun n => [(9, .v (.int .i64 n))]) (fun n G' => G') ((bt p).alone (rmR p i) (rmC p i) i) rfl ?_ ?_ (fun _ _ h => h) ?_ ?_ ?_
   ·exact FromTop.start hP
   ·exact zF
   ·rintro n hI
    exact zL
   ·exact fun _ _ _ _ h => .inl h
   rintro n hF2
   dsimp only at hF2 ⊢
   have hF1 := hF2.1
   have hF3 := hF2.2.1
   have hBl := zk hB (by omega) hF2.2.1
   have hmb2 := ucg hBl
   refine yS fun _ K14 => ?_
   refine yS fun _ K15 => ?_
   refine yR ?_
   refine yM rfl rfl ?_
   try dsimp only [St.put]
   refine ci rfl (i5 rfl rfl zG trivial (by rfl)) ?_
   refine yM rfl rfl ?_
   refine yM rfl rfl ?_
   try dsimp only [St.put]
   refine af rfl (bd rfl rfl rfl (xv p (rmR p i) (rmC p i) i x n hok hx (by have := hF2.1; have := hF2.2.1; omega) hB.r) ?_)
   try dsimp only [St.put]
   refine af rfl (bd rfl rfl rfl (r9 p _ _ hok (zk hB (by have := hF2.1; omega) hF2.2.1)) ?_)
   refine aa rfl (bu rfl rfl rfl (by omega)) ?_
   refine yM rfl rfl ?_
   refine aa rfl (cn rfl rfl rfl) ?_
   refine yN ?_
   dsimp only [St.put]
   refine K15 _ ?_
   refine aq rfl (fun hc => ?_) (fun hc => ?_)
   ·replace hc := of_decide_eq_true hc
    have hnot : ¬ (bt p).most (rmR p i) (rmC p i) ≤ n + (bt p).most ((bt p).lessR (rmR p i) i n) (d7 (rmC p i) i) := by omega
    refine ay ?_
    refine K14 _ ?_
    refine bf ?_
    refine yR ?_
    refine yM rfl rfl ?_
    refine aa rfl (f4 rfl rfl rfl (by omega)) ?_
    refine yA rfl rfl ?_
    refine yN ?_
    dsimp only [St.put]
    have hd := FromTop.down hP hF2 hnot
    have hd1 := hd.1
    exact ⟨n - 1, by omega, hd, ⟨⟨rfl, rfl⟩, zF, zB, zN, zX⟩⟩
   replace hc := of_decide_eq_false hc
   have hnw := FromTop.stop hP hF2 (by omega)
   rw [← zz] at hnw
   subst hnw
   refine cz ?_
   refine K13 _ ?_
   refine yS fun _ K16 => ?_
   refine yR ?_
   try dsimp only [St.put]
   refine ci rfl (i5 rfl rfl zG trivial (by rfl)) ?_
   refine yM rfl rfl ?_
   refine yM rfl rfl ?_
   try dsimp only [St.put]
   refine af rfl (bd rfl rfl rfl (xv p (rmR p i) (rmC p i) i x (fw p i) hok hx (by have := hF2.1; have := hF2.2.1; omega) hB.r) ?_)
   try dsimp only [St.put]
   refine af rfl (dj rfl rfl rfl zG rfl rfl (by rfl) ?_)
   refine yN ?_
   dsimp only [St.put]
   refine K16 _ ?_
   refine yR ?_
   refine yM rfl rfl ?_
   refine yM rfl rfl ?_
   try dsimp only [St.put]
   refine af rfl (ca rfl rfl rfl (by decide) (by decide) zR (by decide) ?_)
   try dsimp only [St.put]
   refine af rfl (ce ([fw p i]) rfl rfl zG zE rfl rfl zA ?_ zA)
   refine yA rfl rfl ?_
   refine yN ?_
   dsimp only [St.put]
   refine K10 _ ?_
   refine yR ?_
   refine aa rfl (bu rfl rfl rfl (by omega)) ?_
   refine yM rfl rfl ?_
   refine yN ?_
   dsimp only [St.put]
   have e := rp i (fw p)
   rw [← e]
   exact ⟨i + 1, by omega, by omega, ⟨⟨rfl, rfl⟩, zF, zB, zN, zX⟩⟩
  replace hc := of_decide_eq_false hc
  obtain rfl : i = p.pages.length := by omega
  refine cz ?_
  refine K6 _ ?_
  refine yS fun _ K17 => ?_
  refine yR ?_
  refine yM rfl rfl ?_
  refine yA rfl rfl ?_
  refine yA rfl rfl ?_
  refine yN ?_
  dsimp only [St.put]
  refine K17 _ ?_
  refine ax ?_
  refine ia rfl (eg (by constructor)) (eg (by constructor)) zN zS ?_ ?_
  ·rw [hV]; exact zW
  rw [hL]; exact zW
 refine yR ?_
 refine yE rfl rfl rfl ?_
 try dsimp only [St.put]
 refine af rfl (ei rfl rfl rfl (nt n0 p) zG (by dsimp only [St.put]; omega) ?_)
 refine yX rfl rfl rfl rfl ?_
 refine yX rfl rfl rfl rfl ?_
 try dsimp only [St.put]
 refine af rfl (ei rfl rfl rfl (r8 n0 p (jp p) (cx p) pa hL) zG (by dsimp only [St.put]; omega) ?_)
 refine yM rfl rfl ?_
 refine yX rfl rfl rfl rfl ?_
 refine yX rfl rfl rfl rfl ?_
 try dsimp only [St.put]
 refine af rfl (ed rfl ?_)
 try dsimp only [St.put]
 refine af rfl (dj rfl rfl rfl zG rfl rfl (by rfl) ?_)
 refine yA rfl rfl ?_
 refine yN ?_
 dsimp only [St.put]
 refine K2 _ ?_
 refine yS fun _ K18 => ?_
 refine yS fun _ K19 => ?_
 refine yR ?_
 refine yM rfl rfl ?_
 refine aa rfl (fk rfl rfl rfl) ?_
 refine yN ?_
 dsimp only [St.put]
 refine K19 _ ?_
 refine aq rfl (fun hc => ?_) (fun hc => ?_)
 ·have hV : ne p = [] := by unfold ne; rw [lf hL]
  refine yS fun _ K20 => ?_
  refine yR ?_
  refine yM rfl rfl ?_
  refine yA rfl rfl ?_
  refine yA rfl rfl ?_
  refine yN ?_
  dsimp only [St.put]
  refine K20 _ ?_
  refine ax ?_
  refine ia rfl (eg (by constructor)) (eg (by constructor)) zN zS ?_ ?_
  ·rw [hV]; exact zW
  exact zW
 exact absurd (ii hc) hL
end Go.Proofs.YtbbdginipiljdaaGreatDoor
namespace Go.Proofs.YtbbdginipiljdaaGreatDoor
set_option maxRecDepth 10000
open Go Go.RowKit Go.AB
open Go.AB.Enc (cells)
open Go.PB (ba ai PlaceD bh bk bj bw ar ah cw bv dc dg)
set_option maxHeartbeats 1000000 in
theorem uhz (nF : Nat) (n : Nat) (hb : n ≤ 8) : wo nF e9 Tryz.prog 89 [.elem [.v (.int .i64 (n : Int))]] (2 ^ n) (fun s => [.v (.int .i64 (s : Int)), lst (e8 n s)]) := by
 refine uc7 Tryz.func89 rfl rfl fun I hN hcl ok hG hn => ?_
 simp only [Tryz.ntmps89, List.length_cons, List.length_nil, Nat.reduceAdd, Nat.reduceSub]
 have h256 : 2 ^ n ≤ 2 ^ 8 := Nat.pow_le_pow_right (by omega) hb
 refine kf 2 ?_
 refine zQ ?_
 refine o6 ?_
 dsimp only [FC.st]
 refine bx fun hlt => ?_
 dsimp only at hlt
 refine i1 ?_
 try dsimp only [St.put]
 first | refine ci rfl (cg rfl rfl) ?_ | refine ci rfl (eh rfl rfl (Enc.len _)) ?_ | refine ci rfl (eh rfl rfl rfl) ?_ | refine ci rfl (gg rfl rfl zG trivial (by first | rfl | assumption)) ?_ | refine ci rfl (i5 rfl rfl zG trivial (by rfl)) ?_ | refine ci rfl (pk rfl rfl zG trivial (by simp)) ?_ | refine ci rfl (jh rfl rfl zG trivial (py (by assumption) rfl)) ?_ | refine ci rfl (jh rfl rfl zG trivial (by assumption)) ?_ | refine ci rfl (qg rfl rfl zG trivial rfl (by assumption) rfl (by decide)) ?_ | refine ci rfl (mq rfl rfl zG (by rfl)) ?_
 refine aa rfl (uca (n := n) rfl rfl rfl (by omega)) ?_
 refine aa rfl (gy rfl (by constructor)) ?_
 refine i2 ?_
 dsimp only [St.put]
 show jy _ _ _ _ _ _ _
 refine o7 ok rfl ⟨rfl, rfl, zK, zN, zS, zK⟩ ?_
 refine qw ?_
 refine kf 9 ?_
 refine zQ ?_
 refine yx (X := Nat) (fun s => s ≤ 2 ^ n) (fun s => 2 ^ n - s) (fun s => [(3, .any), (4, .any), (5, .any), (8, .v (.int .i64 (s : Int)))]) (fun s => s) 0 rfl ?_ ?_ ?_ ?_ ?_
 ·exact Nat.zero_le _
 ·exact zF
 ·rfl
 ·rintro s hI
  exact zL
 ·rintro s hI
  dsimp only at hI ⊢
  refine kf 9 ?_
  refine zQ ?_
  refine o6 ?_
  dsimp only [FC.st]
  refine bx fun hlt => ?_
  dsimp only at hlt
  refine i1 ?_
  refine aa rfl (cn rfl rfl rfl) ?_
  refine i2 ?_
  dsimp only [St.put]
  show jy _ _ _ _ _ _ _
  refine o7 ok rfl ⟨rfl, rfl, zK, zN, zS, zK⟩ ?_
  refine o5 fun K1 hK1 => ?_
  refine s9 rfl (fun hc => ?_) (fun hc => ?_)
  ·replace hc := of_decide_eq_true hc
   have hs : s < 2 ^ n := by omega
   refine s7 ?_
   refine hK1 _ _ ?_
   refine o5 fun K2 hK2 => ?_
   refine qw ?_
   refine kf 9 ?_
   refine zQ ?_
   refine o6 ?_
   dsimp only [FC.st]
   refine bx fun hlt => ?_
   dsimp only at hlt
   refine i1 ?_
   refine aa rfl (gy rfl (by constructor)) ?_
   refine aa rfl (fa rfl (by constructor)) ?_
   refine i2 ?_
   dsimp only [St.put]
   show jy _ _ _ _ _ _ _
   refine vv ?_
   refine i1 ?_
   refine aa rfl (fa rfl (by constructor)) ?_
   refine i2 ?_
   dsimp only [St.put]
   show jy _ _ _ _ _ _ _
   refine vv ?_
   refine na 4 3 1 rfl (by decide) ?_
   dsimp only [List.set_cons_zero, List.set_cons_succ]
   refine p5 fun K3 hK3 => ?_
   refine i1 ?_
   try dsimp only [St.put]
   first | refine ci rfl (cg rfl rfl) ?_ | refine ci rfl (eh rfl rfl (Enc.len _)) ?_ | refine ci rfl (eh rfl rfl rfl) ?_ | refine ci rfl (gg rfl rfl zG trivial (by first | rfl | assumption)) ?_ | refine ci rfl (i5 rfl rfl zG trivial (by rfl)) ?_ | refine ci rfl (pk rfl rfl zG trivial (by simp)) ?_ | refine ci rfl (jh rfl rfl zG trivial (py (by assumption) rfl)) ?_ | refine ci rfl (jh rfl rfl zG trivial (by assumption)) ?_ | refine ci rfl (qg rfl rfl zG trivial rfl (by assumption) rfl (by decide)) ?_ | refine ci rfl (mq rfl rfl zG (by rfl)) ?_
   refine aa rfl (gy rfl (by constructor)) ?_
   refine i2 ?_
   dsimp only [St.put]
   refine hK3 _ ?_
   refine bf ?_
   refine co 13 ?_
   refine zQ ?_
   refine c7 ((am (I.G s) I.nx (.tip (e8 0 s).length 3 1))) zX ?_
   dsimp only
   refine c6 (X := Nat) (fun k => k ≤ n) (fun k => n - k) (fun k => [(4, .list ((e8 k s).map cells) (.tip I.nx)), (5, .any), (12, .v (.int .i64 (k : Int)))]) (fun k G' => (am (I.G s) I.nx (.tip (e8 k s).length 3 1))) 0 rfl ?_ ?_ ?_ ?_ ?_ ?_
   ·exact Nat.zero_le _
   ·exact zF
   ·exact zX
   ·rintro k hI
    exact zL
   ·rintro k hI
    exact zH
   ·rintro k hK
    dsimp only at hK ⊢
    refine p5 fun K4 hK4 => ?_
    refine i1 ?_
    refine aa rfl (cn rfl rfl rfl) ?_
    refine i2 ?_
    dsimp only [St.put]
    refine hK4 _ ?_
    refine p5 fun K5 hK5 => ?_
    refine aq rfl (fun hc => ?_) (fun hc => ?_)
    ·replace hc := of_decide_eq_true hc
     have hml := sn k s
     refine ay ?_
     refine hK5 _ ?_
     refine p5 fun K6 hK6 => ?_
     refine bf ?_
     refine p5 fun K7 hK7 => ?_
     refine i1 ?_
     refine aa rfl (gy rfl (by constructor)) ?_
     refine aa rfl (fa rfl (by constructor)) ?_
     refine i2 ?_
     dsimp only [St.put]
     refine hK7 _ ?_
     refine p5 fun K8 hK8 => ?_
     refine i1 ?_
     refine aa rfl (gy rfl (by constructor)) ?_
     refine aa rfl (gy rfl (by constructor)) ?_
     refine aa rfl (x9 (m := s) (n := k) rfl rfl rfl (by show k ≤ 64; omega) (by show (s : Int) ≤ 9223372036854775807; omega) (by decide)) ?_
     refine aa rfl (yb (m := s / 2 ^ k) rfl rfl rfl (Nat.lt_of_le_of_lt (Nat.div_le_self _ _) (by show s < 2 ^ 64; omega)) (by decide)) ?_
     refine aa rfl (fm rfl rfl rfl) ?_
     refine i2 ?_
     dsimp only [St.put]
     refine hK8 _ ?_
     refine aq rfl (fun hc => ?_) (fun hc => ?_)
     ·have hb1 : s.testBit k = true := bit_eq.1 (of_decide_eq_true hc)
      refine i1 ?_
      refine aa rfl (gy rfl (by constructor)) ?_
      refine aa rfl (gy rfl (by constructor)) ?_
      try dsimp only [St.put]
      refine af rfl (ca rfl rfl rfl (by decide) (by decide) zR (by decide) ?_)
      try dsimp only [St.put]
      refine af rfl (ce ([(k : Int)]) rfl rfl zG zE rfl rfl zA ?_ zA)
      refine aa rfl (fa rfl (by constructor)) ?_
      refine i2 ?_
      dsimp only [St.put]
      refine hK6 _ ?_
      refine i1 ?_
      first | refine aa rfl (bu rfl rfl rfl (by omega)) ?_ | refine aa rfl (sl rfl rfl rfl) ?_
      refine aa rfl (gy rfl (by constructor)) ?_
      refine i2 ?_
      dsimp only [St.put]
      have e := uco k s
      first
      | (have q : s.testBit k = true := hb1
         rw [q, cond_true] at e
         rw [← e]
         exact ⟨k + 1, by omega, by omega, ⟨⟨rfl, rfl⟩, zF, zB, zN, zX⟩⟩)
      | (have q : s.testBit k = false := hb0
         rw [q, cond_false, List.append_nil] at e
         rw [← e]
         exact ⟨k + 1, by omega, by omega, ⟨⟨rfl, rfl⟩, zF, zB, zN, zX⟩⟩)
     ·have hb0 : s.testBit k = false := by
       have := of_decide_eq_false hc
       rw [bit_eq, Bool.not_eq_true] at this
       exact this
      refine ay ?_
      refine hK6 _ ?_
      refine i1 ?_
      first | refine aa rfl (bu rfl rfl rfl (by omega)) ?_ | refine aa rfl (sl rfl rfl rfl) ?_
      refine aa rfl (gy rfl (by constructor)) ?_
      refine i2 ?_
      dsimp only [St.put]
      have e := uco k s
      first
      | (have q : s.testBit k = true := hb1
         rw [q, cond_true] at e
         rw [← e]
         exact ⟨k + 1, by omega, by omega, ⟨⟨rfl, rfl⟩, zF, zB, zN, zX⟩⟩)
      | (have q : s.testBit k = false := hb0
         rw [q, cond_false, List.append_nil] at e
         rw [← e]
         exact ⟨k + 1, by omega, by omega, ⟨⟨rfl, rfl⟩, zF, zB, zN, zX⟩⟩)
    ·replace hc := of_decide_eq_false hc
     obtain rfl : k = n := by omega
     refine wg 4 (lst (e8 k s)) rfl Wk.tok ?_
     refine cz ?_
     show jy _ _ _ _ _ _ _
     refine o7 ok rfl ⟨rfl, rfl, zK, zN, zS, zK⟩ ?_
     refine o5 fun K9 hK9 => ?_
     refine ude ?_
     refine px rfl (gy rfl (by constructor)) ?_
     refine px rfl (gy rfl (by constructor)) ?_
     refine px rfl (gy rfl (by constructor)) ?_
     try dsimp only [St.put]
     refine udi ok (by rw [hN]; exact hs) rfl rfl rfl rfl (by rw [hcl]; rfl) ?_
     refine px rfl (dw rfl rfl) ?_
     refine udj ?_
     dsimp only [St.put]
     refine hK9 _ _ ?_
     refine s9 rfl (fun h => by cases h) (fun _ => ?_)
     refine s7 ?_
     refine hK2 _ _ ?_
     refine kf 9 ?_
     refine zQ ?_
     refine yw ok rfl ?_
     dsimp only [FC.st]
     refine bx fun hlt => ?_
     dsimp only at hlt
     refine i1 ?_
     first | refine aa rfl (bu rfl rfl rfl (by omega)) ?_ | refine aa rfl (sl rfl rfl rfl) ?_
     refine aa rfl (gy rfl (by constructor)) ?_
     refine i2 ?_
     dsimp only [St.put]
     refine ⟨⟨rfl, rfl, zK, zN, zS, zK⟩, ?_⟩
     exact ⟨s + 1, by omega, by omega, rfl, ⟨⟨rfl, rfl⟩, zF, zB, zN, zX⟩⟩
  ·replace hc := of_decide_eq_false hc
   obtain rfl : s = 2 ^ n := by omega
   refine yy ?_
   exact ⟨.inl rfl, rfl⟩
end Go.Proofs.YtbbdginipiljdaaGreatDoor
namespace Go.AB
open Go Go.RowKit
open Go.AB.Enc (cells)
open Go.PB (ba ai PlaceD bh bk bj bw ar ah cw bv dc dg)
theorem unk {so : Nat → Bool} {n k : Nat} : ((ff so n k).getD []).length ≤ n := by
 rcases we so n k with ⟨h, _⟩ | ⟨b, h, k⟩
 ·rw [h]; exact Nat.zero_le _
 rw [h]
 obtain ⟨s, _, _, rfl⟩ := k.get
 exact sn n s
theorem uni {so : Nat → Bool} {n k : Nat} (h : so k = false) : ff so n (k + 1) = ff so n k := by
 cases hb : ff so n k with
 | none => rw [uer hb, h]; rfl
 | some b => rw [zi hb, h]; rfl
theorem unl {so : Nat → Bool} {n k : Nat} (hb : ff so n k = none) (h : so k = true) : ff so n (k + 1) = some (e8 n k) := by rw [uer hb, h]; rfl
theorem unj {so : Nat → Bool} {n k : Nat} {b : List Int} (hb : ff so n k = some b) (h : so k = true) : ff so n (k + 1) = bif iy (e8 n k) b then some (e8 n k) else some b := by rw [zi hb, h]; rfl
theorem uaf {α : Type} {l : List α} {k : Nat} {x : α} (h : l[k]? = some x) : l.take (k + 1) = l.take k ++ [x] := by rw [List.take_add_one, h]; rfl
theorem ugd (p : ah) (l : List Int) (z : Int) : ng p (l ++ [z]) = ng p l ++ bif decide (z < (p.firsts.length : Int)) then [z] else [] := by
 unfold ng
 rw [List.filter_append]
 cases h : decide (z < (p.firsts.length : Int)) <;> simp [h]
theorem uga (p : ah) (l : List Int) (z : Int) : mn p (l ++ [z]) = mn p l ++ bif decide (z < (p.firsts.length : Int)) then [] else [z - (p.firsts.length : Int)] := by
 unfold mn
 rw [List.filter_append, List.map_append]
 cases h : decide (z < (p.firsts.length : Int)) <;> simp [h]
theorem uge (p : ah) (l : List Int) : (ng p l).length ≤ l.length := List.length_filter_le _ _
theorem ugb (p : ah) (l : List Int) : (mn p l).length ≤ l.length := by
 unfold mn
 rw [List.length_map]
 exact List.length_filter_le _ _
theorem ugc {p : ah} {z : Int} (h : z ∈ ib p) : 0 ≤ z ∧ z < (cj p : Int) := by
 unfold ib m9 at h
 rcases we (qb p) (cj p) (2 ^ cj p) with ⟨q, _⟩ | ⟨b, q, k⟩
 ·rw [q] at h; cases h
 rw [q] at h
 obtain ⟨s, _, _, rfl⟩ := k.get
 obtain ⟨i, rfl, hi, _⟩ := membersL_mem.1 h
 omega
end Go.AB
namespace Go.Proofs.YtbbdginipiljdaaGreatDoor
set_option maxRecDepth 10000
open Go.RowKit Go.AB
open Go.AB.Enc (cells)
open Go.PB (ba ai PlaceD bh bk bj bw ar ah cw bv dc dg)
end Go.Proofs.YtbbdginipiljdaaGreatDoor
namespace Go.AB
open Go Go.RowKit
open Go.AB.Enc (cells)
open Go.PB (ba ai PlaceD bh bk bj bw ar ah cw bv dc dg)
theorem unh {so : Nat → Bool} {n k : Nat} {b : List Int} (hb : ff so n k = some b) (h : iy (e8 n k) b = false) : ff so n (k + 1) = some b := by rw [zi hb, h, Bool.and_false]; rfl
theorem uew {p : ah} {R C : Nat → Int} (h : Bd p R C) (l : List Int) : Bd p R (ki C l) := ⟨h.r, fun j => by
 have := h.c j
 unfold ki
 cases decide ((j : Int) ∈ l)
 ·exact this
 exact ⟨Int.le_refl _, by show (0 : Int) ≤ 1000000; omega⟩, h.nr, h.np⟩
theorem um4 {p : ah} {m : Int} (h : cx p ≠ 0) : i7 p m = cx p := by unfold i7; rw [decide_eq_false h]; rfl
theorem um3 {p : ah} {m : Int} (h : cx p = 0) (hm : m < 0) : i7 p m = 2 := by unfold i7; rw [decide_eq_true h, decide_eq_true hm]; rfl
theorem um5 {p : ah} {m : Int} (h : cx p = 0) (hm : ¬ m < 0) (ht : ie p = false) : i7 p m = 8 := by unfold i7; rw [decide_eq_true h, decide_eq_false hm, ht]; rfl
theorem um2 {p : ah} {m : Int} (h : cx p = 0) (hm : ¬ m < 0) (ht : ie p = true) : i7 p m = 0 := by unfold i7; rw [decide_eq_true h, decide_eq_false hm, ht]; rfl
end Go.AB
namespace Go.Proofs.YtbbdginipiljdaaGreatDoor
set_option maxRecDepth 10000
open Go.RowKit Go.AB
open Go.AB.Enc (cells)
open Go.PB (ba ai PlaceD bh bk bj bw ar ah cw bv dc dg)
end Go.Proofs.YtbbdginipiljdaaGreatDoor
namespace Go.AB
open Go Go.RowKit
open Go.AB.Enc (cells)
open Go.PB (ba ai PlaceD bh bk bj bw ar ah cw bv dc dg)
/-- whether a set is taken, and how often one was -/
def kp (so : Nat → Bool) (n k : Nat) : Bool := so k && match ff so n k with
 | none => true
 | some b => iy (e8 n k) b
def lx (so : Nat → Bool) (n : Nat) : Nat → Nat
 | 0 => 0
 | k + 1 => lx so n k + (kp so n k).toNat
theorem w6 {so : Nat → Bool} {n k : Nat} (h : kp so n k = true) : ff so n (k + 1) = some (e8 n k) ∧ lx so n (k + 1) = lx so n k + 1 := by
 refine ⟨?_, by show lx so n k + (kp so n k).toNat = _; rw [h]; rfl⟩
 unfold kp at h
 rw [Bool.and_eq_true] at h
 cases hb : ff so n k with
 | none => exact unl hb h.1
 | some b =>
  have h2 := h.2
  rw [hb] at h2
  have h3 : iy (e8 n k) b = true := h2
  rw [unj hb h.1, h3]; rfl
theorem w7 {so : Nat → Bool} {n k : Nat} (h : kp so n k = false) : ff so n (k + 1) = ff so n k ∧ lx so n (k + 1) = lx so n k := by
 refine ⟨?_, by show lx so n k + (kp so n k).toNat = _; rw [h]; rfl⟩
 unfold kp at h
 cases hs : so k
 ·exact uni hs
 rw [hs, Bool.true_and] at h
 cases hb : ff so n k with
 | none => rw [hb] at h; cases h
 | some b =>
  rw [hb] at h
  have h3 : iy (e8 n k) b = false := h
  rw [unh hb h3]
theorem ug0 {so : Nat → Bool} {n k : Nat} (h : so k = false) : kp so n k = false := by unfold kp; rw [h]; rfl
theorem ug1 {so : Nat → Bool} {n k : Nat} (h : so k = true) (hb : ff so n k = none) : kp so n k = true := by unfold kp; rw [h, hb]; rfl
theorem uc {so : Nat → Bool} {n k : Nat} {b : List Int} (h : so k = true) (hb : ff so n k = some b) : kp so n k = iy (e8 n k) b := by unfold kp; rw [h, hb]; rfl
end Go.AB
namespace Go.Proofs.YtbbdginipiljdaaGreatDoor
set_option maxRecDepth 10000
open Go Go.RowKit Go.AB
open Go.AB.Enc (cells)
open Go.PB (ba ai PlaceD bh bk bj bw ar ah cw bv dc dg)
theorem uat (m : Nat) : Pure Tryz.prog 54 [.v (.int .i64 (m : Int))] (.fn (.func 89) [.elem [.v (.int .i64 (m : Int))]]) := by
 refine c4 Tryz.func54 rfl (fun m => (.fn (cm (.elem (cm .v di)) di))) fun G nx => ?_
 simp only [Tryz.ntmps54, List.length_cons, List.length_nil, Nat.reduceAdd, Nat.reduceSub]
 refine bx fun hlt => ?_
 dsimp only at hlt
 refine yS fun _ K1 => ?_
 refine yR ?_
 try dsimp only [St.put]
 refine yB rfl rfl rfl ?_
 refine yA rfl rfl ?_
 refine yN ?_
 dsimp only [St.put]
 refine K1 _ ?_
 refine yS fun _ K2 => ?_
 refine yR ?_
 refine aa rfl (pp rfl rfl) ?_
 refine yA rfl rfl ?_
 refine yN ?_
 dsimp only [St.put]
 refine K2 _ ?_
 refine ax ?_
 refine bg rfl (by constructor) zN zS ?_
 rfl
set_option maxHeartbeats 1000000 in
theorem udq (n : Nat) (m : Nat) (so : Nat → Bool) (k0 : FuncId) (caps : List C) [Fun Tryz.prog k0] (hm : m ≤ 8) (hcl : ∀ N, ∀ c ∈ caps, C.low N c) (hso : ∀ s : Nat, s < 2 ^ m → AB.Pure Tryz.prog k0 (.v (.int .i64 (s : Int)) :: lst (e8 m s) :: caps) (.v (.bool (so s)))) : fg n e9 Tryz.prog 53 [.fn (.func 89) [.elem [.v (.int .i64 (m : Int))]], .fn (.func k0) caps, .fn (.func 57) []] (lst (m9 so m)) := fun G nx hF hnx => by
 refine ip (G) (nx) Tryz.func53 rfl ((b9 _ _)) zN (fun hlt => zH) ?_
 simp only [Tryz.ntmps53, List.length_cons, List.length_nil, Nat.reduceAdd, Nat.reduceSub]
 refine bx fun hlt => ?_
 dsimp only at hlt
 refine yS fun _ K1 => ?_
 refine yR ?_
 try dsimp only [St.put]
 refine yB rfl rfl rfl ?_
 try dsimp only [St.put]
 refine yB rfl rfl rfl ?_
 refine yA rfl rfl ?_
 refine yN ?_
 dsimp only [St.put]
 refine K1 _ ?_
 refine yS fun _ K2 => ?_
 refine yR ?_
 try dsimp only [St.put]
 refine af rfl (ed rfl ?_)
 refine yN ?_
 dsimp only [St.put]
 refine K2 _ ?_
 refine yS fun _ K3 => ?_
 refine yR ?_
 try dsimp only [St.put]
 refine af rfl (ed rfl ?_)
 try dsimp only [St.put]
 refine af rfl (dj rfl rfl rfl zG rfl rfl (by rfl) ?_)
 refine yN ?_
 dsimp only [St.put]
 refine K3 _ ?_
 refine yS fun _ K4 => ?_
 refine yS fun _ K5 => ?_
 refine zl nx 0 [lst ([] : List Int)] zG zW ?_
 refine yR ?_
 refine yM rfl rfl ?_
 refine yN ?_
 dsimp only [St.put]
 refine K5 _ ?_
 refine bf ?_
 refine co 12 ?_
 refine zQ ?_
 refine c7 ((am (am G nx (.box (lx so m 0) [lst ((ff so m 0).getD [])])) (nx + 1) (.box (1 + lx so m 0) [.v (.bool (ff so m 0).isSome)]))) zX ?_
 dsimp only
 refine uey [12, 13] (fun k => (am (am G nx (.box (lx so m k) [lst ((ff so m k).getD [])])) (nx + 1) (.box (1 + lx so m k) [.v (.bool (ff so m k).isSome)]))) (fun k => [(13, lst (e8 m k)), (12, .v (.int .i64 (k : Int)))]) (uhz n m hm) (fun k => zG) (by (try dsimp only); omega) rfl rfl (fun _ => rfl) ?_ ?_ ?_ (fun lr k hrk => ?_) ?_
 ·intro k
  rfl
 ·exact zX
 ·intro k
  exact zH
 ·have hbl := unk (so := so) (n := m) (k := k)
  have hml := sn m k
  refine yS fun _ K6 => ?_
  refine yR ?_
  refine yA rfl rfl ?_
  refine yN ?_
  dsimp only [St.put]
  refine K6 _ ?_
  refine yR ?_
  refine yA rfl rfl ?_
  refine yN ?_
  dsimp only [St.put]
  show AW _ _ _ _ _
  refine bf ?_
  refine yS fun _ K7 => ?_
  refine yR ?_
  refine yL rfl rfl rfl ?_
  refine yM rfl rfl ?_
  refine yM rfl rfl ?_
  try dsimp only [St.put]
  refine af rfl (bd rfl rfl rfl (hso k hrk) ?_)
  refine yM rfl rfl ?_
  refine eo (fun hs => ?_) (fun hs => ?_)
  ·have hw : so k = true := hs
   try dsimp only [St.put]
   refine ci rfl (gg rfl rfl zG trivial (by first | rfl | assumption)) ?_
   refine aa rfl (dw rfl rfl) ?_
   refine yM rfl rfl ?_
   refine eo (fun hs => ?_) (fun hs => ?_)
   ·have hb0 : ff so m k = none := by simpa using hs
    have htk := w6 (ug1 hw hb0)
    refine yK rfl ?_
    refine yK rfl ?_
    refine yK rfl ?_
    refine yK rfl ?_
    refine yK rfl ?_
    refine aa rfl (cb rfl rfl (by constructor)) ?_
    refine aa rfl (cb rfl rfl (by constructor)) ?_
    refine yN ?_
    dsimp only [St.put]
    refine K7 _ ?_
    refine aq rfl (fun _ => ?_) (fun h => by cases h)
    first
    | (have hbf : iy (e8 m k) b = true := (ul _ _).symm.trans hc
       have htk := w6 ((uc hw hb0).trans hbf))
    | skip
    refine yR ?_
    refine yM rfl rfl ?_
    try dsimp only [St.put]
    refine af rfl (dj rfl rfl rfl zG rfl rfl (by rfl) ?_)
    try dsimp only [St.put]
    refine af rfl (dj rfl rfl rfl zG rfl rfl (by rfl) ?_)
    refine yN ?_
    dsimp only [St.put]
    dsimp only [ri, tr]
    first
    | (rw [htk.1, htk.2]
       exact zX)
    | (rw [hke.1, hke.2]
       try rw [hb0]
       exact zX)
   obtain ⟨b, hb0⟩ : ∃ b, ff so m k = some b := by
     cases hb : ff so m k with
     | none => rw [hb] at hs; cases hs
     | some b => exact ⟨b, rfl⟩
   rw [hb0] at hbl
   rw [hb0]
   have hbl2 : b.length ≤ m := hbl
   refine yL rfl rfl rfl ?_
   refine yM rfl rfl ?_
   try dsimp only [St.put]
   refine ci rfl (gg rfl rfl zG trivial (by first | rfl | assumption)) ?_
   try dsimp only [St.put]
   refine af rfl (bd rfl rfl rfl (ujk (e8 m k) b (by omega) (by omega)) ?_)
   refine aa rfl (cn rfl rfl rfl) ?_
   refine aa rfl (ct rfl rfl (by constructor)) ?_
   refine aa rfl (cb rfl rfl (by constructor)) ?_
   refine yN ?_
   dsimp only [St.put]
   refine K7 _ ?_
   refine aq rfl (fun hc => ?_) (fun hc => ?_)
   ·first
    | (have hbf : iy (e8 m k) b = true := (ul _ _).symm.trans hc
       have htk := w6 ((uc hw hb0).trans hbf))
    | skip
    refine yR ?_
    refine yM rfl rfl ?_
    try dsimp only [St.put]
    refine af rfl (dj rfl rfl rfl zG rfl rfl (by rfl) ?_)
    try dsimp only [St.put]
    refine af rfl (dj rfl rfl rfl zG rfl rfl (by rfl) ?_)
    refine yN ?_
    dsimp only [St.put]
    dsimp only [ri, tr]
    first
    | (rw [htk.1, htk.2]
       exact zX)
    | (rw [hke.1, hke.2]
       try rw [hb0]
       exact zX)
   first
   | (have hbf : iy (e8 m k) b = false := (ul _ _).symm.trans hc
      have hke := w7 ((uc hw hb0).trans hbf))
   | skip
   refine ay ?_
   dsimp only [ri, tr]
   first
   | (rw [htk.1, htk.2]
      exact zX)
   | (rw [hke.1, hke.2]
      try rw [hb0]
      exact zX)
  have hw : so k = false := hs
  have hke := w7 (ug0 (n := m) hw)
  refine yK rfl ?_
  refine yK rfl ?_
  refine yK rfl ?_
  refine yK rfl ?_
  refine yK rfl ?_
  refine yK rfl ?_
  refine yK rfl ?_
  refine yK rfl ?_
  refine yK rfl ?_
  refine aa rfl (ct rfl rfl (by constructor)) ?_
  refine yN ?_
  dsimp only [St.put]
  refine K7 _ ?_
  refine aq rfl (fun h => by cases h) (fun _ => ?_)
  first
  | (have hbf : iy (e8 m k) b = false := (ul _ _).symm.trans hc
     have hke := w7 ((uc hw hb0).trans hbf))
  | skip
  refine ay ?_
  dsimp only [ri, tr]
  first
  | (rw [htk.1, htk.2]
     exact zX)
  | (rw [hke.1, hke.2]
     try rw [hb0]
     exact zX)
 dsimp only
 refine K4 _ ?_
 refine yS fun _ K8 => ?_
 refine yR ?_
 try dsimp only [St.put]
 refine ci rfl (gg rfl rfl zG trivial (by first | rfl | assumption)) ?_
 refine yA rfl rfl ?_
 refine yN ?_
 dsimp only [St.put]
 refine K8 _ ?_
 refine ax ?_
 refine bg rfl (by constructor) zN zS ?_
 rfl
theorem ujh (p : ah) (R C : Nat → Int) (a : Int) (s : Nat) (l : List Int) (h : ef p) (hB : Bd p R C) (hs : s ≤ 1000) : Pure Tryz.prog 55 [.v (.int .i64 (s : Int)), lst l, .elem (cells (gh p R C)), .elem [.v (.int .i64 a)]] (.v (.bool (decide ((bt p).f R C (fun i => s.testBit i) = a)))) := by
 refine c4 Tryz.func55 rfl (fun m => .v) fun G nx => ?_
 simp only [Tryz.ntmps55, List.length_cons, List.length_nil, Nat.reduceAdd, Nat.reduceSub]
 refine bx fun hlt => ?_
 dsimp only at hlt
 refine yS fun _ K1 => ?_
 refine yR ?_
 refine yA rfl rfl ?_
 refine yN ?_
 dsimp only [St.put]
 refine K1 _ ?_
 refine yS fun _ K2 => ?_
 refine fu [(0, none), (1, none), (3, none), (2, none), (4, none), (5, none)] (fun i => [].contains i) (fun i => [2].contains i) (fun i => [1, 4, 5].contains i) [] (by kernel_rfl) (by kernel_rfl) ?_
 try dsimp only [St.put]
 refine bc rfl rfl rfl rfl (eh rfl rfl (Enc.len _)) ?_
 refine xM rfl rfl rfl rfl rfl ?_
 try dsimp only [St.put]
 refine bc rfl rfl rfl rfl (cg rfl rfl) ?_
 refine g7 ?_
 try dsimp only [St.put]
 refine i9 rfl rfl rfl (bd rfl rfl rfl (ubq p R C s h hB hs) ⟨zD, ?_⟩)
 refine dq rfl rfl rfl rfl (fm rfl rfl rfl) ?_
 refine dq rfl rfl rfl rfl (fa rfl (by constructor)) ?_
 refine gw ?_
 dsimp only [St.put]
 refine K2 _ ?_
 refine ax ?_
 refine bg rfl (by constructor) zN zS ?_
 rfl
theorem ujr (p : ah) (m : Int) (s : Int) (l : List Int) (h : ef p) (hl : l.length ≤ 1000) (hm : ∀ z ∈ l, 0 ≤ z ∧ z < (p.pages.length : Int)) : Pure Tryz.prog 78 [.v (.int .i64 s), lst l, .elem (cells (gh p (cy p) (dd p))), .elem [.v (.int .i64 m)]] (.v (.bool (decide (ufg p l ≤ m)))) := by
 refine c4 Tryz.func78 rfl (fun m => .v) fun G nx => ?_
 simp only [Tryz.ntmps78, List.length_cons, List.length_nil, Nat.reduceAdd, Nat.reduceSub]
 refine bx fun hlt => ?_
 dsimp only at hlt
 refine yS fun _ K1 => ?_
 refine yR ?_
 refine yA rfl rfl ?_
 refine yN ?_
 dsimp only [St.put]
 refine K1 _ ?_
 refine yS fun _ K2 => ?_
 refine yR ?_
 refine yE rfl rfl rfl ?_
 try dsimp only [St.put]
 refine af rfl (ed rfl ?_)
 try dsimp only [St.put]
 refine af rfl (dj rfl rfl rfl zG rfl rfl (by rfl) ?_)
 refine yN ?_
 dsimp only [St.put]
 rw [show cells (gh p (cy p) (dd p)) = cells (gh p (cy p) (ki (dd p) (l.take 0))) by rw [List.take_zero, ufr]]
 refine K2 _ ?_
 refine yS fun _ K3 => ?_
 refine yS fun _ K4 => ?_
 refine yR ?_
 refine yM rfl rfl ?_
 refine aa rfl (bi rfl rfl (List.length_map _)) ?_
 refine yM rfl rfl ?_
 refine yN ?_
 dsimp only [St.put]
 refine K4 _ ?_
 refine bf ?_
 refine co 14 ?_
 refine zQ ?_
 refine c7 ((am G nx (.box (0 + 1) (cells (gh p (cy p) (ki (dd p) (l.take 0))))))) zX ?_
 dsimp only
 refine c6 (X := Nat) (fun k => k ≤ l.length) (fun k => l.length - k) (fun k => [(8, .any), (9, .any), (13, .v (.int .i64 (k : Int)))]) (fun k G' => (am G nx (.box (k + 1) (cells (gh p (cy p) (ki (dd p) (l.take k))))))) 0 rfl ?_ ?_ ?_ ?_ ?_ ?_
 ·exact Nat.zero_le _
 ·exact zF
 ·exact zX
 ·rintro k hI
  exact zL
 ·rintro k hI
  exact zH
 rintro k hI
 dsimp only at hI ⊢
 refine yS fun _ K5 => ?_
 refine yR ?_
 refine aa rfl (cn rfl rfl rfl) ?_
 refine yN ?_
 dsimp only [St.put]
 refine K5 _ ?_
 refine yS fun _ K6 => ?_
 refine aq rfl (fun hc => ?_) (fun hc => ?_)
 ·replace hc := of_decide_eq_true hc
  obtain ⟨z0, hz0⟩ : ∃ z, l[k]? = some z := da (by omega)
  have hzb := hm z0 (f5 hz0)
  obtain ⟨j, rfl⟩ : ∃ j : Nat, z0 = (j : Int) := ⟨z0.toNat, by omega⟩
  have hz := hz0
  obtain ⟨x, hx⟩ : ∃ x, p.pages[j]? = some x := da (by omega)
  have hB := uew (tm h) (l.take k)
  refine ay ?_
  refine K6 _ ?_
  refine yS fun _ K7 => ?_
  refine bf ?_
  refine yS fun _ K8 => ?_
  refine yR ?_
  refine aa rfl (br rfl rfl rfl rfl (bq (by assumption)) (Enc.len _)) ?_
  refine yL rfl rfl rfl ?_
  refine yA rfl rfl ?_
  refine yN ?_
  dsimp only [St.put]
  refine K8 _ ?_
  refine yR ?_
  try dsimp only [St.put]
  refine ci rfl (i5 rfl rfl zG trivial (by rfl)) ?_
  refine yM rfl rfl ?_
  try dsimp only [St.put]
  refine af rfl (bd rfl rfl rfl (xv p (cy p) (ki (dd p) (l.take k)) j x 0 h hx (by omega) hB.r) ?_)
  try dsimp only [St.put]
  refine af rfl (dj rfl rfl rfl zG rfl rfl (by rfl) ?_)
  refine yN ?_
  dsimp only [St.put]
  refine K7 _ ?_
  refine yR ?_
  refine aa rfl (bu rfl rfl rfl (by omega)) ?_
  refine yM rfl rfl ?_
  refine yN ?_
  dsimp only [St.put]
  rw [uk5, ← ufq, ← uaf hz]
  exact ⟨k + 1, by omega, by omega, ⟨⟨rfl, rfl⟩, zF, zB, zN, zX⟩⟩
 replace hc := of_decide_eq_false hc
 rw [gd (show l.length ≤ k by omega)]
 refine cz ?_
 refine K3 _ ?_
 refine yS fun _ K9 => ?_
 refine fu [(0, none), (2, none), (1, none), (3, none), (4, none)] (fun i => [].contains i) (fun i => [1].contains i) (fun i => [3, 4].contains i) [nx] (by kernel_rfl) (by kernel_rfl) ?_
 try dsimp only [St.put]
 refine bc rfl rfl rfl rfl (i5 rfl rfl zG (by simp) (by rfl)) ?_
 try dsimp only [St.put]
 refine bc rfl rfl rfl rfl (cg rfl rfl) ?_
 refine g7 ?_
 try dsimp only [St.put]
 refine i9 rfl rfl rfl (bd rfl rfl rfl (r9 p (cy p) (ki (dd p) l) h (uew (tm h) l)) ⟨zD, ?_⟩)
 refine dq rfl rfl rfl rfl (sj rfl rfl rfl) ?_
 refine dq rfl rfl rfl rfl (fa rfl (by constructor)) ?_
 refine gw ?_
 dsimp only [St.put]
 refine K9 _ ?_
 refine ax ?_
 refine bg rfl (by constructor) zN zS ?_
 rfl
theorem ua7 (p : ah) (R Q : Nat → Int) (a : Int) (N : Nat) : ∀ c ∈ [C.elem (cells (gh p R Q)), C.elem [C.v (.int .i64 a)]], C.low N c := cm (fo _ _) (cm (.elem (cm .v di)) di)
set_option maxHeartbeats 1000000 in
theorem ujg (n : Nat) (p : ah) : fg n e9 Tryz.prog 17 [val p] (.tup [lst (atE (fj p (cx p)) [] (ng p (ib p))), lst (atE (fj p (cx p)) [] (mn p (ib p))), .v (.int .i64 (fj p (cx p)))]) := fun G nx hF hnx => by
 refine ip (G) (nx) Tryz.func17 rfl (.tup (cm (b9 _ _) (cm (b9 _ _) (cm .v di)))) zN (fun hlt => zH) ?_
 simp only [Tryz.ntmps17, List.length_cons, List.length_nil, Nat.reduceAdd, Nat.reduceSub]
 refine bx fun hlt => ?_
 dsimp only at hlt
 refine yS fun _ K1 => ?_
 refine yR ?_
 try dsimp only [St.put]
 refine yB rfl rfl rfl ?_
 refine yA rfl rfl ?_
 refine yA rfl rfl ?_
 refine yA rfl rfl ?_
 refine yN ?_
 dsimp only [St.put]
 refine K1 _ ?_
 refine yS fun _ K2 => ?_
 by_cases hL : fj p (cx p) = 0
 ·refine yR ?_
  refine yE rfl rfl rfl ?_
  try dsimp only [St.put]
  refine af rfl (ei rfl rfl rfl (nt n p) zG (by dsimp only [St.put]; omega) ?_)
  refine yX rfl rfl rfl rfl ?_
  refine yX rfl rfl rfl rfl ?_
  try dsimp only [St.put]
  refine af rfl (ei rfl rfl rfl (r7 n p (jp p) (cx p) pa hL) zG (by dsimp only [St.put]; omega) ?_)
  refine yM rfl rfl ?_
  refine yX rfl rfl rfl rfl ?_
  refine yX rfl rfl rfl rfl ?_
  try dsimp only [St.put]
  refine af rfl (ed rfl ?_)
  try dsimp only [St.put]
  refine af rfl (dj rfl rfl rfl zG rfl rfl (by rfl) ?_)
  refine yA rfl rfl ?_
  refine yN ?_
  dsimp only [St.put]
  refine K2 _ ?_
  refine yS fun _ K3 => ?_
  refine yS fun _ K4 => ?_
  refine yR ?_
  refine yM rfl rfl ?_
  refine aa rfl (fk rfl rfl rfl) ?_
  refine yN ?_
  dsimp only [St.put]
  refine K4 _ ?_
  refine aq rfl (fun hc => ?_) (fun hc => ?_)
  ·exact absurd hc (by decide)
  obtain ⟨h0, hTB⟩ := qt hL
  obtain ⟨hok, _⟩ := lu h0
  have hn1 := hok.nf
  have hn2 := hok.ns
  have hnr : cj p = p.firsts.length + p.seconds.length := rfl
  have hl1 := g6 (cj p) (cy p)
  have hB := tm hok
  have h64 : 2 ^ cj p ≤ 2 ^ 6 := Nat.pow_le_pow_right (by omega) (by omega)
  have hwl : (ib p).length ≤ 6 := by
   have := ues (qb p) (cj p)
   show (m9 (qb p) (cj p)).length ≤ 6
   omega
  refine ay ?_
  refine K3 _ ?_
  refine yS fun _ K5 => ?_
  refine yR ?_
  try dsimp only [St.put]
  refine ci rfl (i5 rfl rfl zG trivial (by rfl)) ?_
  try dsimp only [St.put]
  refine af rfl (bd rfl rfl rfl (r9 p (cy p) (dd p) hok hB) ?_)
  try dsimp only [St.put]
  refine af rfl (ed rfl ?_)
  try dsimp only [St.put]
  refine af rfl (dj rfl rfl rfl zG rfl rfl (by rfl) ?_)
  refine yN ?_
  dsimp only [St.put]
  refine K5 _ ?_
  refine gp (i := 5) rfl zG zC ?_
  refine gp (i := 6) rfl zG zC ?_
  dsimp only
  refine yS fun _ K6 => ?_
  refine yS fun _ K7 => ?_
  refine yR ?_
  refine yF rfl rfl rfl rfl ?_
  refine yL rfl rfl rfl ?_
  refine aa rfl (bi rfl rfl (List.length_map _)) ?_
  try dsimp only [St.put]
  refine af rfl (bd rfl rfl rfl (uat (bp (cj p) (cy p)).length) ?_)
  refine aa rfl (pp rfl rfl) ?_
  try dsimp only [St.put]
  refine af rfl (ei rfl rfl rfl (udq n (bp (cj p) (cy p)).length (qb p) 55 [.elem (cells (gh p (cy p) (dd p))), .elem [.v (.int .i64 ((bt p).most (cy p) (dd p)))]] (by rw [hl1]; omega) (ua7 p _ _ _) (fun s hs => ujh p (cy p) (dd p) _ s _ hok hB (by rw [hl1] at hs; omega))) zG (by dsimp only [St.put]; omega) ?_)
  refine aa rfl (bi rfl rfl (List.length_map _)) ?_
  refine yM rfl rfl ?_
  refine yN ?_
  dsimp only [St.put]
  rw [hl1, show m9 (qb p) (cj p) = ib p from rfl]
  refine K7 _ ?_
  refine na 2 3 1 rfl (by decide) ?_
  refine na 3 3 1 rfl (by decide) ?_
  dsimp only [List.set_cons_zero, List.set_cons_succ]
  refine bf ?_
  refine co 30 ?_
  refine zQ ?_
  refine c7 ((am (am G (nx + 1 + 1) (.tip (ng p ((ib p).take 0)).length 3 1)) (nx + 1 + 1 + 1) (.tip (mn p ((ib p).take 0)).length 3 1))) zX ?_
  dsimp only
  refine c6 (X := Nat) (fun k => k ≤ (ib p).length) (fun k => (ib p).length - k) (fun k => [(2, .list ((ng p ((ib p).take k)).map cells) (.tip (nx + 1 + 1))), (3, .list ((mn p ((ib p).take k)).map cells) (.tip (nx + 1 + 1 + 1))), (8, .any), (29, .v (.int .i64 (k : Int)))]) (fun k G' => (am (am G (nx + 1 + 1) (.tip (ng p ((ib p).take k)).length 3 1)) (nx + 1 + 1 + 1) (.tip (mn p ((ib p).take k)).length 3 1))) 0 rfl ?_ ?_ ?_ ?_ ?_ ?_
  ·exact Nat.zero_le _
  ·exact zF
  ·exact zX
  ·rintro k hI
   exact zL
  ·rintro k hI
   exact zH
  rintro k hK
  dsimp only at hK ⊢
  refine yS fun _ K8 => ?_
  refine yR ?_
  refine aa rfl (cn rfl rfl rfl) ?_
  refine yN ?_
  dsimp only [St.put]
  refine K8 _ ?_
  refine yS fun _ K9 => ?_
  refine aq rfl (fun hc => ?_) (fun hc => ?_)
  ·replace hc := of_decide_eq_true hc
   obtain ⟨z, hz⟩ : ∃ z, (ib p)[k]? = some z := da (by omega)
   have hzb := ugc (f5 hz)
   have hF3 := ugd p ((ib p).take k) z
   have hS3 := uga p ((ib p).take k) z
   rw [← uaf hz] at hF3 hS3
   have hlF := uge p ((ib p).take k)
   have hlS := ugb p ((ib p).take k)
   have hlt2 : ((ib p).take k).length ≤ 6 := by rw [List.length_take]; omega
   refine ay ?_
   refine K9 _ ?_
   refine yS fun _ K10 => ?_
   refine bf ?_
   refine yS fun _ K11 => ?_
   refine yR ?_
   refine aa rfl (br rfl rfl rfl rfl (bq (by assumption)) (Enc.len _)) ?_
   refine yL rfl rfl rfl ?_
   refine yA rfl rfl ?_
   refine yN ?_
   dsimp only [St.put]
   refine K11 _ ?_
   refine yS fun _ K12 => ?_
   refine yR ?_
   refine yM rfl rfl ?_
   refine yF rfl rfl rfl rfl ?_
   refine yL rfl rfl rfl ?_
   refine aa rfl (bi rfl rfl (List.length_map _)) ?_
   refine aa rfl (cn rfl rfl rfl) ?_
   refine yN ?_
   dsimp only [St.put]
   refine K12 _ ?_
   refine aq rfl (fun hc => ?_) (fun hc => ?_)
   ·have hyes := of_decide_eq_true hc
    refine yR ?_
    refine yM rfl rfl ?_
    refine yM rfl rfl ?_
    try dsimp only [St.put]
    refine af rfl (ca rfl rfl rfl (by decide) (by decide) zR (by decide) ?_)
    try dsimp only [St.put]
    refine af rfl (ce ([z]) rfl rfl zG zE rfl rfl zA ?_ zA)
    refine yA rfl rfl ?_
    refine yN ?_
    dsimp only [St.put]
    refine K10 _ ?_
    refine yR ?_
    refine aa rfl (bu rfl rfl rfl (by omega)) ?_
    refine yM rfl rfl ?_
    refine yN ?_
    dsimp only [St.put]
    first
    | (have hy2 : z < (p.firsts.length : Int) := hyes
       rw [decide_eq_true hy2, cond_true] at hF3 hS3
       rw [List.append_nil] at hS3
       simp only [← hF3]
       rw [← hS3]
       exact ⟨k + 1, by omega, by omega, ⟨⟨rfl, rfl⟩, zF, zB, zN, zX⟩⟩)
    | (have hy2 : ¬ z < (p.firsts.length : Int) := hno
       rw [decide_eq_false hy2, cond_false] at hF3 hS3
       rw [List.append_nil] at hF3
       simp only [← hS3]
       rw [← hF3]
       exact ⟨k + 1, by omega, by omega, ⟨⟨rfl, rfl⟩, zF, zB, zN, zX⟩⟩)
   have hno := of_decide_eq_false hc
   refine yR ?_
   refine yM rfl rfl ?_
   refine yM rfl rfl ?_
   refine yF rfl rfl rfl rfl ?_
   refine yL rfl rfl rfl ?_
   refine aa rfl (bi rfl rfl (List.length_map _)) ?_
   refine aa rfl (f4 rfl rfl rfl (by omega)) ?_
   try dsimp only [St.put]
   refine af rfl (ca rfl rfl rfl (by decide) (by decide) zR (by decide) ?_)
   try dsimp only [St.put]
   refine af rfl (ce ([z - (p.firsts.length : Int)]) rfl rfl zG zE rfl rfl zA ?_ zA)
   refine yA rfl rfl ?_
   refine yN ?_
   dsimp only [St.put]
   refine K10 _ ?_
   refine yR ?_
   refine aa rfl (bu rfl rfl rfl (by omega)) ?_
   refine yM rfl rfl ?_
   refine yN ?_
   dsimp only [St.put]
   first
   | (have hy2 : z < (p.firsts.length : Int) := hyes
      rw [decide_eq_true hy2, cond_true] at hF3 hS3
      rw [List.append_nil] at hS3
      simp only [← hF3]
      rw [← hS3]
      exact ⟨k + 1, by omega, by omega, ⟨⟨rfl, rfl⟩, zF, zB, zN, zX⟩⟩)
   | (have hy2 : ¬ z < (p.firsts.length : Int) := hno
      rw [decide_eq_false hy2, cond_false] at hF3 hS3
      rw [List.append_nil] at hF3
      simp only [← hS3]
      rw [← hF3]
      exact ⟨k + 1, by omega, by omega, ⟨⟨rfl, rfl⟩, zF, zB, zN, zX⟩⟩)
  replace hc := of_decide_eq_false hc
  refine cz ?_
  refine K6 _ ?_
  refine yS fun _ K13 => ?_
  refine yR ?_
  refine yM rfl rfl ?_
  refine yM rfl rfl ?_
  refine yA rfl rfl ?_
  refine yA rfl rfl ?_
  refine yA rfl rfl ?_
  refine yN ?_
  dsimp only [St.put]
  refine K13 _ ?_
  refine ax ?_
  refine ud0 rfl (eg (by constructor)) (eg (by constructor)) (eg (by constructor)) zN zS ?_ ?_ ?_
  ·rw [hL, pf, gd (show (ib p).length ≤ k by omega)]; exact zW
  ·rw [hL, pf, gd (show (ib p).length ≤ k by omega)]; exact zW
  rw [hL]; exact zW
 refine yR ?_
 refine yE rfl rfl rfl ?_
 try dsimp only [St.put]
 refine af rfl (ei rfl rfl rfl (nt n p) zG (by dsimp only [St.put]; omega) ?_)
 refine yX rfl rfl rfl rfl ?_
 refine yX rfl rfl rfl rfl ?_
 try dsimp only [St.put]
 refine af rfl (ei rfl rfl rfl (r8 n p (jp p) (cx p) pa hL) zG (by dsimp only [St.put]; omega) ?_)
 refine yM rfl rfl ?_
 refine yX rfl rfl rfl rfl ?_
 refine yX rfl rfl rfl rfl ?_
 try dsimp only [St.put]
 refine af rfl (ed rfl ?_)
 try dsimp only [St.put]
 refine af rfl (dj rfl rfl rfl zG rfl rfl (by rfl) ?_)
 refine yA rfl rfl ?_
 refine yN ?_
 dsimp only [St.put]
 refine K2 _ ?_
 refine yS fun _ K14 => ?_
 refine yS fun _ K15 => ?_
 refine yR ?_
 refine yM rfl rfl ?_
 refine aa rfl (fk rfl rfl rfl) ?_
 refine yN ?_
 dsimp only [St.put]
 refine K15 _ ?_
 refine aq rfl (fun hc => ?_) (fun hc => ?_)
 ·try replace hc := of_decide_eq_true hc
  refine yS fun _ K16 => ?_
  refine yR ?_
  refine yM rfl rfl ?_
  refine yA rfl rfl ?_
  refine yA rfl rfl ?_
  refine yA rfl rfl ?_
  refine yN ?_
  dsimp only [St.put]
  refine K16 _ ?_
  refine ax ?_
  refine ud0 rfl (eg (by constructor)) (eg (by constructor)) (eg (by constructor)) zN zS ?_ ?_ ?_
  ·rw [lf hL]; exact zW
  ·rw [lf hL]; exact zW
  exact zW
 exact absurd (ii hc) hL
set_option maxHeartbeats 1000000 in
theorem ujq (n : Nat) (p : ah) (m : Int) : fg n e9 Tryz.prog 35 [val p, .v (.int .i64 m)] (.tup [lst (j3 p m), .v (.int .i64 (i7 p m))]) := fun G nx hF hnx => by
 refine ip (G) (nx) Tryz.func35 rfl (.tup (cm (b9 _ _) (cm .v di))) zN (fun hlt => zH) ?_
 simp only [Tryz.ntmps35, List.length_cons, List.length_nil, Nat.reduceAdd, Nat.reduceSub]
 refine bx fun hlt => ?_
 dsimp only at hlt
 refine yS fun _ K1 => ?_
 refine yR ?_
 try dsimp only [St.put]
 refine yB rfl rfl rfl ?_
 try dsimp only [St.put]
 refine yB rfl rfl rfl ?_
 refine yA rfl rfl ?_
 refine yA rfl rfl ?_
 refine yN ?_
 dsimp only [St.put]
 refine K1 _ ?_
 refine yS fun _ K2 => ?_
 refine yR ?_
 refine yE rfl rfl rfl ?_
 try dsimp only [St.put]
 refine af rfl (ei rfl rfl rfl (nt n p) zG (by dsimp only [St.put]; omega) ?_)
 refine yM rfl rfl ?_
 refine yX rfl rfl rfl rfl ?_
 refine yX rfl rfl rfl rfl ?_
 refine yA rfl rfl ?_
 refine yA rfl rfl ?_
 refine yN ?_
 dsimp only [St.put]
 refine K2 _ ?_
 refine yS fun _ K3 => ?_
 refine yS fun _ K4 => ?_
 refine yR ?_
 refine yM rfl rfl ?_
 refine aa rfl (fk rfl rfl rfl) ?_
 refine yN ?_
 dsimp only [St.put]
 refine K4 _ ?_
 refine aq rfl (fun hc => ?_) (fun hc => ?_)
 ·have h0 : cx p ≠ 0 := jq hc
  have hE : i7 p m = cx p := um4 h0
  have hV : j3 p m = [] := by unfold j3; rw [hE, lf h0]
  refine yS fun _ K5 => ?_
  refine yR ?_
  refine yM rfl rfl ?_
  refine yA rfl rfl ?_
  refine yA rfl rfl ?_
  refine yN ?_
  dsimp only [St.put]
  refine K5 _ ?_
  refine ax ?_
  refine ia rfl (eg (by constructor)) (eg (by constructor)) zN zS ?_ ?_
  ·rw [hV]; exact zW
  rw [hE]; exact zW
 have h0 : cx p = 0 := ii hc
 obtain ⟨hok, _⟩ := lu h0
 have hnp := hok.np
 refine ay ?_
 refine K3 _ ?_
 refine yS fun _ K6 => ?_
 refine yS fun _ K7 => ?_
 refine yR ?_
 refine yL rfl rfl rfl ?_
 refine aa rfl (cn rfl rfl rfl) ?_
 refine yN ?_
 dsimp only [St.put]
 refine K7 _ ?_
 refine aq rfl (fun hc => ?_) (fun hc => ?_)
 ·have hm : m < 0 := of_decide_eq_true hc
  have hE : i7 p m = 2 := um3 h0 hm
  have hV : j3 p m = [] := by unfold j3; rw [hE, lf (by decide)]
  refine yS fun _ K8 => ?_
  refine yR ?_
  refine yA rfl rfl ?_
  refine yA rfl rfl ?_
  refine yN ?_
  dsimp only [St.put]
  refine K8 _ ?_
  refine ax ?_
  refine ia rfl (eg (by constructor)) (eg (by constructor)) zN zS ?_ ?_
  ·rw [hV]; exact zW
  rw [hE]; exact zW
 have hm : ¬ m < 0 := of_decide_eq_false hc
 refine ay ?_
 refine K6 _ ?_
 refine yS fun _ K9 => ?_
 by_cases hL : fj p (cx p) = 0
 ·refine yR ?_
  refine yM rfl rfl ?_
  refine yM rfl rfl ?_
  try dsimp only [St.put]
  refine af rfl (ei rfl rfl rfl (r7 n p (jp p) (cx p) pa hL) zG (by dsimp only [St.put]; omega) ?_)
  refine yM rfl rfl ?_
  refine yX rfl rfl rfl rfl ?_
  refine yX rfl rfl rfl rfl ?_
  try dsimp only [St.put]
  refine af rfl (ed rfl ?_)
  try dsimp only [St.put]
  refine af rfl (dj rfl rfl rfl zG rfl rfl (by rfl) ?_)
  refine yA rfl rfl ?_
  refine yN ?_
  dsimp only [St.put]
  refine K9 _ ?_
  refine gp (i := 8) rfl zG zC ?_
  dsimp only
  refine yS fun _ K10 => ?_
  refine yS fun _ K11 => ?_
  refine yR ?_
  refine yM rfl rfl ?_
  refine aa rfl (fk rfl rfl rfl) ?_
  refine yN ?_
  dsimp only [St.put]
  refine K11 _ ?_
  refine aq rfl (fun hc => ?_) (fun hc => ?_)
  ·exact absurd hc (by decide)
  have hTB := (qt hL).2
  have hE : i7 p m = 0 := um2 h0 hm hTB
  have hV : j3 p m = m9 (ti p m) p.pages.length := by unfold j3; rw [hE, pf]
  refine ay ?_
  refine K10 _ ?_
  refine yS fun _ K12 => ?_
  refine yR ?_
  refine yF rfl rfl rfl rfl ?_
  refine yL rfl rfl rfl ?_
  refine aa rfl (bi rfl rfl (List.length_map _)) ?_
  try dsimp only [St.put]
  refine af rfl (bd rfl rfl rfl (uat p.pages.length) ?_)
  refine aa rfl (pp rfl rfl) ?_
  try dsimp only [St.put]
  refine af rfl (ei rfl rfl rfl (udq n p.pages.length (ti p m) 78 [.elem (cells (gh p (cy p) (dd p))), .elem [.v (.int .i64 m)]] hnp (ua7 p _ _ _) (fun s _ => ujr p m s _ hok (by have := sn p.pages.length s; omega) (fun z hz => by obtain ⟨i, rfl, hi, _⟩ := membersL_mem.1 hz; omega))) zG (by dsimp only [St.put]; omega) ?_)
  refine yA rfl rfl ?_
  refine yA rfl rfl ?_
  refine yN ?_
  dsimp only [St.put]
  refine K12 _ ?_
  refine ax ?_
  refine ia rfl (eg (by constructor)) (eg (by constructor)) zN zS ?_ ?_
  ·rw [hV]; exact zW
  rw [hE]; exact zW
 refine yR ?_
 refine yM rfl rfl ?_
 refine yM rfl rfl ?_
 try dsimp only [St.put]
 refine af rfl (ei rfl rfl rfl (r8 n p (jp p) (cx p) pa hL) zG (by dsimp only [St.put]; omega) ?_)
 refine yM rfl rfl ?_
 refine yX rfl rfl rfl rfl ?_
 refine yX rfl rfl rfl rfl ?_
 try dsimp only [St.put]
 refine af rfl (ed rfl ?_)
 try dsimp only [St.put]
 refine af rfl (dj rfl rfl rfl zG rfl rfl (by rfl) ?_)
 refine yA rfl rfl ?_
 refine yN ?_
 dsimp only [St.put]
 refine K9 _ ?_
 refine gp (i := 8) rfl zG zC ?_
 dsimp only
 refine yS fun _ K13 => ?_
 refine yS fun _ K14 => ?_
 refine yR ?_
 refine yM rfl rfl ?_
 refine aa rfl (fk rfl rfl rfl) ?_
 refine yN ?_
 dsimp only [St.put]
 refine K14 _ ?_
 refine aq rfl (fun hc => ?_) (fun hc => ?_)
 ·have hTB : ie p = false := by
   cases h : ie p
   ·rfl
   exact absurd (by rw [h0, qs, h]; rfl) hL
  have hE : i7 p m = 8 := um5 h0 hm hTB
  have hV : j3 p m = [] := by unfold j3; rw [hE, lf (by decide)]
  have hL8 : fj p (cx p) = 8 := by rw [h0, qs, hTB]; rfl
  refine yS fun _ K15 => ?_
  refine yR ?_
  refine yM rfl rfl ?_
  refine yA rfl rfl ?_
  refine yA rfl rfl ?_
  refine yN ?_
  dsimp only [St.put]
  refine K15 _ ?_
  refine ax ?_
  refine ia rfl (eg (by constructor)) (eg (by constructor)) zN zS ?_ ?_
  ·rw [hV]; exact zW
  rw [hE, hL8]; exact zW
 exact absurd (ii hc) hL
end Go.Proofs.YtbbdginipiljdaaGreatDoor
namespace Go.AB
open Go Go.RowKit
open Go.AB.Enc (cells)
open Go.PB (ba ai PlaceD bh bk bj bw ar ah cw bv dc dg)
def qi (p : ah) : Bool := !n2 p && decide (cx p = 0)
section
variable {P : Program} {o : Oper} {st : St} {K : St → Prop}
/-- What stands in a slot is known less well, ahead of an operation. -/
theorem e_wk (i : Nat) {c : C} (c' : C) (h0 : st.at i = c) (hw : Wk c c') (h : EStep P o { st with r := (i, c') :: st.r } K) : EStep P o st K := by
 intro E w a hs
 have hp := hs.at i
 rw [h0] at hp
 refine h E w a ⟨hs.d, hs.sz, fun j v hj => ?_, hs.g⟩
 simp only [dt]
 cases hb : Nat.beq i j
 ·exact hs.t j v hj
 have hij := Nat.eq_of_beq_eq_true hb
 subst hij
 have hv : a.tmps.getD i undef = v := by rw [Array.getD_eq_getD_getElem?, hj]; rfl
 rw [hv] at hp
 exact hw.2 _ _ _ hp
end
theorem li {α : Type} [Enc α] (l : List α) : ∀ r ∈ l.map cells, r.length = Enc.n α := fun r hr => by
 obtain ⟨y, _, rfl⟩ := List.mem_map.1 hr
 exact Enc.len y
theorem readyP_true {p : ah} : qi p = true ↔ n2 p = false ∧ cx p = 0 := by simp [qi]
end Go.AB
namespace Go.Proofs.YtbbdginipiljdaaGreatDoor
set_option maxRecDepth 10000
open Go Go.RowKit Go.AB
open Go.AB.Enc (cells)
open Go.PB (ba ai PlaceD bh bk bj bw ar ah cw bv dc dg)
theorem uc3 (a : List PlaceD) : Pure Tryz.prog 61 [lst a, lst a] (.v (.bool true)) := by
 have := uoe a a
 rwa [decide_eq_true rfl] at this
theorem uc4 (a : List Int) (ha : a.length ≤ 1000) : Pure Tryz.prog 19 [lst a, lst a] (.v (.bool true)) := by
 have := ube a a ha
 rwa [decide_eq_true rfl] at this
theorem pu (a b c : Int) : Pure Tryz.prog 68 [.v (.int .i64 a), .v (.int .i64 b), .v (.int .i64 c)] (val (⟨a, b, c⟩ : PlaceD)) := by
 refine c4 Tryz.func68 rfl (fun m => (el _ _)) fun G nx => ?_
 simp only [Tryz.ntmps68, List.length_cons, List.length_nil, Nat.reduceAdd, Nat.reduceSub]
 refine bx fun hlt => ?_
 dsimp only at hlt
 refine yS fun _ K1 => ?_
 refine yR ?_
 try dsimp only [St.put]
 refine af rfl (ed rfl ?_)
 refine yN ?_
 dsimp only [St.put]
 refine K1 _ ?_
 refine yS fun _ K2 => ?_
 refine yR ?_
 refine yM rfl rfl ?_
 refine yM rfl rfl ?_
 refine yM rfl rfl ?_
 refine aa rfl (ij rfl rfl) ?_
 try dsimp only [St.put]
 refine af rfl (dj rfl rfl rfl zG rfl rfl (by rfl) ?_)
 refine yN ?_
 dsimp only [St.put]
 refine K2 _ ?_
 refine ax ?_
 refine o9 rfl (jz rfl zG (by rfl) zC rfl) zN zS ?_
 exact zW
theorem sy (l : List PlaceD) : Pure Tryz.prog 67 [lst l] (lst l) := by
 refine c4 Tryz.func67 rfl (fun m => (b9 _ _)) fun G nx => ?_
 simp only [Tryz.ntmps67, List.length_cons, List.length_nil, Nat.reduceAdd, Nat.reduceSub]
 refine bx fun hlt => ?_
 dsimp only at hlt
 refine yS fun _ K1 => ?_
 refine yR ?_
 refine yA rfl rfl ?_
 refine yN ?_
 dsimp only [St.put]
 refine K1 _ ?_
 refine yS fun _ K2 => ?_
 refine yR ?_
 refine yM rfl rfl ?_
 refine yA rfl rfl ?_
 refine yN ?_
 dsimp only [St.put]
 refine K2 _ ?_
 refine ax ?_
 refine bg rfl (by constructor) zN zS ?_
 rfl
theorem m3 : Pure Tryz.prog 63 [] (val exPr) := by
 refine c4 Tryz.func63 rfl (fun m => (el _ _)) fun G nx => ?_
 simp only [Tryz.ntmps63, List.length_cons, List.length_nil, Nat.reduceAdd, Nat.reduceSub]
 refine bx fun hlt => ?_
 dsimp only at hlt
 refine yS fun _ K1 => ?_
 refine yR ?_
 try dsimp only [St.put]
 refine af rfl (ed rfl ?_)
 refine yN ?_
 dsimp only [St.put]
 refine K1 _ ?_
 refine yS fun _ K2 => ?_
 refine yR ?_
 try dsimp only [St.put]
 refine af rfl (ca (rows := ([mi, i3, xIs, mj] : List ByteArray).map cells) rfl rfl rfl (by decide) (by decide) (li _) (by decide) ?_)
 try dsimp only [St.put]
 refine af rfl (ca (rows := ([mj, mi, i3] : List ByteArray).map cells) rfl rfl rfl (by decide) (by decide) (li _) (by decide) ?_)
 try dsimp only [St.put]
 refine af rfl (ca (rows := ([[mi, i3, xIs, mj], [mj, mi, i3]] : List (List ByteArray)).map cells) rfl rfl rfl (by decide) (by decide) (li _) (by decide) ?_)
 refine aa rfl (ij (cs := cells (⟨7, [[mi, i3, xIs, mj], [mj, mi, i3]]⟩ : ba)) rfl rfl) ?_
 try dsimp only [St.put]
 refine af rfl (ca (rows := ([i3, rj, i3] : List ByteArray).map cells) rfl rfl rfl (by decide) (by decide) (li _) (by decide) ?_)
 try dsimp only [St.put]
 refine af rfl (ca (rows := ([[i3, rj, i3]] : List (List ByteArray)).map cells) rfl rfl rfl (by decide) (by decide) (li _) (by decide) ?_)
 refine aa rfl (ij (cs := cells (⟨3, [[i3, rj, i3]]⟩ : ba)) rfl rfl) ?_
 try dsimp only [St.put]
 refine af rfl (ca (rows := ([⟨7, [[mi, i3, xIs, mj], [mj, mi, i3]]⟩, ⟨3, [[i3, rj, i3]]⟩] : List ba).map cells) rfl rfl rfl (by decide) (by decide) (li _) (by decide) ?_)
 refine aa rfl (ij (cs := [lst exTx]) rfl rfl) ?_
 refine aa rfl (ij (cs := cells (⟨1, 50⟩ : bw)) rfl rfl) ?_
 refine aa rfl (ij (cs := cells (⟨2, 0⟩ : bw)) rfl rfl) ?_
 try dsimp only [St.put]
 refine af rfl (ca (rows := ([⟨1, 50⟩, ⟨2, 0⟩] : List bw).map cells) rfl rfl rfl (by decide) (by decide) (li _) (by decide) ?_)
 refine aa rfl (ij (cs := cells (⟨3, 60⟩ : bw)) rfl rfl) ?_
 try dsimp only [St.put]
 refine af rfl (ca (rows := ([⟨3, 60⟩] : List bw).map cells) rfl rfl rfl (by decide) (by decide) (li _) (by decide) ?_)
 try dsimp only [St.put]
 refine af rfl (bd rfl rfl rfl (pu _ _ _) ?_)
 try dsimp only [St.put]
 refine af rfl (ca (rows := ([⟨0, 0, 0⟩] : List PlaceD).map cells) rfl rfl rfl (by decide) (by decide) (li _) (by decide) ?_)
 try dsimp only [St.put]
 refine af rfl (bd rfl rfl rfl (sy [⟨0, 0, 0⟩]) ?_)
 try dsimp only [St.put]
 refine af rfl (bd rfl rfl rfl (pu _ _ _) ?_)
 try dsimp only [St.put]
 refine af rfl (bd rfl rfl rfl (pu _ _ _) ?_)
 try dsimp only [St.put]
 refine af rfl (ca (rows := ([⟨0, 0, 0⟩, ⟨0, 0, 3⟩] : List PlaceD).map cells) rfl rfl rfl (by decide) (by decide) (li _) (by decide) ?_)
 try dsimp only [St.put]
 refine af rfl (bd rfl rfl rfl (sy [⟨0, 0, 0⟩, ⟨0, 0, 3⟩]) ?_)
 refine aa rfl (ij (cs := cells (⟨0, 0, 0, 0, [⟨0, 0, 0⟩], [⟨0, 0, 0⟩, ⟨0, 0, 3⟩]⟩ : ar)) rfl rfl) ?_
 try dsimp only [St.put]
 refine af rfl (bd rfl rfl rfl (pu _ _ _) ?_)
 try dsimp only [St.put]
 refine af rfl (ca (rows := ([⟨0, 1, 1⟩] : List PlaceD).map cells) rfl rfl rfl (by decide) (by decide) (li _) (by decide) ?_)
 try dsimp only [St.put]
 refine af rfl (bd rfl rfl rfl (sy [⟨0, 1, 1⟩]) ?_)
 refine aa rfl (ij (cs := [.v (.int .i64 1), .v (.int .i64 2), .v (.int .i64 0), .v (.int .i64 (-1)), lst ([⟨0, 1, 1⟩] : List PlaceD), .list [] .nil]) rfl rfl) ?_
 try dsimp only [St.put]
 refine af rfl (e_wk 26 (val (⟨1, 2, 0, -1, [⟨0, 1, 1⟩], []⟩ : ar)) rfl (by show Wk _ (.agg _); exact zW) ?_)
 dsimp only
 refine ca (rows := ([⟨0, 0, 0, 0, [⟨0, 0, 0⟩], [⟨0, 0, 0⟩, ⟨0, 0, 3⟩]⟩, ⟨1, 2, 0, -1, [⟨0, 1, 1⟩], []⟩] : List ar).map cells) rfl rfl rfl (by decide) (by decide) (li _) (by decide) ?_
 refine aa rfl (ij (cs := [lst exTx, lst exPr.firsts, lst exPr.seconds, lst exPr.pages]) rfl rfl) ?_
 try dsimp only [St.put]
 refine af rfl (dj rfl rfl rfl zG rfl rfl (by rfl) ?_)
 refine yN ?_
 dsimp only [St.put]
 refine K2 _ ?_
 refine ax ?_
 refine o9 rfl (jz rfl zG (by rfl) zC rfl) zN zS ?_
 exact zW
theorem ulm (n : Nat) (b : Bool) (r want : Int) : fg n e9 Tryz.prog 69 [.v (.bool b), .v (.int .i64 r), .v (.int .i64 want)] (.v (.bool (decide (j8 exPr b r = 0) && decide (n8 exPr b r = want)))) := fun G nx hF hnx => by
 refine ip (G) (nx) Tryz.func69 rfl (.v) zN (fun hlt => zH) ?_
 simp only [Tryz.ntmps69, List.length_cons, List.length_nil, Nat.reduceAdd, Nat.reduceSub]
 refine bx fun hlt => ?_
 dsimp only at hlt
 refine yS fun _ K1 => ?_
 refine yR ?_
 refine yA rfl rfl ?_
 refine yN ?_
 dsimp only [St.put]
 refine K1 _ ?_
 refine yS fun _ K2 => ?_
 refine yR ?_
 try dsimp only [St.put]
 refine af rfl (bd rfl rfl rfl (m3) ?_)
 refine yM rfl rfl ?_
 refine yM rfl rfl ?_
 try dsimp only [St.put]
 refine af rfl (ei rfl rfl rfl (ujs n exPr b r) zG (by dsimp only [St.put]; omega) ?_)
 refine yM rfl rfl ?_
 refine yX rfl rfl rfl rfl ?_
 refine yX rfl rfl rfl rfl ?_
 refine yA rfl rfl ?_
 refine yA rfl rfl ?_
 refine yN ?_
 dsimp only [St.put]
 refine K2 _ ?_
 refine yS fun _ K3 => ?_
 refine yR ?_
 refine yM rfl rfl ?_
 refine aa rfl (fm rfl rfl rfl) ?_
 refine eo (fun hs => ?_) (fun hs => ?_)
 ·have h1 : decide (j8 exPr b r = 0) = true := hs
  refine yM rfl rfl ?_
  refine yM rfl rfl ?_
  refine yM rfl rfl ?_
  refine aa rfl (fm rfl rfl rfl) ?_
  refine aa rfl (cb rfl rfl (by constructor)) ?_
  refine yA rfl rfl ?_
  refine yN ?_
  dsimp only [St.put]
  refine K3 _ ?_
  refine ax ?_
  refine bg rfl (by constructor) zN zS ?_
  exact vb (by rw [h1]; rfl)
 have h1 : decide (j8 exPr b r = 0) = false := hs
 refine yM rfl rfl ?_
 refine yK rfl ?_
 refine yK rfl ?_
 refine yK rfl ?_
 refine aa rfl (ct rfl rfl (by constructor)) ?_
 refine yA rfl rfl ?_
 refine yN ?_
 dsimp only [St.put]
 refine K3 _ ?_
 refine ax ?_
 refine bg rfl (by constructor) zN zS ?_
 exact vb (by rw [h1]; rfl)
theorem ull (n : Nat) (m : Int) (want : List Int) : fg n e9 Tryz.prog 70 [.v (.int .i64 m), lst want] (.v (.bool (decide (i7 exPr m = 0) && decide (j3 exPr m = want)))) := fun G nx hF hnx => by
 refine ip (G) (nx) Tryz.func70 rfl (.v) zN (fun hlt => zH) ?_
 simp only [Tryz.ntmps70, List.length_cons, List.length_nil, Nat.reduceAdd, Nat.reduceSub]
 refine bx fun hlt => ?_
 dsimp only at hlt
 have hcl : (j3 exPr m).length ≤ 1000 := by
  unfold j3 atE
  cases decide (i7 exPr m = 0)
  ·exact Nat.zero_le _
  have := ues (ti exPr m) exPr.pages.length
  have e : exPr.pages.length = 2 := rfl
  show (m9 (ti exPr m) exPr.pages.length).length ≤ 1000
  omega
 refine yS fun _ K1 => ?_
 refine yR ?_
 refine yA rfl rfl ?_
 refine yN ?_
 dsimp only [St.put]
 refine K1 _ ?_
 refine yS fun _ K2 => ?_
 refine yR ?_
 try dsimp only [St.put]
 refine af rfl (bd rfl rfl rfl (m3) ?_)
 refine yM rfl rfl ?_
 try dsimp only [St.put]
 refine af rfl (ei rfl rfl rfl (ujq n exPr m) zG (by dsimp only [St.put]; omega) ?_)
 refine yM rfl rfl ?_
 refine yX rfl rfl rfl rfl ?_
 refine yX rfl rfl rfl rfl ?_
 refine yA rfl rfl ?_
 refine yA rfl rfl ?_
 refine yN ?_
 dsimp only [St.put]
 refine K2 _ ?_
 refine yS fun _ K3 => ?_
 refine yR ?_
 refine yM rfl rfl ?_
 refine aa rfl (fm rfl rfl rfl) ?_
 refine eo (fun hs => ?_) (fun hs => ?_)
 ·have h1 : decide (i7 exPr m = 0) = true := hs
  refine yM rfl rfl ?_
  refine yM rfl rfl ?_
  refine yM rfl rfl ?_
  try dsimp only [St.put]
  refine af rfl (bd rfl rfl rfl (ube (j3 exPr m) want hcl) ?_)
  refine aa rfl (cb rfl rfl (by constructor)) ?_
  refine yA rfl rfl ?_
  refine yN ?_
  dsimp only [St.put]
  refine K3 _ ?_
  refine ax ?_
  refine bg rfl (by constructor) zN zS ?_
  exact vb (by rw [h1]; rfl)
 have h1 : decide (i7 exPr m = 0) = false := hs
 refine yM rfl rfl ?_
 refine yK rfl ?_
 refine yK rfl ?_
 refine yK rfl ?_
 refine aa rfl (ct rfl rfl (by constructor)) ?_
 refine yA rfl rfl ?_
 refine yN ?_
 dsimp only [St.put]
 refine K3 _ ?_
 refine ax ?_
 refine bg rfl (by constructor) zN zS ?_
 exact vb (by rw [h1]; rfl)
theorem un3 (n : Nat) : fg n e9 Tryz.prog 62 [val exPr, .v (.int .i64 1)] (.tup [.v (.int .i64 6), .v (.int .i64 0)]) := by
 have := ujd n exPr 1
 rwa [xp_words.1, xp_words.2.1] at this
theorem un7 (n : Nat) : fg n e9 Tryz.prog 64 [val exPr, .v (.int .i64 0)] (.tup [lst ([⟨0, 0, 0⟩, ⟨0, 0, 3⟩] : List PlaceD), .v (.int .i64 0)]) := by
 have := ubt n exPr 0
 rwa [xp_found.1, xp_words.2.2.2] at this
theorem uoa (n : Nat) : fg n e9 Tryz.prog 65 [val exPr, .v (.int .i64 0)] (.tup [lst ([⟨0, 0, 0⟩] : List PlaceD), .v (.int .i64 0)]) := by
 have := ujt n exPr 0
 rwa [xp_found.2, xp_words.2.2.2] at this
theorem un6 (n : Nat) : fg n e9 Tryz.prog 66 [val exPr, .v (.int .i64 0)] (.tup [val (⟨2, 2⟩ : bv), .v (.int .i64 0)]) := by
 have := ujp n exPr 0
 rwa [xp_guess.1, xp_guess.2] at this
theorem un5 (n : Nat) : fg n e9 Tryz.prog 11 [val exPr, .v (.int .i64 1)] (.tup [val (⟨0, 1⟩ : bv), .v (.int .i64 0)]) := by
 have := ubp n exPr 1
 rwa [xp_remain.1, xp_remain.2.1] at this
theorem un4 (n : Nat) : fg n e9 Tryz.prog 13 [val exPr] (.tup [val (⟨0, 1⟩ : bv), .v (.int .i64 0)]) := by
 have := uji n exPr
 rwa [uft, tx] at this
theorem un2 (n : Nat) : fg n e9 Tryz.prog 15 [val exPr] (.tup [lst ([1, 0] : List Int), .v (.int .i64 0)]) := by
 have := xu n exPr
 rwa [ufs, tx] at this
theorem alWhy (n : Nat) : fg n e9 Tryz.prog 17 [val exPr] (.tup [lst ([0] : List Int), lst ([] : List Int), .v (.int .i64 0)]) := by
 have := ujg n exPr
 rwa [tx, pf, pf, xp_why.1, xp_why.2] at this
theorem un9 (n : Nat) : fg n e9 Tryz.prog 69 [.v (.bool false), .v (.int .i64 0), .v (.int .i64 4)] (.v (.bool true)) := by
 have := ulm n false 0 4
 rwa [xp_bound.1, xp_bound.2.1] at this
theorem un8 (n : Nat) : fg n e9 Tryz.prog 70 [.v (.int .i64 0), lst ([0, 1] : List Int)] (.v (.bool true)) := by
 have := ull n 0 [0, 1]
 rwa [xp_chief.1, xp_chief.2.1] at this
set_option maxHeartbeats 4000000 in
theorem un1 (n : Nat) : fg n e9 Tryz.prog 21 [] (.v (.bool true)) := fun G nx hF hnx => by
 refine ip (G) (nx) Tryz.func21 rfl (.v) zN (fun hlt => zH) ?_
 simp only [Tryz.ntmps21, List.length_cons, List.length_nil, Nat.reduceAdd, Nat.reduceSub]
 refine bx fun hlt => ?_
 dsimp only at hlt
 refine yS fun _ K1 => ?_
 refine yR ?_
 refine yA rfl rfl ?_
 refine yN ?_
 dsimp only [St.put]
 refine K1 _ ?_
 refine yS fun _ K2 => ?_
 refine yR ?_
 try dsimp only [St.put]
 refine af rfl (bd rfl rfl rfl (m3) ?_)
 try dsimp only [St.put]
 refine af rfl ((ei rfl rfl rfl ((un3 n)) zG (by dsimp only [St.put]; omega) ?_))
 refine yM rfl rfl ?_
 refine yX rfl rfl rfl rfl ?_
 refine yX rfl rfl rfl rfl ?_
 refine yA rfl rfl ?_
 refine yA rfl rfl ?_
 refine yN ?_
 dsimp only [St.put]
 refine K2 _ ?_
 refine yS fun _ K3 => ?_
 refine yR ?_
 try dsimp only [St.put]
 refine af rfl (bd rfl rfl rfl (m3) ?_)
 try dsimp only [St.put]
 refine af rfl ((ei rfl rfl rfl ((un7 n)) zG (by dsimp only [St.put]; omega) ?_))
 refine yM rfl rfl ?_
 refine yX rfl rfl rfl rfl ?_
 refine yX rfl rfl rfl rfl ?_
 refine yA rfl rfl ?_
 refine yA rfl rfl ?_
 refine yN ?_
 dsimp only [St.put]
 refine K3 _ ?_
 refine yS fun _ K4 => ?_
 refine yR ?_
 try dsimp only [St.put]
 refine af rfl (bd rfl rfl rfl (m3) ?_)
 try dsimp only [St.put]
 refine af rfl ((ei rfl rfl rfl ((uoa n)) zG (by dsimp only [St.put]; omega) ?_))
 refine yM rfl rfl ?_
 refine yX rfl rfl rfl rfl ?_
 refine yX rfl rfl rfl rfl ?_
 refine yA rfl rfl ?_
 refine yA rfl rfl ?_
 refine yN ?_
 dsimp only [St.put]
 refine K4 _ ?_
 refine yS fun _ K5 => ?_
 refine yR ?_
 try dsimp only [St.put]
 refine af rfl (bd rfl rfl rfl (m3) ?_)
 try dsimp only [St.put]
 refine af rfl ((ei rfl rfl rfl ((un6 n)) zG (by dsimp only [St.put]; omega) ?_))
 refine yM rfl rfl ?_
 refine yX rfl rfl rfl rfl ?_
 refine yX rfl rfl rfl rfl ?_
 try dsimp only [St.put]
 refine af rfl (ed rfl ?_)
 try dsimp only [St.put]
 refine af rfl (dj rfl rfl rfl zG rfl rfl (by rfl) ?_)
 refine yA rfl rfl ?_
 refine yN ?_
 dsimp only [St.put]
 refine K5 _ ?_
 refine gp (i := 7) rfl zG zC ?_
 dsimp only
 refine yS fun _ K6 => ?_
 refine yR ?_
 try dsimp only [St.put]
 refine af rfl (bd rfl rfl rfl (m3) ?_)
 try dsimp only [St.put]
 refine af rfl ((ei rfl rfl rfl ((un5 n)) zG (by dsimp only [St.put]; omega) ?_))
 refine yM rfl rfl ?_
 refine yX rfl rfl rfl rfl ?_
 refine yX rfl rfl rfl rfl ?_
 try dsimp only [St.put]
 refine af rfl (ed rfl ?_)
 try dsimp only [St.put]
 refine af rfl (dj rfl rfl rfl zG rfl rfl (by rfl) ?_)
 refine yA rfl rfl ?_
 refine yN ?_
 dsimp only [St.put]
 refine K6 _ ?_
 refine gp (i := 9) rfl zG zC ?_
 dsimp only
 refine yS fun _ K7 => ?_
 refine yR ?_
 try dsimp only [St.put]
 refine af rfl (bd rfl rfl rfl (m3) ?_)
 try dsimp only [St.put]
 refine af rfl ((ei rfl rfl rfl ((un4 n)) zG (by dsimp only [St.put]; omega) ?_))
 refine yM rfl rfl ?_
 refine yX rfl rfl rfl rfl ?_
 refine yX rfl rfl rfl rfl ?_
 try dsimp only [St.put]
 refine af rfl (ed rfl ?_)
 try dsimp only [St.put]
 refine af rfl (dj rfl rfl rfl zG rfl rfl (by rfl) ?_)
 refine yA rfl rfl ?_
 refine yN ?_
 dsimp only [St.put]
 refine K7 _ ?_
 refine gp (i := 11) rfl zG zC ?_
 dsimp only
 refine yS fun _ K8 => ?_
 refine yR ?_
 try dsimp only [St.put]
 refine af rfl (bd rfl rfl rfl (m3) ?_)
 try dsimp only [St.put]
 refine af rfl ((ei rfl rfl rfl ((un2 n)) zG (by dsimp only [St.put]; omega) ?_))
 refine yM rfl rfl ?_
 refine yX rfl rfl rfl rfl ?_
 refine yX rfl rfl rfl rfl ?_
 refine yA rfl rfl ?_
 refine yA rfl rfl ?_
 refine yN ?_
 dsimp only [St.put]
 refine K8 _ ?_
 refine yS fun _ K9 => ?_
 refine yR ?_
 try dsimp only [St.put]
 refine af rfl (bd rfl rfl rfl (m3) ?_)
 try dsimp only [St.put]
 refine af rfl ((ei rfl rfl rfl ((alWhy n)) zG (by dsimp only [St.put]; omega) ?_))
 refine yM rfl rfl ?_
 refine yX rfl rfl rfl rfl ?_
 refine yX rfl rfl rfl rfl ?_
 refine yX rfl rfl rfl rfl ?_
 refine yA rfl rfl ?_
 refine yA rfl rfl ?_
 refine yA rfl rfl ?_
 refine yN ?_
 dsimp only [St.put]
 refine K9 _ ?_
 refine yS fun _ K10 => ?_
 refine co 18 ?_
 refine zQ ?_
 refine c7 G zX ?_
 dsimp only
 refine yR ?_
 refine yM rfl rfl ?_
 refine aa rfl (ez (fm rfl rfl rfl) (decide_eq_true (by omega))) ?_
 refine yM rfl rfl ?_
 refine yM rfl rfl ?_
 ((first | refine aa rfl ((ez (c := true) (fm rfl rfl rfl) (decide_eq_true rfl))) ?_ | refine ae rfl rfl rfl rfl ((ez (c := true) (fm rfl rfl rfl) (decide_eq_true rfl))) ?_ | refine dq rfl rfl rfl rfl ((ez (c := true) (fm rfl rfl rfl) (decide_eq_true rfl))) ?_ | refine tp rfl rfl rfl ((ez (c := true) (fm rfl rfl rfl) (decide_eq_true rfl))) ?_))
 refine aa rfl (cb rfl rfl (by constructor)) ?_
 refine yM rfl rfl ?_
 refine yM rfl rfl ?_
 refine aa rfl (ez (fm rfl rfl rfl) (decide_eq_true (by omega))) ?_
 refine aa rfl (cb rfl rfl (by constructor)) ?_
 refine yM rfl rfl ?_
 refine yM rfl rfl ?_
 try dsimp only [St.put]
 refine af rfl (bd rfl rfl rfl (pu _ _ _) ?_)
 try dsimp only [St.put]
 refine af rfl (bd rfl rfl rfl (pu _ _ _) ?_)
 try dsimp only [St.put]
 refine af rfl (ca rfl rfl rfl (by decide) (by decide) zR (by decide) ?_)
 try dsimp only [St.put]
 refine af rfl (bd rfl rfl rfl (sy [⟨0, 0, 0⟩, ⟨0, 0, 3⟩]) ?_)
 try dsimp only [St.put]
 refine af rfl (bd rfl rfl rfl (uc3 [⟨0, 0, 0⟩, ⟨0, 0, 3⟩]) ?_)
 refine aa rfl (cb rfl rfl (by constructor)) ?_
 refine yM rfl rfl ?_
 refine yM rfl rfl ?_
 refine aa rfl (ez (fm rfl rfl rfl) (decide_eq_true (by omega))) ?_
 refine aa rfl (cb rfl rfl (by constructor)) ?_
 refine yM rfl rfl ?_
 refine yM rfl rfl ?_
 try dsimp only [St.put]
 refine af rfl (bd rfl rfl rfl (pu _ _ _) ?_)
 try dsimp only [St.put]
 refine af rfl (ca rfl rfl rfl (by decide) (by decide) zR (by decide) ?_)
 try dsimp only [St.put]
 refine af rfl (bd rfl rfl rfl (sy [⟨0, 0, 0⟩]) ?_)
 try dsimp only [St.put]
 refine af rfl (bd rfl rfl rfl (uc3 [⟨0, 0, 0⟩]) ?_)
 refine aa rfl (cb rfl rfl (by constructor)) ?_
 refine yM rfl rfl ?_
 try dsimp only [St.put]
 refine af rfl ((ei rfl rfl rfl ((un9 n)) zG (by dsimp only [St.put]; omega) ?_))
 refine aa rfl (cb rfl rfl (by constructor)) ?_
 refine yM rfl rfl ?_
 refine yM rfl rfl ?_
 refine aa rfl (ez (fm rfl rfl rfl) (decide_eq_true (by omega))) ?_
 refine aa rfl (cb rfl rfl (by constructor)) ?_
 refine yM rfl rfl ?_
 refine yE rfl rfl rfl ?_
 refine aa rfl (ij rfl rfl) ?_
 ((first | refine aa rfl ((ez (c := true) (kz (x := (⟨2, 2⟩ : bv)) (y := (⟨2, 2⟩ : bv)) rfl rfl rfl) (decide_eq_true rfl))) ?_ | refine ae rfl rfl rfl rfl ((ez (c := true) (kz (x := (⟨2, 2⟩ : bv)) (y := (⟨2, 2⟩ : bv)) rfl rfl rfl) (decide_eq_true rfl))) ?_ | refine dq rfl rfl rfl rfl ((ez (c := true) (kz (x := (⟨2, 2⟩ : bv)) (y := (⟨2, 2⟩ : bv)) rfl rfl rfl) (decide_eq_true rfl))) ?_ | refine tp rfl rfl rfl ((ez (c := true) (kz (x := (⟨2, 2⟩ : bv)) (y := (⟨2, 2⟩ : bv)) rfl rfl rfl) (decide_eq_true rfl))) ?_))
 refine aa rfl (cb rfl rfl (by constructor)) ?_
 refine yM rfl rfl ?_
 refine yM rfl rfl ?_
 refine aa rfl (ez (fm rfl rfl rfl) (decide_eq_true (by omega))) ?_
 refine aa rfl (cb rfl rfl (by constructor)) ?_
 refine yM rfl rfl ?_
 refine yE rfl rfl rfl ?_
 refine aa rfl (ij rfl rfl) ?_
 ((first | refine aa rfl ((ez (c := true) (kz (x := (⟨0, 1⟩ : bv)) (y := (⟨0, 1⟩ : bv)) rfl rfl rfl) (decide_eq_true rfl))) ?_ | refine ae rfl rfl rfl rfl ((ez (c := true) (kz (x := (⟨0, 1⟩ : bv)) (y := (⟨0, 1⟩ : bv)) rfl rfl rfl) (decide_eq_true rfl))) ?_ | refine dq rfl rfl rfl rfl ((ez (c := true) (kz (x := (⟨0, 1⟩ : bv)) (y := (⟨0, 1⟩ : bv)) rfl rfl rfl) (decide_eq_true rfl))) ?_ | refine tp rfl rfl rfl ((ez (c := true) (kz (x := (⟨0, 1⟩ : bv)) (y := (⟨0, 1⟩ : bv)) rfl rfl rfl) (decide_eq_true rfl))) ?_))
 refine aa rfl (cb rfl rfl (by constructor)) ?_
 refine yM rfl rfl ?_
 refine yM rfl rfl ?_
 refine aa rfl (ez (fm rfl rfl rfl) (decide_eq_true (by omega))) ?_
 refine aa rfl (cb rfl rfl (by constructor)) ?_
 refine yM rfl rfl ?_
 refine yE rfl rfl rfl ?_
 refine aa rfl (ij rfl rfl) ?_
 ((first | refine aa rfl ((ez (c := true) (kz (x := (⟨0, 1⟩ : bv)) (y := (⟨0, 1⟩ : bv)) rfl rfl rfl) (decide_eq_true rfl))) ?_ | refine ae rfl rfl rfl rfl ((ez (c := true) (kz (x := (⟨0, 1⟩ : bv)) (y := (⟨0, 1⟩ : bv)) rfl rfl rfl) (decide_eq_true rfl))) ?_ | refine dq rfl rfl rfl rfl ((ez (c := true) (kz (x := (⟨0, 1⟩ : bv)) (y := (⟨0, 1⟩ : bv)) rfl rfl rfl) (decide_eq_true rfl))) ?_ | refine tp rfl rfl rfl ((ez (c := true) (kz (x := (⟨0, 1⟩ : bv)) (y := (⟨0, 1⟩ : bv)) rfl rfl rfl) (decide_eq_true rfl))) ?_))
 refine aa rfl (cb rfl rfl (by constructor)) ?_
 refine yM rfl rfl ?_
 refine yM rfl rfl ?_
 refine aa rfl (ez (fm rfl rfl rfl) (decide_eq_true (by omega))) ?_
 refine aa rfl (cb rfl rfl (by constructor)) ?_
 refine yM rfl rfl ?_
 refine yM rfl rfl ?_
 try dsimp only [St.put]
 refine af rfl (ca rfl rfl rfl (by decide) (by decide) zR (by decide) ?_)
 try dsimp only [St.put]
 refine af rfl (bd rfl rfl rfl (uc4 [1, 0] (by decide)) ?_)
 refine aa rfl (cb rfl rfl (by constructor)) ?_
 refine yM rfl rfl ?_
 refine yM rfl rfl ?_
 refine aa rfl (ez (fm rfl rfl rfl) (decide_eq_true (by omega))) ?_
 refine aa rfl (cb rfl rfl (by constructor)) ?_
 refine yM rfl rfl ?_
 refine yM rfl rfl ?_
 try dsimp only [St.put]
 refine af rfl (ca rfl rfl rfl (by decide) (by decide) zR (by decide) ?_)
 try dsimp only [St.put]
 refine af rfl (bd rfl rfl rfl (uc4 [0] (by decide)) ?_)
 refine aa rfl (cb rfl rfl (by constructor)) ?_
 refine yM rfl rfl ?_
 refine yM rfl rfl ?_
 refine aa rfl (bi rfl rfl (List.length_map _)) ?_
 ((first | refine aa rfl ((ez (c := true) (fm rfl rfl rfl) (decide_eq_true rfl))) ?_ | refine ae rfl rfl rfl rfl ((ez (c := true) (fm rfl rfl rfl) (decide_eq_true rfl))) ?_ | refine dq rfl rfl rfl rfl ((ez (c := true) (fm rfl rfl rfl) (decide_eq_true rfl))) ?_ | refine tp rfl rfl rfl ((ez (c := true) (fm rfl rfl rfl) (decide_eq_true rfl))) ?_))
 refine aa rfl (cb rfl rfl (by constructor)) ?_
 refine yM rfl rfl ?_
 try dsimp only [St.put]
 refine af rfl (ca rfl rfl rfl (by decide) (by decide) zR (by decide) ?_)
 try dsimp only [St.put]
 refine af rfl ((ei rfl rfl rfl ((un8 n)) zG (by dsimp only [St.put]; omega) ?_))
 refine aa rfl (cb rfl rfl (by constructor)) ?_
 refine yA rfl rfl ?_
 refine yN ?_
 dsimp only [St.put]
 refine K10 _ ?_
 refine ax ?_
 refine bg rfl (by constructor) zN zS ?_
 rfl
theorem ulj (p : ah) : Pure Tryz.prog 22 [val p] (.v (.bool (qi p))) := by
 refine c4 Tryz.func22 rfl (fun m => .v) fun G nx => ?_
 simp only [Tryz.ntmps22, List.length_cons, List.length_nil, Nat.reduceAdd, Nat.reduceSub]
 refine bx fun hlt => ?_
 dsimp only at hlt
 refine yS fun _ K1 => ?_
 refine yR ?_
 try dsimp only [St.put]
 refine yB rfl rfl rfl ?_
 refine yA rfl rfl ?_
 refine yN ?_
 dsimp only [St.put]
 refine K1 _ ?_
 refine yS fun _ K2 => ?_
 refine yR ?_
 refine yE rfl rfl rfl ?_
 try dsimp only [St.put]
 refine af rfl (bd rfl rfl rfl (ui3 p) ?_)
 refine aa rfl (dw rfl rfl) ?_
 refine yM rfl rfl ?_
 refine eo (fun hs => ?_) (fun hs => ?_)
 ·have h1 : n2 p = false := by simpa using hs
  refine yE rfl rfl rfl ?_
  try dsimp only [St.put]
  refine af rfl (bd rfl rfl rfl (ui4 p) ?_)
  refine aa rfl (fm rfl rfl rfl) ?_
  refine aa rfl (cb rfl rfl (by constructor)) ?_
  refine yA rfl rfl ?_
  refine yN ?_
  dsimp only [St.put]
  refine K2 _ ?_
  refine ax ?_
  refine bg rfl (by constructor) zN zS ?_
  exact vb (by simp [qi, h1])
 have h1 : n2 p = true := by simpa using hs
 refine yK rfl ?_
 refine yK rfl ?_
 refine yK rfl ?_
 refine aa rfl (ct rfl rfl (by constructor)) ?_
 refine yA rfl rfl ?_
 refine yN ?_
 dsimp only [St.put]
 refine K2 _ ?_
 refine ax ?_
 refine bg rfl (by constructor) zN zS ?_
 exact vb (by simp [qi, h1])
end Go.Proofs.YtbbdginipiljdaaGreatDoor
namespace Go.AB
open Go Go.RowKit
open Go.AB.Enc (cells)
open Go.PB (ba ai PlaceD bh bk bj bw ar ah cw bv)
end Go.AB
namespace Go.AB
open Go Go.RowKit
open Go.AB.Enc (cells)
open Go.PB (ba ai PlaceD bh bk bj bw ar ah cw bv dc dg)
theorem u7 {P : Program} {o : Oper} {st : St} {xt yt : TypeId} {x y : Operand} {m n r : Int} (hr : m % n = r) (ho : o.op = .binOp .rem xt x y yt) (hx : evC st x = .v (.int .i64 m)) (hy : evC st y = .v (.int .i64 n)) (hm : 0 ≤ m ∧ m ≤ 9223372036854775807) (hn : 0 < n) : NStep P o st (.v (.int .i64 r)) := hr ▸ n_rem ho hx hy hm hn
theorem ujb {α : Type} {l : List α} {a : Int} (ha : 0 ≤ a) (h : l.length ≠ 0) : ∃ (i : Nat) (x : α), a % (l.length : Int) = (i : Int) ∧ l[i]? = some x := by
 have h2 := Int.emod_nonneg a (show (l.length : Int) ≠ 0 by omega)
 have h3 := Int.emod_lt_of_pos a (show (0 : Int) < (l.length : Int) by omega)
 have hlt : (a % (l.length : Int)).toNat < l.length := by omega
 exact ⟨_, l[(a % (l.length : Int)).toNat], by omega, List.getElem?_eq_getElem hlt⟩
section
variable {p : ah} {i : Nat} {x : ar}
theorem zp (h : cx p = 0) (hx : p.pages[i]? = some x) : em p (i : Int) = 0 := by
 have := (List.getElem?_eq_some_iff.1 hx).1
 unfold em
 rw [decide_eq_true h, cond_true, inB_true.2 (by omega)]
 rfl
theorem ujc (hx : p.pages[i]? = some x) : l4 p (i : Int) = x := by
 unfold l4
 rw [Int.toNat_natCast, hx]; rfl
end
end Go.AB
namespace Go.Proofs.YtbbdginipiljdaaGreatDoor
set_option maxRecDepth 10000
open Go Go.RowKit Go.AB
open Go.AB.Enc (cells)
open Go.PB (ba ai PlaceD bh bk bj bw ar ah cw bv dc dg)
section
variable {p : ah} {i : Nat} {x : ar}
theorem ulk (n : Nat) (h : cx p = 0) (hx : p.pages[i]? = some x) : fg n e9 Tryz.prog 64 [val p, .v (.int .i64 (i : Int))] (.tup [lst (cp p.text x), .v (.int .i64 0)]) := by
 have := ubt n p (i : Int)
 rwa [zp h hx, show o8 p (i : Int) = cp p.text x by unfold o8; rw [zp h hx, ujc hx]; rfl] at this
end
end Go.Proofs.YtbbdginipiljdaaGreatDoor
namespace Go.AB
open Go Go.RowKit
open Go.AB.Enc (cells)
open Go.PB (ba ai PlaceD bh bk bj bw ar ah cw bv dc dg)
theorem vn (g : Nat → Int) : ∀ n, (bp n g).sum = sm n g
 | 0 => rfl
 | n + 1 => by rw [rp, List.sum_append, vn g n]; simp [sm]
theorem uah {l : List Int} {k : Nat} {z : Int} (h : l[k]? = some z) : (l.take (k + 1)).sum = (l.take k).sum + z := by
 rw [List.take_add_one, h, Option.toList_some, List.sum_append]; simp
theorem ud {l : List Int} {m : Int} (h0 : 0 ≤ m) (h : ∀ z ∈ l, -m ≤ z ∧ z ≤ m) : ∀ k, k ≤ l.length → -(k * m) ≤ (l.take k).sum ∧ (l.take k).sum ≤ k * m
 | 0, _ => by simp
 | k + 1, hk => by
  have ih := ud h0 h k (by omega)
  have e := List.getElem?_eq_getElem (show k < l.length by omega)
  have hz := h _ (List.mem_of_getElem? e)
  rw [uah e]
  have e2 : ((k + 1 : Nat) : Int) * m = (k : Int) * m + m := by rw [Int.natCast_add, Int.add_mul]; simp
  omega
theorem ub {p : ah} (h : ef p) (j : Nat) : 0 ≤ dl p j ∧ dl p j ≤ 600 := by
 refine ⟨wz p j, ?_⟩
 have hq := lg h.text
 unfold dl ms
 cases p.pages[j]? with
 | none => show (0 : Int) ≤ 600; omega
 | some x => have := qy p.text x; show ((cp p.text x).length : Int) ≤ 600; omega
theorem w9 {n : Nat} {g : Nat → Int} {z : Int} (h : z ∈ bp n g) : ∃ i, i < n ∧ z = g i := by
 unfold bp at h
 obtain ⟨i, h1, h2⟩ := List.mem_map.1 h
 exact ⟨i, List.mem_range.1 h1, h2.symm⟩
theorem ul2 {n i : Nat} {g : Nat → Int} (h : i < n) : (c5 (bp n g))[i * 1]? = some (.v (.int .i64 (g i))) := qz (by rw [Nat.mul_one]; exact ja g h)
end Go.AB
namespace Go.Proofs.YtbbdginipiljdaaGreatDoor
set_option maxRecDepth 10000
open Go Go.RowKit Go.AB
open Go.AB.Enc (cells)
open Go.PB (ba ai PlaceD bh bk bj bw ar ah cw bv dc dg)
theorem yk (l : List Int) (hl : l.length ≤ 100) (hb : ∀ z ∈ l, -1000000000 ≤ z ∧ z ≤ 1000000000) : Pure Tryz.prog 30 [lst l] (.v (.int .i64 l.sum)) := by
 refine c4 Tryz.func30 rfl (fun m => .v) fun G nx => ?_
 simp only [Tryz.ntmps30, List.length_cons, List.length_nil, Nat.reduceAdd, Nat.reduceSub]
 refine bx fun hlt => ?_
 dsimp only at hlt
 refine yS fun _ K1 => ?_
 refine yR ?_
 refine yA rfl rfl ?_
 refine yN ?_
 dsimp only [St.put]
 refine K1 _ ?_
 refine yS fun _ K2 => ?_
 refine yR ?_
 refine yA rfl rfl ?_
 refine yN ?_
 dsimp only [St.put]
 refine K2 _ ?_
 refine yS fun _ K3 => ?_
 refine yS fun _ K4 => ?_
 refine yR ?_
 refine yM rfl rfl ?_
 refine aa rfl (bi rfl rfl (List.length_map _)) ?_
 refine yM rfl rfl ?_
 refine yN ?_
 dsimp only [St.put]
 refine K4 _ ?_
 refine bf ?_
 refine co 9 ?_
 refine zQ ?_
 refine c7 (G) zX ?_
 dsimp only
 refine c6 (X := Nat) (fun k => k ≤ l.length) (fun k => l.length - k) (fun k => [(3, .v (.int .i64 (l.take k).sum)), (5, .any), (8, .v (.int .i64 (k : Int)))]) (fun k G' => G') 0 rfl ?_ ?_ (fun _ _ h => h) ?_ ?_ ?_
 ·exact Nat.zero_le _
 ·exact zF
 ·rintro k hI
  exact zL
 ·exact fun _ _ _ _ h => .inl h
 rintro k hI
 dsimp only at hI ⊢
 refine yS fun _ K5 => ?_
 refine yR ?_
 refine aa rfl (cn rfl rfl rfl) ?_
 refine yN ?_
 dsimp only [St.put]
 refine K5 _ ?_
 refine yS fun _ K6 => ?_
 refine aq rfl (fun hc => ?_) (fun hc => ?_)
 ·replace hc := of_decide_eq_true hc
  obtain ⟨z, hz⟩ : ∃ z, l[k]? = some z := da (by omega)
  have h1 := ud (m := 1000000000) (by omega) hb k (by omega)
  have h2 := hb z (f5 hz)
  refine ay ?_
  refine K6 _ ?_
  refine yS fun _ K7 => ?_
  refine bf ?_
  refine yS fun _ K8 => ?_
  refine yR ?_
  refine aa rfl (br rfl rfl rfl rfl (bq (by assumption)) (Enc.len _)) ?_
  refine yL rfl rfl rfl ?_
  refine yA rfl rfl ?_
  refine yN ?_
  dsimp only [St.put]
  refine K8 _ ?_
  refine yR ?_
  refine yM rfl rfl ?_
  refine yM rfl rfl ?_
  refine aa rfl (bu rfl rfl rfl (by omega)) ?_
  refine yA rfl rfl ?_
  refine yN ?_
  dsimp only [St.put]
  refine K7 _ ?_
  refine yR ?_
  refine aa rfl (bu rfl rfl rfl (by omega)) ?_
  refine yM rfl rfl ?_
  refine yN ?_
  dsimp only [St.put]
  rw [← uah hz]
  exact ⟨k + 1, by omega, by omega, ⟨⟨rfl, rfl⟩, zF, zB, zN, zX⟩⟩
 replace hc := of_decide_eq_false hc
 refine cz ?_
 refine K3 _ ?_
 refine yS fun _ K9 => ?_
 refine yR ?_
 refine yM rfl rfl ?_
 refine yA rfl rfl ?_
 refine yN ?_
 dsimp only [St.put]
 refine K9 _ ?_
 refine ax ?_
 refine bg rfl (by constructor) zN zS ?_
 exact vi (by rw [gd (show l.length ≤ k by omega)])
theorem uc5 (n : Nat) (p : ah) (h : cx p = 0) : fg n e9 Tryz.prog 27 [val p] (.tup [lst (bp p.pages.length (dl p)), .v (.bool true)]) := fun G nx hF hnx => by
 refine ip (G) (nx) Tryz.func27 rfl (.tup (cm (b9 _ _) (cm .v di))) zN (fun hlt => zH) ?_
 simp only [Tryz.ntmps27, List.length_cons, List.length_nil, Nat.reduceAdd, Nat.reduceSub]
 refine bx fun hlt => ?_
 dsimp only at hlt
 have hnp := (lu h).1.np
 refine yS fun _ K1 => ?_
 refine yR ?_
 try dsimp only [St.put]
 refine yB rfl rfl rfl ?_
 refine yA rfl rfl ?_
 refine yA rfl rfl ?_
 refine yN ?_
 dsimp only [St.put]
 refine K1 _ ?_
 refine yS fun _ K2 => ?_
 refine yR ?_
 refine yA rfl rfl ?_
 refine yN ?_
 dsimp only [St.put]
 refine K2 _ ?_
 refine na 4 3 1 rfl (by decide) ?_
 dsimp only [List.set_cons_zero, List.set_cons_succ]
 refine yS fun _ K3 => ?_
 refine yS fun _ K4 => ?_
 refine yR ?_
 refine yF rfl rfl rfl rfl ?_
 refine yL rfl rfl rfl ?_
 refine aa rfl (bi rfl rfl (List.length_map _)) ?_
 refine yM rfl rfl ?_
 refine yN ?_
 dsimp only [St.put]
 refine K4 _ ?_
 refine bf ?_
 refine co 12 ?_
 refine zQ ?_
 refine c7 ((am G nx (.tip (bp 0 (dl p)).length 3 1))) zX ?_
 dsimp only
 refine c6 (X := Nat) (fun k => k ≤ p.pages.length) (fun k => p.pages.length - k) (fun k => [(4, .list ((bp k (dl p)).map cells) (.tip nx)), (5, .any), (6, .any), (7, .any), (11, .v (.int .i64 (k : Int)))]) (fun k G' => (am G nx (.tip (bp k (dl p)).length 3 1))) 0 rfl ?_ ?_ ?_ ?_ ?_ ?_
 ·exact Nat.zero_le _
 ·exact zF
 ·exact zX
 ·rintro k hI
  exact zL
 ·rintro k hI
  exact zH
 rintro k hI
 dsimp only at hI ⊢
 refine yS fun _ K5 => ?_
 refine yR ?_
 refine aa rfl (cn rfl rfl rfl) ?_
 refine yN ?_
 dsimp only [St.put]
 refine K5 _ ?_
 refine yS fun _ K6 => ?_
 refine aq rfl (fun hc => ?_) (fun hc => ?_)
 ·replace hc := of_decide_eq_true hc
  obtain ⟨x, hx⟩ : ∃ x, p.pages[k]? = some x := da (by omega)
  have e := rp k (dl p)
  rw [show dl p k = ((cp p.text x).length : Int) from oy hx _] at e
  have hll := g6 k (dl p)
  refine ay ?_
  refine K6 _ ?_
  refine yS fun _ K7 => ?_
  refine bf ?_
  refine yS fun _ K8 => ?_
  refine yR ?_
  refine yM rfl rfl ?_
  refine yA rfl rfl ?_
  refine yN ?_
  dsimp only [St.put]
  refine K8 _ ?_
  refine yS fun _ K9 => ?_
  refine yR ?_
  refine yE rfl rfl rfl ?_
  refine yM rfl rfl ?_
  try dsimp only [St.put]
  refine af rfl ((ei rfl rfl rfl ((ulk n h hx)) zG (by dsimp only [St.put]; omega) ?_))
  refine yM rfl rfl ?_
  refine yX rfl rfl rfl rfl ?_
  refine yX rfl rfl rfl rfl ?_
  refine yA rfl rfl ?_
  refine yA rfl rfl ?_
  refine yN ?_
  dsimp only [St.put]
  refine K9 _ ?_
  refine yS fun _ K10 => ?_
  refine yS fun _ K11 => ?_
  refine yR ?_
  refine yM rfl rfl ?_
  refine aa rfl (ez (c := false) (fk rfl rfl rfl) (u6 rfl)) ?_
  refine yN ?_
  dsimp only [St.put]
  refine K11 _ ?_
  refine aq rfl (fun h => by cases h) (fun _ => ?_)
  refine ay ?_
  refine K10 _ ?_
  refine yR ?_
  refine yM rfl rfl ?_
  refine yM rfl rfl ?_
  refine aa rfl (bi rfl rfl (List.length_map _)) ?_
  try dsimp only [St.put]
  refine af rfl (ca rfl rfl rfl (by decide) (by decide) zR (by decide) ?_)
  try dsimp only [St.put]
  refine af rfl (ce ([((cp p.text x).length : Int)]) rfl rfl zG zE rfl rfl zA ?_ zA)
  refine yA rfl rfl ?_
  refine yN ?_
  dsimp only [St.put]
  refine K7 _ ?_
  refine yR ?_
  refine aa rfl (bu rfl rfl rfl (by omega)) ?_
  refine yM rfl rfl ?_
  refine yN ?_
  dsimp only [St.put]
  rw [← e]
  exact ⟨k + 1, by omega, by omega, ⟨⟨rfl, rfl⟩, zF, zB, zN, zX⟩⟩
 replace hc := of_decide_eq_false hc
 obtain rfl : k = p.pages.length := by omega
 refine cz ?_
 refine K3 _ ?_
 refine yS fun _ K12 => ?_
 refine yR ?_
 refine yM rfl rfl ?_
 refine yA rfl rfl ?_
 refine yA rfl rfl ?_
 refine yN ?_
 dsimp only [St.put]
 refine K12 _ ?_
 refine ax ?_
 refine ia rfl (eg (by constructor)) (eg (by constructor)) zN zS ?_ ?_
 ·exact zW
 exact zW
theorem yj (p : ah) (h : ef p) (es : List Int) (hl : es.length ≤ 100) {b : Bool} (hb : jm p es = b) : Pure Tryz.prog 28 [val p, lst es] (.v (.bool b)) := hb ▸ ui1 p es h (by omega)
theorem ulh (n : Nat) (p : ah) (h : fj p (cx p) = 0) : fg n e9 Tryz.prog 15 [val p] (.tup [lst (bp p.pages.length (fw p)), .v (.int .i64 0)]) := by
 have := xu n p
 rwa [h, show ne p = bp p.pages.length (fw p) by unfold ne; rw [h]; rfl] at this
theorem uli (n : Nat) (p : ah) (h : fj p (cx p) = 0) {i : Nat} {x : ar} (hx : p.pages[i]? = some x) : fg n e9 Tryz.prog 11 [val p, .v (.int .i64 (i : Int))] (.tup [val (⟨0, (bt p).alone (cy p) (dd p) i⟩ : bv), .v (.int .i64 0)]) := by
 have hC := (qt h).1
 have hA : fj p (em p (i : Int)) = 0 := by
  rw [hC] at h
  rw [zp hC hx]
  exact h
 have := ubp n p (i : Int)
 rwa [hA, show nm p (i : Int) = ⟨0, (bt p).alone (cy p) (dd p) i⟩ by unfold nm; rw [hA, Int.toNat_natCast]; rfl] at this
end Go.Proofs.YtbbdginipiljdaaGreatDoor
namespace Go.AB
open Go Go.RowKit
open Go.AB.Enc (cells)
open Go.PB (ba ai PlaceD bh bk bj bw ar ah cw bv dc dg)
/-- one number put in a place -/
def gm (x : Nat → Int) (k : Nat) (v : Int) (j : Nat) : Int := bif decide (j = k) then v else x j
theorem uh0 (x : Nat → Int) (k : Nat) (v : Int) : gm x k v k = v := by unfold gm; rw [decide_eq_true rfl]; rfl
theorem uau (x : Nat → Int) (k : Nat) (v w : Int) : gm (gm x k v) k w = gm x k w := by
 funext j
 unfold gm
 cases decide (j = k) <;> rfl
/-- what is told, and more -/
def et (p : ah) (x : Nat → Int) (j : Nat) : Int := dl p j + x j
theorem uch (p : ah) : et p (fun _ => 0) = dl p := by funext j; simp [et]
theorem vc (p : ah) (x : Nat → Int) (k : Nat) (v : Int) : (fun j => bif decide (j = k) then dl p k + v else et p x j) = et p (gm x k v) := by
 funext j
 unfold et gm
 by_cases e : j = k
 ·subst e; rw [decide_eq_true rfl]; rfl
 ·rw [decide_eq_false e]; rfl
/-- .. is a truth, where it may be -/
def lh (p : ah) (x : Nat → Int) : Prop := (bt p).Feas (cy p) (dd p) x
theorem vz {p : ah} (h : ef p) (x : Nat → Int) : jm p (bp p.pages.length (et p x)) = true ↔ lh p x := uad h x
theorem ul8 {p : ah} (h : ef p) (ht : ie p = true) : lh p fun _ => 0 := by
 rw [← vz h, uch, ugu h]
 exact ht
theorem uds {p : ah} {x : Nat → Int} (h : lh p x) (k : Nat) : lh p (gm x k 0) := by
 refine Net.Feas.down h fun j hj => ?_
 have := (h.page j hj).1
 unfold gm
 cases decide (j = k)
 ·exact ⟨this, Int.le_refl _⟩
 ·exact ⟨Int.le_refl _, this⟩
theorem ul9 {p : ah} (h : ef p) {x : Nat → Int} (hx : lh p x) {j : Nat} (hj : j < p.pages.length) : 0 ≤ x j ∧ x j ≤ 600 := by
 have h1 := hx.page j hj
 have h2 := wb h j
 exact ⟨h1.1, Int.le_trans h1.2 h2.2⟩
theorem ug7 (p : ah) (x : Nat → Int) : (bp p.pages.length (et p x)).sum - (bp p.pages.length (dl p)).sum = sm p.pages.length x := by
 rw [vn, vn]
 have := nh p.pages.length (dl p) x
 unfold et
 omega
theorem ug5 {p : ah} (h : ef p) (ht : ie p = true) : (bp p.pages.length (fw p)).sum = qe p := by
 rw [vn]
 exact Net.worst_sum (qm h) (qc ht) fun j _ => p3 h j
theorem ug6 {p : ah} (h : ef p) {x : Nat → Int} (hx : lh p x) : sm p.pages.length x ≤ qe p := Net.feas_most (qm h) hx
theorem uf3 {p : ah} (h : ef p) (ht : ie p = true) {x : Nat → Int} (hx : lh p x) (hs : sm p.pages.length x = qe p) {i : Nat} (hi : i < p.pages.length) (he : ∀ j, j < i → x j = fw p j) : x i ≤ fw p i := Net.worst_lex (qm h) (qc ht) (fun j _ => p3 h j) hx hs hi he
end
end Go.AB
namespace Go.AB
open Go Go.RowKit Go.ChangeShapes Go.WideShapes
end Go.AB
namespace Go.Proofs.YtbbdginipiljdaaGreatDoor
set_option maxRecDepth 10000
open Go.ChangeShapes Go.WideShapes Go.ChangeAt Go.RowKit Go.AB
open Go.AB.Enc (cells)
open Go.PB (ba ai PlaceD bh bk bj)
instance : OpensE Tryz.prog 3 Int := .int (by kernel_rfl)
instance : OpensE Tryz.prog 9 ByteArray := .str (by kernel_rfl)
instance : OpensE Tryz.prog 130 (List ByteArray) := .slice (e := 9) (by kernel_rfl) (by decide)
instance : OpensE Tryz.prog 127 (List (List ByteArray)) := .slice (e := 130) (by kernel_rfl) (by decide)
instance : OpensE Tryz.prog 129 ba := .chap (tI := 3) (tL := 127) (by kernel_rfl)
instance : OpensE Tryz.prog 22 (List ba) := .slice (e := 129) (by kernel_rfl) (by decide)
theorem ugx : jn Tryz.prog 24 [(0, 22, 1)] 1 = true := by kernel_rfl
instance : OpensE Tryz.prog 24 (List ba) := .one (e := 22) ugx
theorem ui5 : jn Tryz.prog 61 [(0, 3, 1), (1, 3, 1), (2, 3, 1)] 3 = true := by kernel_rfl
instance : OpensE Tryz.prog 61 PlaceD := .place (tI := 3) ui5
theorem unf : Tryz.prog.underlying 4 = some .bool := by kernel_rfl
theorem ownZ : ownKnob Tryz.prog.godebug = none := by kernel_rfl
end Go.Proofs.YtbbdginipiljdaaGreatDoor
namespace Go.AB
open Go Go.RowKit Go.ChangeShapes Go.WideShapes
open Go.AB.Enc (cells)
open Go.PB (ba ai PlaceD bh bk bj bw ar ah cw bv)
theorem OpensE.reader {P : Program} {t tI : TypeId} [oI : OpensE P tI Int] (h : jn P t [(0, tI, 1), (1, tI, 1)] 2 = true) : OpensE P t bw :=
 .struct (α := bw) h fun w cs hl hp => by
  obtain ⟨a, ha⟩ := hp (0, tI, 1) (by simp) Int inferInstance oI
  obtain ⟨b, hb⟩ := hp (1, tI, 1) (by simp) Int inferInstance oI
  match cs, hl with
  | [u, v], _ => exact ⟨⟨a, b⟩, Rs.cons (Rs.single_inv ha) hb⟩
theorem OpensE.page {P : Program} {t tI tL : TypeId} [oI : OpensE P tI Int] [oL : OpensE P tL (List PlaceD)] (h : jn P t [(0, tI, 1), (1, tI, 1), (2, tI, 1), (3, tI, 1), (4, tL, 1), (5, tL, 1)] 6 = true) : OpensE P t ar :=
 .struct (α := ar) h fun w cs hl hp => by
  obtain ⟨a, ha⟩ := hp (0, tI, 1) (by simp) Int inferInstance oI
  obtain ⟨b, hb⟩ := hp (1, tI, 1) (by simp) Int inferInstance oI
  obtain ⟨c, hc⟩ := hp (2, tI, 1) (by simp) Int inferInstance oI
  obtain ⟨d, hd⟩ := hp (3, tI, 1) (by simp) Int inferInstance oI
  obtain ⟨e, he⟩ := hp (4, tL, 1) (by simp) (List PlaceD) inferInstance oL
  obtain ⟨f, hf⟩ := hp (5, tL, 1) (by simp) (List PlaceD) inferInstance oL
  match cs, hl with
  | [u0, u1, u2, u3, u4, u5], _ => exact ⟨⟨a, b, c, d, e, f⟩, Rs.cons (Rs.single_inv ha) (Rs.cons (Rs.single_inv hb) (Rs.cons (Rs.single_inv hc) (Rs.cons (Rs.single_inv hd) (Rs.cons (Rs.single_inv he) hf))))⟩
theorem OpensE.proofs {P : Program} {t tT tR tP : TypeId} [oT : OpensE P tT (List ba)] [oR : OpensE P tR (List bw)] [oP : OpensE P tP (List ar)] (h : jn P t [(0, tT, 1), (1, tR, 1), (2, tR, 1), (3, tP, 1)] 4 = true) : OpensE P t ah :=
 .struct (α := ah) h fun w cs hl hp => by
  obtain ⟨a, ha⟩ := hp (0, tT, 1) (by simp) (List ba) inferInstance oT
  obtain ⟨b, hb⟩ := hp (1, tR, 1) (by simp) (List bw) inferInstance oR
  obtain ⟨c, hc⟩ := hp (2, tR, 1) (by simp) (List bw) inferInstance oR
  obtain ⟨d, hd⟩ := hp (3, tP, 1) (by simp) (List ar) inferInstance oP
  match cs, hl with
  | [u0, u1, u2, u3], _ => exact ⟨⟨a, b, c, d⟩, Rs.cons (Rs.single_inv ha) (Rs.cons (Rs.single_inv hb) (Rs.cons (Rs.single_inv hc) hd))⟩
end Go.AB
namespace Go.AB
open Go Go.RowKit Go.ChangeShapes Go.WideShapes
open Go.AB.Enc (cells)
open Go.PB (ba ai PlaceD bw ar ah cw bv)
def udk (P : Program) (t : TypeId) : Bool := match P.underlying t with | some (.func _ _ _) => true | _ => false
theorem yz {P : Program} {t : TypeId} (h : udk P t = true) : ∃ ps rs va, P.underlying t = some (.func ps rs va) := by
 unfold udk at h
 split at h
 ·rename_i ps rs va he; exact ⟨ps, rs, va, he⟩
 ·cases h
/-- Functions that lie in a variable's cells. -/
theorem umg {W : World} {b : Nat} {cs : List C} (hne : cs ≠ []) (hone : ∀ c ∈ cs, c.one = true) (us : Nat → Value) (hc : ∀ j, j < cs.length → W.cell? ⟨b, j, none⟩ = some (us j)) (hr : ∀ j c, cs[j]? = some c → R (iv W) W c (us j)) : R (iv W) W (.elem cs) (.pointer (some ⟨b, 0, none⟩)) := by
 have hl : 0 < cs.length := List.length_pos_iff.2 hne
 refine .elem hne hone (.inr ⟨b, 0, rfl, ?_, fun j hj => by rw [Nat.zero_add]; exact hc j hj⟩) hr
 have := zg (hc (cs.length - 1) (by omega))
 show 0 + cs.length ≤ n7 W b
 omega
theorem ulf {P : Program} {f : FuncId} {cs : List C} {v gv : Value} {gc : C} (hp : fg 0 (.fact gv gc) P f cs (.v v)) {w : World} {args : List Value} (hK : R (iv w) w gc gv) (hr : Rs (iv w) w cs args) :
  Calls P f args.toArray w fun e w' => e = .returned v ∧ Below w.heap.size w w' :=
 ulg (fun G nx hG => by
  intro E w' as' hrs hsg
  exact hp G nx hG (by obtain ⟨t, _⟩ := hsg.obj 0 _ hG; have := hsg.lt 0 _ t; rw [hsg.nx] at this; exact this) E w' as' hrs hsg) hK hr
/-- a cell of a function's type, as it reads -/
theorem qx {P : Program} {W : World} {t : TypeId} {ps rs : Array TypeId} {va : Bool} {v : Value} {b : UInt8} {r : List UInt8} {f0 : FuncId} (hu : P.underlying t = some (.func ps rs va)) (hv : IsFunc v) (hd : veil (funcToken P) t v = .held (b :: r))
  (hone : ((List.range P.funcs.size).filter fun f => (P.funcs[f]?).any (·.name.toUTF8.data.toList == b :: r)) = [f0]) : v = .func (.func f0) #[] #[] :=
 Go.func_of_trod (w := W) (base := 0) (sp := fun _ => true) (fuel := 1) (q := []) hu hone (by
  have := trod_func (enc := funcToken P) hu (W := W) (base := 0) (sp := fun _ => true) hv 0
  rw [hd] at this
  exact this)
end Go.AB
namespace Go.Proofs.YtbbdginipiljdaaGreatDoor
set_option maxRecDepth 10000
open Go.ChangeShapes Go.WideShapes Go.ChangeAt Go.RowKit Go.AB
open Go.AB.Enc (cells)
open Go.PB (ba ai PlaceD bw ar ah cw bv)
instance : OpensE Tryz.prog 67 bw := .reader (tI := 3) (by kernel_rfl)
instance : OpensE Tryz.prog 25 (List bw) := .slice (e := 67) (by kernel_rfl) (by decide)
instance : OpensE Tryz.prog 56 (List PlaceD) := .slice (e := 61) (by kernel_rfl) (by decide)
instance : OpensE Tryz.prog 58 ar := .page (tI := 3) (tL := 56) (by kernel_rfl)
instance : OpensE Tryz.prog 26 (List ar) := .slice (e := 58) (by kernel_rfl) (by decide)
theorem ubh : jn Tryz.prog 28 [(0, 24, 1), (1, 25, 1), (2, 25, 1), (3, 26, 1)] 4 = true := by kernel_rfl
instance : OpensE Tryz.prog 28 ah := .proofs (tT := 24) (tR := 25) (tP := 26) ubh
theorem gSides : Tryz.prog.globalNamed "postil/proof.sides" = some 0 := by kernel_rfl
theorem tSides : (Tryz.prog.globals[0]?).map (·.type) = some 141 := by kernel_rfl
theorem ugl : Tryz.prog.underlying 141 = some (.array 2 140) := by kernel_rfl
theorem unc : Tryz.prog.cellsOf 141 = 6 := by kernel_rfl
theorem uej : Tryz.prog.cellsOf 140 = 3 := by kernel_rfl
theorem uax : jn Tryz.prog 140 [(0, 136, 1), (1, 137, 1), (2, 138, 1)] 3 = true := by kernel_rfl
theorem udv : ∃ ps rs va, Tryz.prog.underlying 136 = some (.func ps rs va) := yz (by kernel_rfl)
theorem udx : ∃ ps rs va, Tryz.prog.underlying 137 = some (.func ps rs va) := yz (by kernel_rfl)
theorem udw : ∃ ps rs va, Tryz.prog.underlying 138 = some (.func ps rs va) := yz (by kernel_rfl)
theorem uas {W : World} {m : Nat} {cs : List Value} {y : DataW (List UInt8) × List MemPlace} {d0 d1 d2 : DataW (List UInt8)} (hy : y.1 = .agg [d0, d1, d2])
  (h : DataW.trod (funcToken Tryz.prog) Tryz.prog W 0 (fun _ => true) true m 140 cs = some y) : ∃ v0 v1 v2, cs = [v0, v1, v2] ∧ (IsFunc v0 ∧ veil (funcToken Tryz.prog) 136 v0 = d0) ∧ (IsFunc v1 ∧ veil (funcToken Tryz.prog) 137 v1 = d1) ∧ (IsFunc v2 ∧ veil (funcToken Tryz.prog) 138 v2 = d2) := by
 obtain ⟨_, fs, he⟩ := uf uax
 obtain ⟨xs, m', _, e1, hl, hlen, hf⟩ := DataW.trod_struct he h
 rw [uej] at hl
 have hfs : fs.toList.map (fun f => (f.offset, f.type, Tryz.prog.cellsOf f.type)) = [(0, 136, 1), (1, 137, 1), (2, 138, 1)] := by
  have := uax
  unfold jn at this
  rw [he] at this
  simp only [Bool.and_eq_true, beq_iff_eq] at this
  exact this.1
 obtain ⟨l⟩ := fs
 match l, hfs with
 | [f0, f1, f2], hfs =>
  simp only [List.map_cons, List.map_nil, List.cons.injEq, Prod.mk.injEq, and_true] at hfs
  obtain ⟨⟨a1, a2, a3⟩, ⟨b1, b2, b3⟩, ⟨c1, c2, c3⟩⟩ := hfs
  have h0 := hf 0 f0 rfl
  have h1 := hf 1 f1 rfl
  have h2 := hf 2 f2 rfl
  match cs, hl with
  | [u0, u1, u2], _ =>
   match xs, hlen with
   | [x0, x1, x2], _ =>
    subst e1
    simp only [List.map_cons, List.map_nil, DataW.agg.injEq, List.cons.injEq, and_true] at hy
    rw [a3, a1, a2] at h0
    rw [b3, b1, b2] at h1
    rw [c3, c1, c2] at h2
    obtain ⟨ps, rs, va, hu⟩ := udv
    obtain ⟨ps', rs', va', hu'⟩ := udx
    obtain ⟨ps2, rs2, va2, hu2⟩ := udw
    obtain ⟨v0, q0, q1, q2⟩ := Go.RowKit.func_of_trod hu h0
    obtain ⟨v1, q3, q4, q5⟩ := Go.RowKit.func_of_trod hu' h1
    obtain ⟨v2, q6, q7, q8⟩ := Go.RowKit.func_of_trod hu2 h2
    have e0 : u0 = v0 := by simpa using q0
    have e1 : u1 = v1 := by simpa using q3
    have e2 : u2 = v2 := by simpa using q6
    subst e0; subst e1; subst e2
    have hx0 : x0 = (veil (funcToken Tryz.prog) 136 u0, []) := by simpa using q2
    have hx1 : x1 = (veil (funcToken Tryz.prog) 137 u1, []) := by simpa using q5
    have hx2 : x2 = (veil (funcToken Tryz.prog) 138 u2, []) := by simpa using q8
    subst hx0; subst hx1; subst hx2
    obtain ⟨k0, k1, k2⟩ := hy
    exact ⟨u0, u1, u2, rfl, ⟨q1, k0⟩, ⟨q4, k1⟩, ⟨q7, k2⟩⟩
 | [], hfs => exact absurd hfs (by simp)
 | [_], hfs => exact absurd hfs (by simp)
 | [_, _], hfs => exact absurd hfs (by simp)
 | _ :: _ :: _ :: _ :: _, hfs => exact absurd hfs (by simp)
theorem uho {W : World} (h : funcsAt Tryz.prog W "postil/proof.sides" (.agg [.agg [.iface "func" (.lit (.string [112, 111, 115, 116, 105, 108, 47, 112, 114, 111, 111, 102, 46, 115, 105, 100, 101, 115, 36, 49])), .iface "func" (.lit (.string [112, 111, 115, 116, 105, 108, 47, 112, 114, 111, 111, 102, 46, 115, 105, 100, 101, 115, 36, 50])), .iface "func" (.lit (.string [112, 111, 115, 116, 105, 108, 47, 112, 114, 111, 111, 102, 46, 115, 105, 100, 101, 115, 36, 51]))], .agg [.iface "func" (.lit (.string [112, 111, 115, 116, 105, 108, 47, 112, 114, 111, 111, 102, 46, 115, 105, 100, 101, 115, 36, 52])), .iface "func" (.lit (.string [112, 111, 115, 116, 105, 108, 47, 112, 114, 111, 111, 102, 46, 115, 105, 100, 101, 115, 36, 53])), .iface "func" (.lit (.string [112, 111, 115, 116, 105, 108, 47, 112, 114, 111, 111, 102, 46, 115, 105, 100, 101, 115, 36, 54]))]])) : R (iv W) W (.elem sidL) (.pointer (some ⟨0, 0, none⟩)) := by
 obtain ⟨g, t, cs, fuel, p, hg, ht, hv, hd⟩ := h
 obtain rfl := Option.some.inj (gSides.symm.trans hg)
 obtain rfl := Option.some.inj (tSides.symm.trans ht)
 obtain ⟨xs, m, _, e1, hl, hn, hel⟩ := DataW.trod_array ugl hd
 rw [unc] at hl
 rw [uej] at hel
 have hcell := fun i => World.var?_cell hg hv i
 obtain ⟨l⟩ := cs
 dsimp only at hl hel hcell
 match l, hl with
 | [u0, u1, u2, u3, u4, u5], _ =>
  match xs, hn with
  | [x0, x1], _ =>
   simp only [Prod.mk.injEq] at e1
   have e2 : (.agg [.agg [.held [112, 111, 115, 116, 105, 108, 47, 112, 114, 111, 111, 102, 46, 115, 105, 100, 101, 115, 36, 49], .held [112, 111, 115, 116, 105, 108, 47, 112, 114, 111, 111, 102, 46, 115, 105, 100, 101, 115, 36, 50], .held [112, 111, 115, 116, 105, 108, 47, 112, 114, 111, 111, 102, 46, 115, 105, 100, 101, 115, 36, 51]], .agg [.held [112, 111, 115, 116, 105, 108, 47, 112, 114, 111, 111, 102, 46, 115, 105, 100, 101, 115, 36, 52], .held [112, 111, 115, 116, 105, 108, 47, 112, 114, 111, 111, 102, 46, 115, 105, 100, 101, 115, 36, 53], .held [112, 111, 115, 116, 105, 108, 47, 112, 114, 111, 111, 102, 46, 115, 105, 100, 101, 115, 36, 54]]] : DataW (List UInt8)) = .agg [x0.1, x1.1] := e1.1
   simp only [DataW.agg.injEq, List.cons.injEq, and_true] at e2
   obtain ⟨a0, a1, a2, q0, ⟨a3, a4⟩, ⟨a5, a6⟩, ⟨a7, a8⟩⟩ := uas e2.1.symm (hel 0 (by omega))
   obtain ⟨b0, b1, b2, q1, ⟨b3, b4⟩, ⟨b5, b6⟩, ⟨b7, b8⟩⟩ := uas e2.2.symm (hel 1 (by omega))
   simp only [Nat.zero_mul, Nat.one_mul, List.drop_zero, List.drop_succ_cons, List.take_succ_cons, List.take_zero, List.cons.injEq, and_true] at q0 q1
   obtain ⟨rfl, rfl, rfl⟩ := q0
   obtain ⟨rfl, rfl, rfl⟩ := q1
   obtain ⟨ps, rs, va, hu⟩ := udv
   obtain ⟨ps', rs', va', hu'⟩ := udx
   obtain ⟨ps2, rs2, va2, hu2⟩ := udw
   obtain rfl := qx (W := W) (f0 := 157) hu a3 a4 (by kernel_rfl)
   obtain rfl := qx (W := W) (f0 := 158) hu' a5 a6 (by kernel_rfl)
   obtain rfl := qx (W := W) (f0 := 159) hu2 a7 a8 (by kernel_rfl)
   obtain rfl := qx (W := W) (f0 := 160) hu b3 b4 (by kernel_rfl)
   obtain rfl := qx (W := W) (f0 := 161) hu' b5 b6 (by kernel_rfl)
   obtain rfl := qx (W := W) (f0 := 162) hu2 b7 b8 (by kernel_rfl)
   let L : List Value := [.func (.func 157) #[] #[], .func (.func 158) #[] #[], .func (.func 159) #[] #[], .func (.func 160) #[] #[], .func (.func 161) #[] #[], .func (.func 162) #[] #[]]
   refine umg (by simp [sidL, ni]) (by intro c hc; simp only [sidL, ni, List.cons_append, List.nil_append, List.mem_cons, List.not_mem_nil, or_false] at hc; rcases hc with rfl | rfl | rfl | rfl | rfl | rfl <;> rfl) (fun j => L.getD j undef) (fun j hj => ?_) (fun j c hc => ?_)
   ·have := hcell j
    have hj' : j < 6 := hj
    rw [this]
    show (L.toArray)[j]? = _
    rw [List.getElem?_toArray, List.getD_eq_getElem?_getD, List.getElem?_eq_getElem (show j < L.length from hj')]
    rfl
   ·match j, hc with
    | 0, hc => cases hc; exact Rs.fn (vs := []) Rs.nil
    | 1, hc => cases hc; exact Rs.fn (vs := []) Rs.nil
    | 2, hc => cases hc; exact Rs.fn (vs := []) Rs.nil
    | 3, hc => cases hc; exact Rs.fn (vs := []) Rs.nil
    | 4, hc => cases hc; exact Rs.fn (vs := []) Rs.nil
    | 5, hc => cases hc; exact Rs.fn (vs := []) Rs.nil
abbrev sx : List (String × DataW Unit) := [("postil/proof.sides", Rows.laid_postil_proof_sides)]
set_option maxRecDepth 100000 in
/-- The door's own heap meets the condition. -/
theorem umr (os : Os) (args : Array Value) : laidMetH Tryz.prog sx ((World.doorLaid Tryz.prog 600 os).forCall (fun _ _ => 0) ⟨#[], args, []⟩).memory :=
 laidMetH_of_parts3 (fuel := 8) (laidMet_of_run' 8 (by kernel_rfl) (by kernel_rfl)) (by kernel_rfl) (by kernel_rfl)
theorem uhn {W : World} (h : laidMetH Tryz.prog sx W) : R (iv W) W (.elem sidL) (.pointer (some ⟨0, 0, none⟩)) := uho (h.funcs (List.mem_cons_self ..))
end Go.Proofs.YtbbdginipiljdaaGreatDoor
namespace Go.AB
open Go Go.RowKit Go.ChangeShapes Go.WideShapes
open Go.AB.Enc (cells)
structure U32 where
 v : Int
instance : Enc U32 := ⟨fun x => [.v (.int .u32 x.v)], 1, fun _ => rfl, fun m x c h => by simp at h; subst h; exact .v, fun x c h => by simp at h; subst h; rfl⟩
theorem OpensE.u32 {P : Program} {t : TypeId} (h : vq P t .u32 = true) : OpensE P t U32 where
 n := (vp h).2
 op hx := by
  obtain ⟨n, rfl, _, h2⟩ := DataW.trod_int (vp h).1 hx
  refine ⟨⟨n⟩, Rs.single (.v ?_)⟩
  simp [Lit.wf, IntKind.min, IntKind.max, IntKind.signed, IntKind.bits] at h2
  exact okV_int.2 ⟨by show (0 : Int) ≤ n; omega, by show n ≤ (4294967295 : Int); omega⟩
theorem OpensE.argList {P : Program} {t e : TypeId} {α : Type} [Enc α] [o : OpensE P t (List α)] (h : rr P t e = true) {H : Type} {enc : TypeId × Value → H} {w : World} {base : Nat} {spare : Nat → Bool} {held : Bool} {r : Reach} {b0 : Nat} {v : Value} {d : DataW H} {ps : List MemPlace}
  (hv : Value.okWide P w r b0 t v) (hd : DataW.Trod enc P w base spare held t v d ps) : ∃ a : List α, R (iv w) w (lst a) v := by
 obtain ⟨a, n, c, rfl⟩ := okWide_slice (xf h).1 hv
 obtain ⟨fuel, hf⟩ := hd
 obtain ⟨xs, hx⟩ := o.op hf
 exact ⟨xs, Rs.single_inv hx⟩
end Go.AB
namespace Go.Proofs.YtbbdginipiljdaaGreatDoor
set_option maxRecDepth 10000
open Go.ChangeShapes Go.WideShapes Go.ChangeAt Go.RowKit Go.AB
open Go.AB.Enc (cells)
instance : OpensE Tryz.prog 126 U32 := .u32 (by kernel_rfl)
instance : OpensE Tryz.prog 52 (List U32) := .slice (e := 126) (by kernel_rfl) (by decide)
theorem ugm : rr Tryz.prog 52 126 = true := by kernel_rfl
end Go.Proofs.YtbbdginipiljdaaGreatDoor
namespace Go.AB
open Go Go.RowKit
open Go.AB.Enc (cells)
open Go.PB (ba ai PlaceD bh bk bj bw ar ah cw bv dc dg)
/-- a number of a list with an index, which goes round -/
def ld (by_ : List U32) (i : Nat) : Int := match by_[i % by_.length]? with | some x => x.v | none => 0
theorem umz {l : List U32} {i : Nat} (h : l.length = 0) : ld l i = 0 := by
 rw [List.length_eq_zero_iff.1 h]; rfl
theorem um0 {l : List U32} {i : Nat} {x : U32} (h : l[i % l.length]? = some x) : ld l i = x.v := by unfold ld; rw [h]
theorem um1 {l : List U32} (h : ∀ x ∈ l, 0 ≤ x.v ∧ x.v ≤ 4294967295) (i : Nat) : 0 ≤ ld l i ∧ ld l i ≤ 4294967295 := by
 unfold ld
 cases hx : l[i % l.length]? with
 | none => exact ⟨Int.le_refl _, by show (0 : Int) ≤ 4294967295; omega⟩
 | some x => exact h x (List.mem_of_getElem? hx)
theorem ugn {l : List U32} (h : (lst l).fit) : ∀ x ∈ l, 0 ≤ x.v ∧ x.v ≤ 4294967295 := fun x hx => by
 have h1 := (fit_lst.1 h).2 x hx (.v (.int .u32 x.v)) (List.mem_cons_self ..)
 exact okV_int.1 (fit_v.1 h1)
theorem uci {p : ah} (h : ef p) {x : Nat → Int} (hx : lh p x) {j : Nat} (hj : j < p.pages.length) : 0 ≤ et p x j ∧ et p x j ≤ 1200 := by
 have h1 := ub h j
 have h2 := ul9 h hx hj
 unfold et
 omega
theorem ucj (p : ah) (x : Nat → Int) (k : Nat) (v : Int) : et p (gm x k v) k = dl p k + v := by unfold et; rw [uh0]
end Go.AB
namespace Go.Proofs.YtbbdginipiljdaaGreatDoor
set_option maxRecDepth 10000
open Go Go.RowKit Go.AB
open Go.AB.Enc (cells)
open Go.PB (ba ai PlaceD bh bk bj bw ar ah cw bv dc dg)
theorem yl (l : List U32) (i : Nat) (hb : ∀ x ∈ l, 0 ≤ x.v ∧ x.v ≤ 4294967295) (hi : i ≤ 1000000) : Pure Tryz.prog 23 [lst l, .v (.int .i64 (i : Int))] (.v (.int .i64 (ld l i))) := by
 refine c4 Tryz.func23 rfl (fun m => .v) fun G nx => ?_
 simp only [Tryz.ntmps23, List.length_cons, List.length_nil, Nat.reduceAdd, Nat.reduceSub]
 refine bx fun hlt => ?_
 dsimp only at hlt
 refine kh 0 (fun hf => ?_)
 have hf1 := (fit_lst.1 hf).1
 refine yS fun _ K1 => ?_
 refine yR ?_
 refine yA rfl rfl ?_
 refine yN ?_
 dsimp only [St.put]
 refine K1 _ ?_
 refine yS fun _ K2 => ?_
 refine yS fun _ K3 => ?_
 refine yR ?_
 refine yM rfl rfl ?_
 refine aa rfl (bi rfl rfl (List.length_map _)) ?_
 refine aa rfl (fm rfl rfl rfl) ?_
 refine yN ?_
 dsimp only [St.put]
 refine K3 _ ?_
 refine aq rfl (fun hc => ?_) (fun hc => ?_)
 ·have h0 : l.length = 0 := by have := of_decide_eq_true hc; omega
  refine yS fun _ K4 => ?_
  refine yR ?_
  refine yA rfl rfl ?_
  refine yN ?_
  dsimp only [St.put]
  refine K4 _ ?_
  refine ax ?_
  refine bg rfl (by constructor) zN zS ?_
  exact vi (umz h0).symm
 have h0 : l.length ≠ 0 := by have := of_decide_eq_false hc; omega
 have hlt2 : i % l.length < l.length := Nat.mod_lt _ (by omega)
 obtain ⟨x, hx⟩ : ∃ x, l[i % l.length]? = some x := da hlt2
 have hxb := hb x (f5 hx)
 have hmod : ((i : Int) % (l.length : Int)) = ((i % l.length : Nat) : Int) := (Int.natCast_emod i l.length).symm
 have hpos : (0 : Int) < (l.length : Int) := by omega
 refine ay ?_
 refine K2 _ ?_
 refine yS fun _ K5 => ?_
 refine yR ?_
 refine yM rfl rfl ?_
 refine yM rfl rfl ?_
 refine yM rfl rfl ?_
 refine aa rfl (bi rfl rfl (List.length_map _)) ?_
 refine aa rfl ((u7 hmod rfl rfl rfl (by omega) hpos)) ?_
 refine aa rfl (br rfl rfl rfl rfl (bq (by assumption)) (Enc.len _)) ?_
 refine yL rfl rfl rfl ?_
 refine aa rfl ((ukl rfl rfl rfl rfl (by omega))) ?_
 refine yA rfl rfl ?_
 refine yN ?_
 dsimp only [St.put]
 refine K5 _ ?_
 refine ax ?_
 refine bg rfl (by constructor) zN zS ?_
 exact vi (um0 hx).symm
set_option maxHeartbeats 4000000 in
theorem uf2 (p : ah) (l : List U32) : fg 0 e9 Tryz.prog 6 [val p, lst l] (.v (.bool true)) := fun G nx hF hnx => by
 refine ip (G) (nx) Tryz.func6 rfl (.v) zN (fun hlt => zH) ?_
 simp only [Tryz.ntmps6, List.length_cons, List.length_nil, Nat.reduceAdd, Nat.reduceSub]
 refine bx fun hlt => ?_
 dsimp only at hlt
 refine kh 1 (fun hfl => ?_)
 have hlb := ugn hfl
 refine yS fun _ K1 => ?_
 refine yR ?_
 try dsimp only [St.put]
 refine yB rfl rfl rfl ?_
 refine yA rfl rfl ?_
 refine yN ?_
 dsimp only [St.put]
 refine K1 _ ?_
 refine yS fun _ K2 => ?_
 refine yR ?_
 try dsimp only [St.put]
 refine af rfl ((ei rfl rfl rfl ((un1 0)) zG (by dsimp only [St.put]; omega) ?_))
 refine yA rfl rfl ?_
 refine yN ?_
 dsimp only [St.put]
 refine K2 _ ?_
 refine yS fun _ K3 => ?_
 refine yS fun _ K4 => ?_
 refine yR ?_
 refine yE rfl rfl rfl ?_
 try dsimp only [St.put]
 refine af rfl (bd rfl rfl rfl (ulj p) ?_)
 refine aa rfl (dw rfl rfl) ?_
 refine eo (fun hs => ?_) (fun hs => ?_)
 ·skip
  refine yM rfl rfl ?_
  refine yK rfl ?_
  refine yK rfl ?_
  refine aa rfl (cb rfl rfl (by constructor)) ?_
  refine yN ?_
  dsimp only [St.put]
  refine K4 _ ?_
  refine aq rfl (fun _ => ?_) (fun h => by cases h)
  refine yS fun _ K5 => ?_
  refine yR ?_
  refine yM rfl rfl ?_
  refine yA rfl rfl ?_
  refine yN ?_
  dsimp only [St.put]
  refine K5 _ ?_
  refine ax ?_
  refine bg rfl (by constructor) zN zS ?_
  rfl
 have hrd : qi p = true := by simpa using hs
 have hC := (readyP_true.1 hrd).2
 obtain ⟨hok, _⟩ := lu hC
 have hnp := hok.np
 have htl := g6 p.pages.length (dl p)
 have hwl := g6 p.pages.length (fw p)
 have hL0 : fj p (cx p) = bif ie p then 0 else 8 := by rw [hC, qs]
 refine yM rfl rfl ?_
 refine yM rfl rfl ?_
 refine aa rfl (dw rfl rfl) ?_
 refine aa rfl (ct rfl rfl (by constructor)) ?_
 refine yN ?_
 dsimp only [St.put]
 refine K4 _ ?_
 refine aq rfl (fun h => by cases h) (fun _ => ?_)
 refine ay ?_
 refine K3 _ ?_
 refine yS fun _ K6 => ?_
 by_cases hT : ie p = true
 ·have hL : fj p (cx p) = 0 := by rw [hL0, hT]; rfl
  refine yR ?_
  refine yE rfl rfl rfl ?_
  try dsimp only [St.put]
  refine af rfl ((ei rfl rfl rfl ((ulh 0 p hL)) zG (by dsimp only [St.put]; omega) ?_))
  refine yM rfl rfl ?_
  refine yX rfl rfl rfl rfl ?_
  refine yX rfl rfl rfl rfl ?_
  refine yA rfl rfl ?_
  refine yA rfl rfl ?_
  refine yN ?_
  dsimp only [St.put]
  refine K6 _ ?_
  refine yS fun _ K7 => ?_
  refine yR ?_
  refine yE rfl rfl rfl ?_
  try dsimp only [St.put]
  refine af rfl ((ei rfl rfl rfl ((uc5 0 p hC)) zG (by dsimp only [St.put]; omega) ?_))
  refine yM rfl rfl ?_
  refine yX rfl rfl rfl rfl ?_
  refine yX rfl rfl rfl rfl ?_
  refine yA rfl rfl ?_
  refine yA rfl rfl ?_
  refine yN ?_
  dsimp only [St.put]
  refine K7 _ ?_
  refine yS fun _ K8 => ?_
  refine yS fun _ K9 => ?_
  refine yR ?_
  refine yM rfl rfl ?_
  refine aa rfl ((ez (c := false) (fk rfl rfl rfl) (u6 rfl))) ?_
  refine yN ?_
  dsimp only [St.put]
  refine K9 _ ?_
  refine aq rfl (fun h => by cases h) (fun _ => ?_)
  refine ay ?_
  refine K8 _ ?_
  refine yS fun _ K10 => ?_
  refine yS fun _ K11 => ?_
  refine yR ?_
  refine yM rfl rfl ?_
  refine aa rfl (dw rfl rfl) ?_
  refine yM rfl rfl ?_
  refine yM rfl rfl ?_
  refine aa rfl (bi rfl rfl (List.length_map _)) ?_
  refine yF rfl rfl rfl rfl ?_
  refine yL rfl rfl rfl ?_
  refine aa rfl (bi rfl rfl (List.length_map _)) ?_
  refine aa rfl ((ez (c := false) (fk rfl rfl rfl) (u6 (by rw [hwl])))) ?_
  refine aa rfl (ct rfl rfl (by constructor)) ?_
  refine yN ?_
  dsimp only [St.put]
  refine K11 _ ?_
  refine aq rfl (fun h => by cases h) (fun _ => ?_)
  refine ay ?_
  refine K10 _ ?_
  refine yS fun _ K12 => ?_
  refine yR ?_
  try dsimp only [St.put]
  refine af rfl (umn rfl (by decide) ?_)
  refine yM rfl rfl ?_
  try dsimp only [St.put]
  refine af rfl (th (xs := ([] : List Int)) (bp p.pages.length (dl p)) rfl rfl zG rfl rfl rfl rfl zA zA (fun v1 => ?_))
  refine yA rfl rfl ?_
  refine yN ?_
  dsimp only [St.put]
  simp only [List.nil_append, htl]
  rw [show c5 (bp p.pages.length (dl p)) = c5 (bp p.pages.length (et p fun _ => 0)) by rw [uch]]
  refine K12 _ ?_
  refine yS fun _ K13 => ?_
  refine yS fun _ K14 => ?_
  refine yR ?_
  refine yF rfl rfl rfl rfl ?_
  refine yL rfl rfl rfl ?_
  refine aa rfl (bi rfl rfl (List.length_map _)) ?_
  refine yM rfl rfl ?_
  refine yN ?_
  dsimp only [St.put]
  refine K14 _ ?_
  refine bf ?_
  refine co 64 ?_
  refine zQ ?_
  refine c7 ((am G nx (.arr v1 (0) 3 1 p.pages.length (c5 (bp p.pages.length (et p ((fun _ => 0)))))))) zX ?_
  dsimp only
  refine c6 (X := Nat × (Nat → Int) × Nat) (fun y => y.1 ≤ p.pages.length ∧ lh p y.2.1) (fun y => p.pages.length - y.1) (fun y => [(11, .any), (12, .any), (13, .any), (14, .any), (15, .any), (63, .v (.int .i64 (y.1 : Int)))]) (fun y G' => (am G nx (.arr v1 (y.2.2) 3 1 p.pages.length (c5 (bp p.pages.length (et p (y.2.1))))))) (0, fun _ => 0, 0) rfl ?_ ?_ ?_ ?_ ?_ ?_
  ·exact ⟨Nat.zero_le _, ul8 hok hT⟩
  ·exact zF
  ·exact zX
  ·rintro ⟨i, x, W⟩ hI
   exact zL
  ·rintro ⟨i, x, W⟩ hI
   exact zH
  rintro ⟨i, x, W⟩ hI
  dsimp only at hI ⊢
  refine yS fun _ K15 => ?_
  refine yR ?_
  refine aa rfl (cn rfl rfl rfl) ?_
  refine yN ?_
  dsimp only [St.put]
  refine K15 _ ?_
  refine yS fun _ K16 => ?_
  refine aq rfl (fun hc => ?_) (fun hc => ?_)
  ·replace hc := of_decide_eq_true hc
   have hil : i < p.pages.length := by omega
   have hcb := um1 hlb
   have hc0 := hcb 0
   have hc1 := hcb (1 + i)
   have hc2 := hcb (20 + i)
   obtain ⟨k, pg, hk, hpg⟩ := ujb (l := p.pages) (a := (i : Int) + ld l 0) (by omega) (by omega)
   have hkl := (List.getElem?_eq_some_iff.1 hpg).1
   have hpt : (0 : Int) < (p.pages.length : Int) := by omega
   have hcap := wb hok k
   have hac := (Net.le_alone.1 (Int.le_refl ((bt p).alone (cy p) (dd p) k))).1
   have hal0 := Net.alone_nn (qm hok) (i := k) hkl (qc hT) (fun j _ => p3 hok j)
   have hRM := uli 0 p hL hpg
   obtain ⟨AL, hAL⟩ : ∃ AL, (bt p).alone (cy p) (dd p) k = AL := ⟨_, rfl⟩
   rw [hAL] at hac hal0 hRM
   have htb := ub hok k
   have hgt := ja (dl p) hkl
   have hgm := ja (et p x) hkl
   refine ay ?_
   refine K16 _ ?_
   refine yS fun _ K17 => ?_
   refine bf ?_
   refine yS fun _ K18 => ?_
   refine yR ?_
   refine yM rfl rfl ?_
   refine yA rfl rfl ?_
   refine yN ?_
   dsimp only [St.put]
   refine K18 _ ?_
   refine yS fun _ K19 => ?_
   refine fu [(0, none), (1, none), (4, none), (5, none), (6, none), (2, none), (3, none), (7, none), (8, none)] (fun i => [].contains i) (fun i => [2].contains i) (fun i => [0, 1, 3, 4, 6, 7, 8].contains i) [] (by kernel_rfl) (by kernel_rfl) ?_
   refine xM rfl rfl rfl rfl rfl ?_
   refine xM rfl rfl rfl rfl rfl ?_
   refine ae rfl rfl rfl rfl (cv rfl rfl rfl) ?_
   try dsimp only [St.put]
   refine bc rfl rfl rfl rfl (cg rfl rfl) ?_
   refine ae rfl rfl rfl rfl (bi rfl rfl (List.length_map _)) ?_
   refine g7 ?_
   try dsimp only [St.put]
   refine i9 rfl rfl rfl (bd rfl rfl rfl (yl l 0 hlb (by omega)) ⟨zD, ?_⟩)
   refine dq rfl rfl rfl rfl (bu rfl rfl rfl (by omega)) ?_
   refine dq rfl rfl rfl rfl ((u7 hk rfl rfl rfl (by omega) hpt)) ?_
   refine dq rfl rfl rfl rfl (fa rfl (by constructor)) ?_
   refine gw ?_
   dsimp only [St.put]
   refine K19 _ ?_
   refine yS fun _ K20 => ?_
   refine yR ?_
   refine yE rfl rfl rfl ?_
   refine yM rfl rfl ?_
   try dsimp only [St.put]
   refine af rfl ((ei rfl rfl rfl (hRM) zG (by dsimp only [St.put]; omega) ?_))
   refine yM rfl rfl ?_
   refine yX rfl rfl rfl rfl ?_
   refine yX rfl rfl rfl rfl ?_
   try dsimp only [St.put]
   refine af rfl (ed rfl ?_)
   try dsimp only [St.put]
   refine af rfl (dj rfl rfl rfl zG rfl rfl (by rfl) ?_)
   refine yA rfl rfl ?_
   refine yN ?_
   dsimp only [St.put]
   refine K20 _ ?_
   refine gp (i := 13) rfl zG zC ?_
   dsimp only
   refine yS fun _ K21 => ?_
   refine yS fun _ K22 => ?_
   refine yR ?_
   refine yM rfl rfl ?_
   refine aa rfl ((ez (c := false) (fk rfl rfl rfl) (u6 rfl))) ?_
   refine yN ?_
   dsimp only [St.put]
   refine K22 _ ?_
   refine aq rfl (fun h => by cases h) (fun _ => ?_)
   refine ay ?_
   refine K21 _ ?_
   refine yS fun _ K23 => ?_
   refine yR ?_
   refine yF rfl rfl rfl rfl ?_
   refine yL rfl rfl rfl ?_
   refine yA rfl rfl ?_
   refine yN ?_
   dsimp only [St.put]
   refine K23 _ ?_
   refine yS fun _ K24 => ?_
   refine yS fun _ K25 => ?_
   refine yR ?_
   refine yM rfl rfl ?_
   refine yM rfl rfl ?_
   refine aa rfl (bu rfl rfl rfl (by omega)) ?_
   try dsimp only [St.put]
   refine af rfl (bd rfl rfl rfl (yl l (1 + i) hlb (by omega)) ?_)
   refine aa rfl ((u7 (r := ld l (1 + i) % 3) rfl rfl rfl rfl (by omega) (by omega))) ?_
   refine aa rfl (fm rfl rfl rfl) ?_
   refine yN ?_
   dsimp only [St.put]
   refine K25 _ ?_
   refine aq rfl (fun hc => ?_) (fun hc => ?_)
   ·obtain ⟨mo, hmo⟩ : ∃ mo, ld l (20 + i) % (max 0 AL + 1) = mo := ⟨_, rfl⟩
    have hmb : 0 ≤ mo ∧ mo ≤ AL := by
     have h1 := Int.emod_nonneg (ld l (20 + i)) (show max 0 AL + 1 ≠ 0 by omega)
     have h2 := Int.emod_lt_of_pos (ld l (20 + i)) (show 0 < max 0 AL + 1 by omega)
     omega
    refine fu [(0, none), (1, none), (2, none), (4, none), (5, none), (6, none), (7, none), (3, none), (8, none), (9, none)] (fun i => [].contains i) (fun i => [3].contains i) (fun i => [0, 1, 2, 4, 6, 7, 8, 9].contains i) [] (by kernel_rfl) (by kernel_rfl) ?_
    refine xM rfl rfl rfl rfl rfl ?_
    refine xM rfl rfl rfl rfl rfl ?_
    refine ae rfl rfl rfl rfl (bu rfl rfl rfl (by omega)) ?_
    refine ae rfl rfl rfl rfl (cv rfl rfl rfl) ?_
    try dsimp only [St.put]
    refine bc rfl rfl rfl rfl (cg rfl rfl) ?_
    refine ae rfl rfl rfl rfl (n_max rfl rfl rfl rfl) ?_
    refine ae rfl rfl rfl rfl (bu rfl rfl rfl (by omega)) ?_
    refine g7 ?_
    try dsimp only [St.put]
    refine i9 rfl rfl rfl (bd rfl rfl rfl (yl l (20 + i) hlb (by omega)) ⟨zD, ?_⟩)
    refine dq rfl rfl rfl rfl ((u7 (r := ld l (20 + i) % (max 0 AL + 1)) rfl rfl rfl rfl (by omega) (by omega))) ?_
    refine dq rfl rfl rfl rfl (fa rfl (by constructor)) ?_
    refine gw ?_
    dsimp only [St.put]
    refine K24 _ ?_
    refine yS fun _ K26 => ?_
    rw [hmo]
    refine yR ?_
    refine yM rfl rfl ?_
    refine yM rfl rfl ?_
    refine yM rfl rfl ?_
    refine yM rfl rfl ?_
    try dsimp only [St.put]
    refine aa rfl ((br rfl rfl rfl (by omega) (bq hgt) (Enc.len _))) ?_
    refine yL rfl rfl rfl ?_
    refine yM rfl rfl ?_
    refine aa rfl (bu rfl rfl rfl (by omega)) ?_
    try dsimp only [St.put]
    refine aa rfl ((ky rfl rfl zG rfl rfl hkl)) ?_
    try dsimp only [St.put]
    refine af rfl (pz (k := k) (j := 0) (z := et p x k) (z' := dl p k + mo) rfl rfl rfl zG rfl rfl hgm rfl (by decide) rfl ?_)
    refine yN ?_
    dsimp only [St.put]
    rw [pj _ _ hkl, vc]
    refine K26 _ ?_
    refine bf ?_
    refine co 64 ?_
    refine zQ ?_
    refine c7 ((am G nx (.arr v1 ((W + 1)) 3 1 p.pages.length (c5 (bp p.pages.length (et p ((gm x k mo)))))))) zX ?_
    dsimp only
    refine c6 (X := Int × Nat) (fun z => 0 ≤ z.1 ∧ z.1 ≤ AL) (fun z => z.1.toNat) (fun z => [(12, .v (.int .i64 (k : Int))), (13, .any), (14, .any), (15, .any)]) (fun z G' => (am G nx (.arr v1 (z.2) 3 1 p.pages.length (c5 (bp p.pages.length (et p ((gm x k z.1)))))))) (mo, W + 1) rfl ?_ ?_ ?_ ?_ ?_ ?_
    ·exact hmb
    ·exact zF
    ·exact zX
    ·rintro ⟨u, V⟩ hI
     exact zL
    ·rintro ⟨u, V⟩ hI
     exact zH
    rintro ⟨u, V⟩ hJ
    dsimp only at hJ ⊢
    refine yS fun _ K27 => ?_
    refine yS fun _ K28 => ?_
    have hgu := ja (et p (gm x k u)) hkl
    have hmu := ucj p x k u
    rw [hmu] at hgu
    refine fu [(0, none), (1, none), (2, none), (3, none), (4, none), (5, none), (6, none), (7, none), (8, none), (9, none), (10, none), (11, none), (12, none), (13, none), (14, none)] (fun i => [12].contains i) (fun i => [12].contains i) (fun i => [0, 1, 2, 4, 5, 6, 8, 9, 11, 13, 14].contains i) [nx] (by kernel_rfl) (by kernel_rfl) ?_
    refine xM rfl rfl rfl rfl rfl ?_
    refine xM rfl rfl rfl rfl rfl ?_
    try dsimp only [St.put]
    refine ae rfl rfl rfl rfl ((ky rfl rfl zG rfl rfl hkl)) ?_
    try dsimp only [St.put]
    refine bc rfl rfl rfl rfl ((jh rfl rfl zG (by simp) (qz (by rw [Nat.mul_one]; exact hgu)))) ?_
    refine xM rfl rfl rfl rfl rfl ?_
    refine xM rfl rfl rfl rfl rfl ?_
    try dsimp only [St.put]
    refine ae rfl rfl rfl rfl ((br rfl rfl rfl (by omega) (bq hgt) (Enc.len _))) ?_
    try dsimp only [St.put]
    refine bc rfl rfl rfl rfl (cg rfl rfl) ?_
    refine ae rfl rfl rfl rfl (gz rfl rfl rfl) ?_
    refine jf (fun hs => ?_) (fun hs => ?_)
    ·have hup := of_decide_eq_true hs
     obtain ⟨tb, htb2⟩ : ∃ tb, jm p (bp p.pages.length (et p (gm x k u))) = tb := ⟨_, rfl⟩
     refine xM rfl rfl rfl rfl rfl ?_
     try dsimp only [St.put]
     refine bc rfl rfl rfl rfl (eh rfl rfl (Enc.len _)) ?_
     refine xM rfl rfl rfl rfl rfl ?_
     refine g7 ?_
     try dsimp only [St.put]
     refine g4 rfl rfl rfl rfl (tf (as' := [val p, lst (bp p.pages.length (et p (gm x k u)))]) rfl rfl rfl (yj p hok _ (by rw [g6]; omega) htb2) ⟨.low (el _ _), .own _ zG rfl rfl (g6 _ _).symm, trivial⟩ (ta _) ?_)
     refine dq rfl rfl rfl rfl (dw rfl rfl) ?_
     refine ufh (fun hs => ?_) (fun hs => ?_)
     ·skip
      refine dq rfl rfl rfl rfl (cb rfl rfl (by constructor)) ?_
      refine gw ?_
      dsimp only [St.put]
      refine K28 _ ?_
      refine aq rfl (fun _ => ?_) (fun h => by cases h)
      refine ay ?_
      refine K27 _ ?_
      refine bf ?_
      refine yR ?_
      refine yM rfl rfl ?_
      refine yM rfl rfl ?_
      try dsimp only [St.put]
      refine aa rfl ((ky rfl rfl zG rfl rfl hkl)) ?_
      try dsimp only [St.put]
      refine ci rfl ((jh rfl rfl zG (by simp) (qz (by rw [Nat.mul_one]; exact hgu)))) ?_
      refine aa rfl (f4 rfl rfl rfl (by omega)) ?_
      try dsimp only [St.put]
      refine aa rfl ((ky rfl rfl zG rfl rfl hkl)) ?_
      try dsimp only [St.put]
      refine af rfl (pz (k := k) (j := 0) (z := dl p k + u) (z' := dl p k + u - 1) rfl rfl rfl zG rfl rfl hgu rfl (by decide) rfl ?_)
      refine yN ?_
      dsimp only [St.put]
      rw [pj _ _ hkl, show dl p k + u - 1 = dl p k + (u - 1) by omega, vc, uau]
      exact ⟨(u - 1, V + 1), by (dsimp only; omega), ⟨by (dsimp only; omega), by (dsimp only; omega)⟩, ⟨⟨rfl, rfl⟩, zF, zB, zN, zX⟩⟩
     have hfx : lh p (gm x k u) := (vz hok _).1 (htb2.trans (by simpa using hs))
     refine dq rfl rfl rfl rfl (cb rfl rfl (by constructor)) ?_
     refine gw ?_
     dsimp only [St.put]
     refine K28 _ ?_
     refine aq rfl (fun h => by cases h) (fun _ => ?_)
     refine cz ?_
     refine K17 _ ?_
     refine yR ?_
     refine aa rfl (bu rfl rfl rfl (by omega)) ?_
     refine yM rfl rfl ?_
     refine yN ?_
     dsimp only [St.put]
     exact ⟨(i + 1, gm x k u, V), by (dsimp only; omega), ⟨by (dsimp only; omega), hfx⟩, ⟨⟨rfl, rfl⟩, zF, zB, zN, zX⟩⟩
    have hup := of_decide_eq_false hs
    have hfx : lh p (gm x k u) := by
     rw [show u = 0 by omega]
     exact uds hI.2 k
    refine xM rfl rfl rfl rfl rfl ?_
    refine aj rfl rfl rfl ?_
    refine aj rfl rfl rfl ?_
    refine g7 ?_
    refine ufi rfl rfl rfl ?_
    refine ufj rfl rfl rfl ?_
    refine dq rfl rfl rfl rfl (ct rfl rfl (by constructor)) ?_
    refine gw ?_
    dsimp only [St.put]
    refine K28 _ ?_
    refine aq rfl (fun h => by cases h) (fun _ => ?_)
    refine cz ?_
    refine K17 _ ?_
    refine yR ?_
    refine aa rfl (bu rfl rfl rfl (by omega)) ?_
    refine yM rfl rfl ?_
    refine yN ?_
    dsimp only [St.put]
    exact ⟨(i + 1, gm x k u, V), by (dsimp only; omega), ⟨by (dsimp only; omega), hfx⟩, ⟨⟨rfl, rfl⟩, zF, zB, zN, zX⟩⟩
   obtain ⟨mo, hmo⟩ : ∃ mo, AL = mo := ⟨_, rfl⟩
   have hmb : 0 ≤ mo ∧ mo ≤ AL := by omega
   refine ay ?_
   refine K24 _ ?_
   refine yS fun _ K29 => ?_
   rw [hmo]
   refine yR ?_
   refine yM rfl rfl ?_
   refine yM rfl rfl ?_
   refine yM rfl rfl ?_
   refine yM rfl rfl ?_
   try dsimp only [St.put]
   refine aa rfl ((br rfl rfl rfl (by omega) (bq hgt) (Enc.len _))) ?_
   refine yL rfl rfl rfl ?_
   refine yM rfl rfl ?_
   refine aa rfl (bu rfl rfl rfl (by omega)) ?_
   try dsimp only [St.put]
   refine aa rfl ((ky rfl rfl zG rfl rfl hkl)) ?_
   try dsimp only [St.put]
   refine af rfl (pz (k := k) (j := 0) (z := et p x k) (z' := dl p k + mo) rfl rfl rfl zG rfl rfl hgm rfl (by decide) rfl ?_)
   refine yN ?_
   dsimp only [St.put]
   rw [pj _ _ hkl, vc]
   refine K29 _ ?_
   refine bf ?_
   refine co 64 ?_
   refine zQ ?_
   refine c7 ((am G nx (.arr v1 ((W + 1)) 3 1 p.pages.length (c5 (bp p.pages.length (et p ((gm x k mo)))))))) zX ?_
   dsimp only
   refine c6 (X := Int × Nat) (fun z => 0 ≤ z.1 ∧ z.1 ≤ AL) (fun z => z.1.toNat) (fun z => [(12, .v (.int .i64 (k : Int))), (13, .any), (14, .any), (15, .any)]) (fun z G' => (am G nx (.arr v1 (z.2) 3 1 p.pages.length (c5 (bp p.pages.length (et p ((gm x k z.1)))))))) (mo, W + 1) rfl ?_ ?_ ?_ ?_ ?_ ?_
   ·exact hmb
   ·exact zF
   ·exact zX
   ·rintro ⟨u, V⟩ hI
    exact zL
   ·rintro ⟨u, V⟩ hI
    exact zH
   rintro ⟨u, V⟩ hJ
   dsimp only at hJ ⊢
   refine yS fun _ K30 => ?_
   refine yS fun _ K31 => ?_
   have hgu := ja (et p (gm x k u)) hkl
   have hmu := ucj p x k u
   rw [hmu] at hgu
   refine fu [(0, none), (1, none), (2, none), (3, none), (4, none), (5, none), (6, none), (7, none), (8, none), (9, none), (10, none), (11, none), (12, none), (13, none), (14, none)] (fun i => [12].contains i) (fun i => [12].contains i) (fun i => [0, 1, 2, 4, 5, 6, 8, 9, 11, 13, 14].contains i) [nx] (by kernel_rfl) (by kernel_rfl) ?_
   refine xM rfl rfl rfl rfl rfl ?_
   refine xM rfl rfl rfl rfl rfl ?_
   try dsimp only [St.put]
   refine ae rfl rfl rfl rfl ((ky rfl rfl zG rfl rfl hkl)) ?_
   try dsimp only [St.put]
   refine bc rfl rfl rfl rfl ((jh rfl rfl zG (by simp) (qz (by rw [Nat.mul_one]; exact hgu)))) ?_
   refine xM rfl rfl rfl rfl rfl ?_
   refine xM rfl rfl rfl rfl rfl ?_
   try dsimp only [St.put]
   refine ae rfl rfl rfl rfl ((br rfl rfl rfl (by omega) (bq hgt) (Enc.len _))) ?_
   try dsimp only [St.put]
   refine bc rfl rfl rfl rfl (cg rfl rfl) ?_
   refine ae rfl rfl rfl rfl (gz rfl rfl rfl) ?_
   refine jf (fun hs => ?_) (fun hs => ?_)
   ·have hup := of_decide_eq_true hs
    obtain ⟨tb, htb2⟩ : ∃ tb, jm p (bp p.pages.length (et p (gm x k u))) = tb := ⟨_, rfl⟩
    refine xM rfl rfl rfl rfl rfl ?_
    try dsimp only [St.put]
    refine bc rfl rfl rfl rfl (eh rfl rfl (Enc.len _)) ?_
    refine xM rfl rfl rfl rfl rfl ?_
    refine g7 ?_
    try dsimp only [St.put]
    refine g4 rfl rfl rfl rfl (tf (as' := [val p, lst (bp p.pages.length (et p (gm x k u)))]) rfl rfl rfl (yj p hok _ (by rw [g6]; omega) htb2) ⟨.low (el _ _), .own _ zG rfl rfl (g6 _ _).symm, trivial⟩ (ta _) ?_)
    refine dq rfl rfl rfl rfl (dw rfl rfl) ?_
    refine ufh (fun hs => ?_) (fun hs => ?_)
    ·skip
     refine dq rfl rfl rfl rfl (cb rfl rfl (by constructor)) ?_
     refine gw ?_
     dsimp only [St.put]
     refine K31 _ ?_
     refine aq rfl (fun _ => ?_) (fun h => by cases h)
     refine ay ?_
     refine K30 _ ?_
     refine bf ?_
     refine yR ?_
     refine yM rfl rfl ?_
     refine yM rfl rfl ?_
     try dsimp only [St.put]
     refine aa rfl ((ky rfl rfl zG rfl rfl hkl)) ?_
     try dsimp only [St.put]
     refine ci rfl ((jh rfl rfl zG (by simp) (qz (by rw [Nat.mul_one]; exact hgu)))) ?_
     refine aa rfl (f4 rfl rfl rfl (by omega)) ?_
     try dsimp only [St.put]
     refine aa rfl ((ky rfl rfl zG rfl rfl hkl)) ?_
     try dsimp only [St.put]
     refine af rfl (pz (k := k) (j := 0) (z := dl p k + u) (z' := dl p k + u - 1) rfl rfl rfl zG rfl rfl hgu rfl (by decide) rfl ?_)
     refine yN ?_
     dsimp only [St.put]
     rw [pj _ _ hkl, show dl p k + u - 1 = dl p k + (u - 1) by omega, vc, uau]
     exact ⟨(u - 1, V + 1), by (dsimp only; omega), ⟨by (dsimp only; omega), by (dsimp only; omega)⟩, ⟨⟨rfl, rfl⟩, zF, zB, zN, zX⟩⟩
    have hfx : lh p (gm x k u) := (vz hok _).1 (htb2.trans (by simpa using hs))
    refine dq rfl rfl rfl rfl (cb rfl rfl (by constructor)) ?_
    refine gw ?_
    dsimp only [St.put]
    refine K31 _ ?_
    refine aq rfl (fun h => by cases h) (fun _ => ?_)
    refine cz ?_
    refine K17 _ ?_
    refine yR ?_
    refine aa rfl (bu rfl rfl rfl (by omega)) ?_
    refine yM rfl rfl ?_
    refine yN ?_
    dsimp only [St.put]
    exact ⟨(i + 1, gm x k u, V), by (dsimp only; omega), ⟨by (dsimp only; omega), hfx⟩, ⟨⟨rfl, rfl⟩, zF, zB, zN, zX⟩⟩
   have hup := of_decide_eq_false hs
   have hfx : lh p (gm x k u) := by
    rw [show u = 0 by omega]
    exact uds hI.2 k
   refine xM rfl rfl rfl rfl rfl ?_
   refine aj rfl rfl rfl ?_
   refine aj rfl rfl rfl ?_
   refine g7 ?_
   refine ufi rfl rfl rfl ?_
   refine ufj rfl rfl rfl ?_
   refine dq rfl rfl rfl rfl (ct rfl rfl (by constructor)) ?_
   refine gw ?_
   dsimp only [St.put]
   refine K31 _ ?_
   refine aq rfl (fun h => by cases h) (fun _ => ?_)
   refine cz ?_
   refine K17 _ ?_
   refine yR ?_
   refine aa rfl (bu rfl rfl rfl (by omega)) ?_
   refine yM rfl rfl ?_
   refine yN ?_
   dsimp only [St.put]
   exact ⟨(i + 1, gm x k u, V), by (dsimp only; omega), ⟨by (dsimp only; omega), hfx⟩, ⟨⟨rfl, rfl⟩, zF, zB, zN, zX⟩⟩
  replace hc := of_decide_eq_false hc
  have hfx := hI.2
  have htx := (vz hok x).2 hfx
  have hsm := ug7 p x
  have hsw := ug5 hok hT
  have hst := ug6 hok hfx
  have hol := g6 p.pages.length (et p x)
  have hb1 : ∀ z ∈ bp p.pages.length (et p x), -1000000000 ≤ z ∧ z ≤ 1000000000 := fun z hz => by
   obtain ⟨j, hj, rfl⟩ := w9 hz
   have := uci hok hfx hj
   omega
  have hb2 : ∀ z ∈ bp p.pages.length (dl p), -1000000000 ≤ z ∧ z ≤ 1000000000 := fun z hz => by
   obtain ⟨j, hj, rfl⟩ := w9 hz
   have := ub hok j
   omega
  have hwb : ∀ j, j < p.pages.length → 0 ≤ fw p j ∧ fw p j ≤ 600 := fun j hj => by
   have h1 := ((Net.worst_feas (qm hok) (qc hT) fun j _ => p3 hok j).page j hj)
   have h2 := wb hok j
   exact ⟨h1.1, Int.le_trans h1.2 h2.2⟩
  have hb3 : ∀ z ∈ bp p.pages.length (fw p), -1000000000 ≤ z ∧ z ≤ 1000000000 := fun z hz => by
   obtain ⟨j, hj, rfl⟩ := w9 hz
   have := hwb j hj
   omega
  have hs1 := ud (m := 1000000000) (by omega) hb1 p.pages.length (by omega)
  have hs2 := ud (m := 1000000000) (by omega) hb2 p.pages.length (by omega)
  rw [gd (by omega)] at hs1 hs2
  obtain ⟨SO, hSO⟩ : ∃ SO, (bp p.pages.length (et p x)).sum = SO := ⟨_, rfl⟩
  obtain ⟨SD, hSD⟩ : ∃ SD, (bp p.pages.length (dl p)).sum = SD := ⟨_, rfl⟩
  have hP1 := yk (bp p.pages.length (et p x)) (by omega) hb1
  have hP2 := yk (bp p.pages.length (dl p)) (by omega) hb2
  have hP3 := yk (bp p.pages.length (fw p)) (by omega) hb3
  rw [hSO] at hP1 hs1 hsm
  rw [hSD] at hP2 hs2 hsm
  rw [hsw] at hP3
  refine cz ?_
  refine K13 _ ?_
  refine yS fun _ K32 => ?_
  refine yS fun _ K33 => ?_
  refine yR ?_
  refine yE rfl rfl rfl ?_
  refine yM rfl rfl ?_
  try dsimp only [St.put]
  refine af rfl (tf (as' := [val p, lst (bp p.pages.length (et p x))]) rfl rfl rfl (yj p hok _ (by omega) htx) ⟨.low (el _ _), .own _ zG rfl rfl hol.symm, trivial⟩ (ta _) ?_)
  refine aa rfl (dw rfl rfl) ?_
  refine yM rfl rfl ?_
  refine yM rfl rfl ?_
  try dsimp only [St.put]
  refine af rfl (tf (as' := [lst (bp p.pages.length (et p x))]) rfl rfl rfl hP1 ⟨.own _ zG rfl rfl hol.symm, trivial⟩ (ta _) ?_)
  refine yM rfl rfl ?_
  try dsimp only [St.put]
  refine af rfl (bd rfl rfl rfl (hP2) ?_)
  refine aa rfl (f4 rfl rfl rfl (by omega)) ?_
  refine yM rfl rfl ?_
  try dsimp only [St.put]
  refine af rfl (bd rfl rfl rfl (hP3) ?_)
  refine aa rfl ((ez (c := false) (gz rfl rfl rfl) (decide_eq_false (by omega)))) ?_
  refine aa rfl (ct rfl rfl (by constructor)) ?_
  refine yN ?_
  dsimp only [St.put]
  refine K33 _ ?_
  refine aq rfl (fun h => by cases h) (fun _ => ?_)
  refine ay ?_
  refine K32 _ ?_
  refine yS fun _ K34 => ?_
  refine yS fun _ K35 => ?_
  refine yR ?_
  refine yM rfl rfl ?_
  try dsimp only [St.put]
  refine af rfl (tf (as' := [lst (bp p.pages.length (et p x))]) rfl rfl rfl hP1 ⟨.own _ zG rfl rfl hol.symm, trivial⟩ (ta _) ?_)
  refine yM rfl rfl ?_
  try dsimp only [St.put]
  refine af rfl (bd rfl rfl rfl (hP2) ?_)
  refine aa rfl (f4 rfl rfl rfl (by omega)) ?_
  refine yM rfl rfl ?_
  try dsimp only [St.put]
  refine af rfl (bd rfl rfl rfl (hP3) ?_)
  refine aa rfl (cn rfl rfl rfl) ?_
  refine yN ?_
  dsimp only [St.put]
  refine K35 _ ?_
  refine aq rfl (fun hc => ?_) (fun hc => ?_)
  ·skip
   refine yS fun _ K36 => ?_
   refine yR ?_
   refine yM rfl rfl ?_
   refine yA rfl rfl ?_
   refine yN ?_
   dsimp only [St.put]
   refine K36 _ ?_
   refine ax ?_
   refine bg rfl (by constructor) zN zS ?_
   rfl
  replace hc := of_decide_eq_false hc
  have heq : sm p.pages.length x = qe p := by omega
  refine ay ?_
  refine K34 _ ?_
  refine yS fun _ K37 => ?_
  refine yS fun _ K38 => ?_
  refine yR ?_
  refine yM rfl rfl ?_
  refine aa rfl (bi rfl rfl (List.length_map _)) ?_
  refine yM rfl rfl ?_
  refine yN ?_
  dsimp only [St.put]
  refine K38 _ ?_
  refine bf ?_
  refine co 156 ?_
  refine zQ ?_
  refine c7 ((am G nx (.arr v1 (W) 3 1 p.pages.length (c5 (bp p.pages.length (et p (x))))))) zX ?_
  dsimp only
  refine c6 (X := Nat) (fun j => j ≤ p.pages.length ∧ ∀ q, q < j → x q = fw p q) (fun j => p.pages.length - j) (fun j => [(16, .any), (17, .any), (155, .v (.int .i64 (j : Int)))]) (fun j G' => (am G nx (.arr v1 (W) 3 1 p.pages.length (c5 (bp p.pages.length (et p (x))))))) 0 rfl ?_ ?_ ?_ ?_ ?_ ?_
  ·exact ⟨Nat.zero_le _, fun q hq => absurd hq (Nat.not_lt_zero _)⟩
  ·exact zF
  ·exact zX
  ·rintro j hI
   exact zL
  ·rintro j hI
   exact zH
  rintro j hJ
  dsimp only at hJ ⊢
  refine yS fun _ K39 => ?_
  refine yR ?_
  refine aa rfl (cn rfl rfl rfl) ?_
  refine yN ?_
  dsimp only [St.put]
  refine K39 _ ?_
  refine yS fun _ K40 => ?_
  refine aq rfl (fun hc => ?_) (fun hc => ?_)
  ·have hjl : j < p.pages.length := by
    have : (j : Int) < ((bp p.pages.length (fw p)).length : Int) := of_decide_eq_true hc
    rw [hwl] at this
    omega
   have hgo := ja (et p x) hjl
   have hgt := ja (dl p) hjl
   have hgw := ja (fw p) hjl
   have hx1 : et p x j - dl p j = x j := by unfold et; omega
   have hm1 := uci hok hfx hjl
   have hm2 := ub hok j
   have hwf := uf3 hok hT hfx heq hjl hJ.2
   refine ay ?_
   refine K40 _ ?_
   refine yS fun _ K41 => ?_
   refine bf ?_
   refine yS fun _ K42 => ?_
   refine yR ?_
   refine yM rfl rfl ?_
   refine yA rfl rfl ?_
   refine yN ?_
   dsimp only [St.put]
   refine K42 _ ?_
   refine yS fun _ K43 => ?_
   refine fu [(0, none), (1, none), (2, none), (3, none), (4, none), (5, none), (6, none), (7, none), (8, none), (9, none)] (fun i => [].contains i) (fun i => [].contains i) (fun i => [0, 1, 2, 4, 5, 6, 8, 9].contains i) [nx] (by kernel_rfl) (by kernel_rfl) ?_
   refine xM rfl rfl rfl rfl rfl ?_
   refine xM rfl rfl rfl rfl rfl ?_
   try dsimp only [St.put]
   refine ae rfl rfl rfl rfl ((ky rfl rfl zG rfl rfl hjl)) ?_
   try dsimp only [St.put]
   refine bc rfl rfl rfl rfl ((jh rfl rfl zG (by simp) (ul2 hjl))) ?_
   refine xM rfl rfl rfl rfl rfl ?_
   refine xM rfl rfl rfl rfl rfl ?_
   try dsimp only [St.put]
   refine ae rfl rfl rfl rfl ((br rfl rfl rfl (by omega) (bq hgt) (Enc.len _))) ?_
   try dsimp only [St.put]
   refine bc rfl rfl rfl rfl (cg rfl rfl) ?_
   refine ae rfl rfl rfl rfl (f4 rfl rfl rfl (by omega)) ?_
   refine ae rfl rfl rfl rfl (fa rfl (by constructor)) ?_
   refine az ?_
   dsimp only [St.put]
   rw [hx1]
   refine K43 _ ?_
   refine yS fun _ K44 => ?_
   refine yR ?_
   refine yM rfl rfl ?_
   refine yM rfl rfl ?_
   refine yM rfl rfl ?_
   try dsimp only [St.put]
   refine aa rfl ((br rfl rfl rfl (by omega) (bq hgw) (Enc.len _))) ?_
   refine yL rfl rfl rfl ?_
   refine aa rfl (fk rfl rfl rfl) ?_
   refine yN ?_
   dsimp only [St.put]
   refine K44 _ ?_
   refine aq rfl (fun hc => ?_) (fun hc => ?_)
   ·have hne : x j ≠ fw p j := fun e => by rw [e] at hc; simp at hc
    refine yS fun _ K45 => ?_
    refine yR ?_
    refine yM rfl rfl ?_
    refine yM rfl rfl ?_
    refine yM rfl rfl ?_
    refine yM rfl rfl ?_
    refine yM rfl rfl ?_
    try dsimp only [St.put]
    refine aa rfl ((br rfl rfl rfl (by omega) (bq hgw) (Enc.len _))) ?_
    refine yL rfl rfl rfl ?_
    refine aa rfl ((ez (c := true) (cn rfl rfl rfl) (decide_eq_true (by omega)))) ?_
    refine aa rfl (cb rfl rfl (by constructor)) ?_
    refine yA rfl rfl ?_
    refine yN ?_
    dsimp only [St.put]
    refine K45 _ ?_
    refine ax ?_
    refine bg rfl (by constructor) zN zS ?_
    rfl
   have heqj : x j = fw p j := by simpa using hc
   refine ay ?_
   refine K41 _ ?_
   refine yR ?_
   refine aa rfl (bu rfl rfl rfl (by omega)) ?_
   refine yM rfl rfl ?_
   refine yN ?_
   dsimp only [St.put]
   exact ⟨j + 1, by omega, ⟨by omega, fun q hq => by
     by_cases e : q = j
     ·subst e; exact heqj
     exact hJ.2 q (by omega)⟩, ⟨⟨rfl, rfl⟩, zF, zB, zN, zX⟩⟩
  skip
  refine cz ?_
  refine K37 _ ?_
  refine yS fun _ K46 => ?_
  refine yR ?_
  refine yM rfl rfl ?_
  refine yA rfl rfl ?_
  refine yN ?_
  dsimp only [St.put]
  refine K46 _ ?_
  refine ax ?_
  refine bg rfl (by constructor) zN zS ?_
  rfl
 have hT0 : ie p = false := by simpa using hT
 have hL : fj p (cx p) = 8 := by rw [hL0, hT0]; rfl
 refine yR ?_
 refine yE rfl rfl rfl ?_
 try dsimp only [St.put]
 refine af rfl ((ei rfl rfl rfl ((xu 0 p)) zG (by dsimp only [St.put]; omega) ?_))
 refine yM rfl rfl ?_
 refine yX rfl rfl rfl rfl ?_
 refine yX rfl rfl rfl rfl ?_
 refine yA rfl rfl ?_
 refine yA rfl rfl ?_
 refine yN ?_
 dsimp only [St.put]
 refine K6 _ ?_
 refine yS fun _ K47 => ?_
 refine yR ?_
 refine yE rfl rfl rfl ?_
 try dsimp only [St.put]
 refine af rfl ((ei rfl rfl rfl ((uc5 0 p hC)) zG (by dsimp only [St.put]; omega) ?_))
 refine yM rfl rfl ?_
 refine yX rfl rfl rfl rfl ?_
 refine yX rfl rfl rfl rfl ?_
 refine yA rfl rfl ?_
 refine yA rfl rfl ?_
 refine yN ?_
 dsimp only [St.put]
 refine K47 _ ?_
 refine yS fun _ K48 => ?_
 refine yS fun _ K49 => ?_
 refine yR ?_
 refine yM rfl rfl ?_
 refine aa rfl ((ez (c := true) (fk rfl rfl rfl) (by rw [hL]; rfl))) ?_
 refine yN ?_
 dsimp only [St.put]
 refine K49 _ ?_
 refine aq rfl (fun _ => ?_) (fun h => by cases h)
 refine yS fun _ K50 => ?_
 refine yR ?_
 refine yM rfl rfl ?_
 refine yM rfl rfl ?_
 refine yM rfl rfl ?_
 refine aa rfl ((ez (c := true) (fm rfl rfl rfl) (decide_eq_true hL))) ?_
 refine aa rfl (cb rfl rfl (by constructor)) ?_
 refine yM rfl rfl ?_
 refine yM rfl rfl ?_
 refine aa rfl (cb rfl rfl (by constructor)) ?_
 refine yA rfl rfl ?_
 refine yN ?_
 dsimp only [St.put]
 refine K50 _ ?_
 refine ax ?_
 refine bg rfl (by constructor) zN zS ?_
 rfl
end Go.Proofs.YtbbdginipiljdaaGreatDoor
namespace Go.AB
open Go Go.RowKit Go.ChangeShapes Go.WideShapes
section
variable {H : Type} {enc : TypeId × Value → H} {P : Program} {w : World} {base : Nat} {spare : Nat → Bool} {held : Bool}
end
end Go.AB
