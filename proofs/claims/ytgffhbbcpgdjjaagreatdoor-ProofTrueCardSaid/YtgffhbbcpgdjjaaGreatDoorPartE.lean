/-
  What the walks through the program rest on: values, states, steps, calls (QrRef, ReAsk, RjRests, QoRef, RkTotal, RgSets, QpRef, QqRef, RlChief, SaAlive, SbFacts, SdSums, SgLarge, AbTips, TaTips, TbMake, TcTrue, SfKnown, OpenL, OpenW, OpenS, OpenU, SlWorst, QsTwin, QsRef, AbNamedY, QtTwin).
-/
import Derived.Test.YtgffhbbcpgdjjaaGreatDoorPartD
import Derived.Test.YtgffhbbcpgdjjaaGreatDoorPartB
import Derived.Test.YtgffhbbcpgdjjaaGreatDoorPartC
import Derived.Test.YtgffhbbcpgdjjaaGreatDoorPartA
import Derived.Laws.OwnMore
import Derived.Laws.Small
import Derived.Test.YtgffhbbcpgdjjaaGreatDoorRows
import Derived.LaidMore
import Derived.RowKitVeiled
namespace Go.AB
open Go Go.RowKit
open Go.AB.Enc (cells)
open Go.PB (ay aj PlaceD bg bi bh bn ak ah cr bq dr dt)
instance : FlatV bq := ⟨fun x => [.int .i64 x.lo, .int .i64 x.hi], fun _ => rfl⟩
def lz (x : ak) : Bool := decide (200 < x.found.length) || decide (200 < x.well.length)
def nh (p : ah) : Bool := mp p.text || decide (6 < p.firsts.length) || decide (6 < p.seconds.length) || decide (12 < p.pages.length) || p.pages.any lz
theorem ur5 {p : ah} {n : Int} {j : Nat} {x : ak} (h0 : fe p n = 0) (hpo : ov p n = x) (hn : n = (j : Int)) (hk : (er p.text x).length ≠ 0) : p9 p n = 0 ∧ rj p n = uc1 x (er p.text x).length := by
 have hE : p9 p n = 0 := by unfold p9; rw [h0, hpo, decide_eq_false hk]; rfl
 exact ⟨hE, by unfold rj; rw [hE, hpo]; rfl⟩
theorem ud4 {p : ah} (h : et p) (j : Nat) : 0 ≤ mf p j ∧ mf p j ≤ 600 := by
 have hq := mr h.text
 unfold mf pt
 cases hx : p.pages[j]? with
 | none => exact ⟨Int.le_refl _, by show (0 : Int) ≤ 600; omega⟩
 | some x =>
  have := yu p.text x
  show (0 : Int) ≤ (fh p.text x : Int) ∧ (fh p.text x : Int) ≤ 600
  omega
theorem ubf (p : ah) (j : Nat) : 0 ≤ fb p j := by
 unfold fb pt
 cases hx : p.pages[j]? with
 | none => exact Int.le_refl _
 | some x => show (0 : Int) ≤ ((d7 p.text x).length : Int); omega
theorem uh8 {es : List Int} {j : Nat} {e : Int} (h : es[j]? = some e) : gi es j = e := by unfold gi; rw [h]; rfl
theorem ul4 {p : ah} {es : List Int} (h : ¬ es.length = p.pages.length) : j5 p es = false := by simp [j5, h]
theorem ul3 {p : ah} {es : List Int} {j : Nat} (hj : j < p.pages.length) (h : inB (gi es j) (fb p j) (mf p j) = false) : j5 p es = false := by
 have : (List.range p.pages.length).all (fun j => inB (gi es j) (fb p j) (mf p j)) = false := List.all_eq_false.2 ⟨j, List.mem_range.2 hj, by rw [h]; simp⟩
 simp [j5, this]
theorem ul2 {p : ah} {es : List Int} {i : Nat} (hi : i < co p) (h : ¬ sm p.pages.length (fun j => bif (bx p).by j i then gi es j else 0) ≤ l7 p i) : j5 p es = false := by
 have : (List.range (co p)).all (fun i => decide (sm p.pages.length (fun j => bif (bx p).by j i then gi es j else 0) ≤ l7 p i)) = false := List.all_eq_false.2 ⟨i, List.mem_range.2 hi, by rw [decide_eq_false h]; simp⟩
 simp only [j5, this, Bool.and_false]
theorem ul0 {p : ah} {es : List Int} (h1 : es.length = p.pages.length) (h2 : ∀ j, j < p.pages.length → inB (gi es j) (fb p j) (mf p j) = true) (h3 : ∀ i, i < co p → sm p.pages.length (fun j => bif (bx p).by j i then gi es j else 0) ≤ l7 p i) : j5 p es = true := by
 simp only [j5, Bool.and_eq_true, decide_eq_true_eq, List.all_eq_true, List.mem_range]
 exact ⟨⟨h1, h2⟩, h3⟩
end Go.AB
namespace Go.Proofs.YtgffhbbcpgdjjaaGreatDoor
set_option maxRecDepth 10000
open Go.RowKit Go.AB
open Go.AB.Enc (cells)
open Go.PB (ay aj PlaceD bg bi bh bn ak ah cr bq dr dt)
theorem ulp : Tryz.prog.underlying 52 = some (.struct (Tryz.prog.fieldsOf 52)) := by kernel_rfl
theorem ung : Tryz.prog.stoodInHeld 52 = false := by kernel_rfl
instance : EqT Tryz.prog 52 bq where
 guard op w x y xs ys := run_eqGuard_agg w op _ x y xs ys (by kernel_rfl)
 same w x y := by
  obtain ⟨a, b⟩ := x
  obtain ⟨a', b'⟩ := y
  simp only [FlatV.vals]
  rw [run_equalIn_agg _ _ _ _ _ ulp ung]
  by_cases h1 : a = a' <;> by_cases h2 : b = b' <;> simp [go_sem, h1, h2]
theorem uo2 (p : ah) : Pure Tryz.prog 33 [val p] (.v (.bool (nh p))) := by
 refine dg Tryz.func33 rfl (fun m => .v) fun G nx => ?_
 simp only [Tryz.ntmps33, List.length_cons, List.length_nil, Nat.reduceAdd, Nat.reduceSub]
 refine cb fun hlt => ?_
 dsimp only at hlt
 refine yS fun _ K1 => ?_
 refine yR ?_
 try dsimp only [St.put]
 refine yB rfl rfl rfl ?_
 refine yA rfl rfl ?_
 refine yN ?_
 dsimp only [St.put]
 refine K1 _ ?_
 refine yS fun _ K2 => ?_
 refine cm 4 ?_
 refine zQ ?_
 refine lf (X := Bool) (fun d => (mp p.text || decide (6 < p.firsts.length) || decide (6 < p.seconds.length) || decide (12 < p.pages.length)) = d) (fun d => [(24, .v (.bool d))]) (fun d G' => G') rfl ?_ (fun _ _ _ _ h => .inl h) ?_ ?_
 ·rintro d hI
  exact zL
 ·refine yR ?_
  refine yF rfl rfl rfl rfl ?_
  try dsimp only [St.put]
  refine bk rfl (c := gx p.text) (jx (cs := cells p) rfl rfl (show 1 ≤ 4 by decide)) ?_
  try dsimp only [St.put]
  refine ae rfl (ba rfl rfl rfl (uu6 p.text) ?_)
  refine yM rfl rfl ?_
  refine ff (fun hs => ?_) (fun hs => ?_)
  ·have h1 : mp p.text = true := hs
   refine yK rfl ?_
   refine yK rfl ?_
   refine yK rfl ?_
   refine yK rfl ?_
   refine aa rfl (ci rfl rfl (by constructor)) ?_
   refine yM rfl rfl ?_
   refine yK rfl ?_
   refine yK rfl ?_
   refine yK rfl ?_
   refine yK rfl ?_
   refine aa rfl (ci rfl rfl (by constructor)) ?_
   refine yM rfl rfl ?_
   refine yK rfl ?_
   refine yK rfl ?_
   refine yK rfl ?_
   refine yK rfl ?_
   refine aa rfl (ci rfl rfl (by constructor)) ?_
   refine yN ?_
   dsimp only [St.put]
   refine ⟨_, ?_, ⟨⟨rfl, rfl⟩, zF, zB, zN, zX⟩⟩
   first
   | (simp [h1]; done)
   | (simp [h1, h2]; done)
   | (simp [h1, h2, h3]; done)
   | (simp [h1, h2, h3]; omega)
  have h1 : mp p.text = false := hs
  refine yF rfl rfl rfl rfl ?_
  refine yL rfl rfl rfl ?_
  refine aa rfl (bp rfl rfl (List.length_map _)) ?_
  refine aa rfl (ir rfl rfl rfl) ?_
  refine aa rfl (cz rfl rfl (by constructor)) ?_
  refine yM rfl rfl ?_
  refine ff (fun hs => ?_) (fun hs => ?_)
  ·have h2 : 6 < p.firsts.length := by have := of_decide_eq_true hs; omega
   refine yK rfl ?_
   refine yK rfl ?_
   refine yK rfl ?_
   refine yK rfl ?_
   refine aa rfl (ci rfl rfl (by constructor)) ?_
   refine yM rfl rfl ?_
   refine yK rfl ?_
   refine yK rfl ?_
   refine yK rfl ?_
   refine yK rfl ?_
   refine aa rfl (ci rfl rfl (by constructor)) ?_
   refine yN ?_
   dsimp only [St.put]
   refine ⟨_, ?_, ⟨⟨rfl, rfl⟩, zF, zB, zN, zX⟩⟩
   first
   | (simp [h1]; done)
   | (simp [h1, h2]; done)
   | (simp [h1, h2, h3]; done)
   | (simp [h1, h2, h3]; omega)
  have h2 : ¬ 6 < p.firsts.length := by have := of_decide_eq_false hs; omega
  refine yF rfl rfl rfl rfl ?_
  refine yL rfl rfl rfl ?_
  refine aa rfl (bp rfl rfl (List.length_map _)) ?_
  refine aa rfl (ir rfl rfl rfl) ?_
  refine aa rfl (cz rfl rfl (by constructor)) ?_
  refine yM rfl rfl ?_
  refine ff (fun hs => ?_) (fun hs => ?_)
  ·have h3 : 6 < p.seconds.length := by have := of_decide_eq_true hs; omega
   refine yK rfl ?_
   refine yK rfl ?_
   refine yK rfl ?_
   refine yK rfl ?_
   refine aa rfl (ci rfl rfl (by constructor)) ?_
   refine yN ?_
   dsimp only [St.put]
   refine ⟨_, ?_, ⟨⟨rfl, rfl⟩, zF, zB, zN, zX⟩⟩
   first
   | (simp [h1]; done)
   | (simp [h1, h2]; done)
   | (simp [h1, h2, h3]; done)
   | (simp [h1, h2, h3]; omega)
  have h3 : ¬ 6 < p.seconds.length := by have := of_decide_eq_false hs; omega
  refine yF rfl rfl rfl rfl ?_
  refine yL rfl rfl rfl ?_
  refine aa rfl (bp rfl rfl (List.length_map _)) ?_
  refine aa rfl (ir rfl rfl rfl) ?_
  refine aa rfl (cz rfl rfl (by constructor)) ?_
  refine yN ?_
  dsimp only [St.put]
  refine ⟨_, ?_, ⟨⟨rfl, rfl⟩, zF, zB, zN, zX⟩⟩
  first
  | (simp [h1]; done)
  | (simp [h1, h2]; done)
  | (simp [h1, h2, h3]; done)
  | (simp [h1, h2, h3]; omega)
 rintro d hst
 dsimp only at hst ⊢
 refine aq rfl (fun hc => ?_) (fun hc => ?_)
 ·rw [hc] at hst
  refine yS fun _ K4 => ?_
  refine yR ?_
  refine yA rfl rfl ?_
  refine yN ?_
  dsimp only [St.put]
  refine K4 _ ?_
  refine ar ?_
  refine bj rfl (by constructor) zN zS ?_
  exact vb (by unfold nh; rw [hst]; rfl)
 rw [hc] at hst
 have hpl : ¬ 12 < p.pages.length := fun h => by rw [decide_eq_true h, Bool.or_true] at hst; cases hst
 refine ax ?_
 refine K2 _ ?_
 refine yS fun _ K5 => ?_
 refine yS fun _ K6 => ?_
 refine yR ?_
 refine yA rfl rfl ?_
 refine yN ?_
 dsimp only [St.put]
 refine K6 _ ?_
 refine bf ?_
 refine cm 4 ?_
 refine zQ ?_
 refine dm (G) zX ?_
 dsimp only
 refine dj (X := Nat) (fun i => i ≤ p.pages.length ∧ ∀ x ∈ p.pages.take i, lz x = false) (fun i => p.pages.length - i) (fun i => [(3, .v (.int .i64 (i : Int)))]) (fun i G' => G') 0 rfl ?_ ?_ (fun _ _ h => h) ?_ ?_ ?_
 ·exact ⟨Nat.zero_le _, by simp⟩
 ·exact zF
 ·rintro i hI
  exact zL
 ·exact fun _ _ _ _ h => .inl h
 rintro i hI
 dsimp only at hI ⊢
 refine yS fun _ K7 => ?_
 refine yS fun _ K8 => ?_
 refine yR ?_
 refine yM rfl rfl ?_
 refine yF rfl rfl rfl rfl ?_
 refine yL rfl rfl rfl ?_
 refine aa rfl (bp rfl rfl (List.length_map _)) ?_
 refine aa rfl (ck rfl rfl rfl) ?_
 refine yN ?_
 dsimp only [St.put]
 refine K8 _ ?_
 refine aq rfl (fun hc => ?_) (fun hc => ?_)
 ·replace hc := of_decide_eq_true hc
  obtain ⟨x, hx⟩ : ∃ x, p.pages[i]? = some x := dl (by omega)
  refine ax ?_
  refine K7 _ ?_
  refine yS fun _ K9 => ?_
  refine bf ?_
  refine yS fun _ K10 => ?_
  refine yR ?_
  refine yF rfl rfl rfl rfl ?_
  refine yL rfl rfl rfl ?_
  refine yM rfl rfl ?_
  refine aa rfl (bw rfl rfl rfl rfl (bu (by assumption)) (Enc.len _)) ?_
  refine yF rfl rfl rfl rfl ?_
  refine yL rfl rfl rfl ?_
  refine aa rfl (bp rfl rfl (List.length_map _)) ?_
  refine aa rfl (ir rfl rfl rfl) ?_
  refine yM rfl rfl ?_
  refine ff (fun hs => ?_) (fun hs => ?_)
  ·have g1 : 200 < x.found.length := by have := of_decide_eq_true hs; omega
   refine yK rfl ?_
   refine yK rfl ?_
   refine yK rfl ?_
   refine yK rfl ?_
   refine yK rfl ?_
   refine yK rfl ?_
   refine yK rfl ?_
   refine yK rfl ?_
   refine aa rfl (ci rfl rfl (by constructor)) ?_
   refine yN ?_
   dsimp only [St.put]
   refine K10 _ ?_
   refine aq rfl (fun _ => ?_) (fun h => by cases h)
   have hgx : lz x = true := by
    first
    | (simp [lz, g1]; done)
    | (have g2 : 200 < x.well.length := by (have := of_decide_eq_true hc; omega)
       simp [lz, g2])
   refine yS fun _ K11 => ?_
   refine yR ?_
   refine yA rfl rfl ?_
   refine yN ?_
   dsimp only [St.put]
   refine K11 _ ?_
   refine ar ?_
   refine bj rfl (by constructor) zN zS ?_
   exact vb (by
    have : p.pages.any lz = true := List.any_eq_true.2 ⟨x, gh hx, hgx⟩
    unfold nh; rw [this, Bool.or_true])
  have g1 : ¬ 200 < x.found.length := by have := of_decide_eq_false hs; omega
  refine yF rfl rfl rfl rfl ?_
  refine yL rfl rfl rfl ?_
  refine yM rfl rfl ?_
  refine aa rfl (bw rfl rfl rfl rfl (bu (by assumption)) (Enc.len _)) ?_
  refine yF rfl rfl rfl rfl ?_
  refine yL rfl rfl rfl ?_
  refine aa rfl (bp rfl rfl (List.length_map _)) ?_
  refine aa rfl (ir rfl rfl rfl) ?_
  refine aa rfl (cz rfl rfl (by constructor)) ?_
  refine yN ?_
  dsimp only [St.put]
  refine K10 _ ?_
  refine aq rfl (fun hc => ?_) (fun hc => ?_)
  ·have hgx : lz x = true := by
    first
    | (simp [lz, g1]; done)
    | (have g2 : 200 < x.well.length := by (have := of_decide_eq_true hc; omega)
       simp [lz, g2])
   refine yS fun _ K12 => ?_
   refine yR ?_
   refine yA rfl rfl ?_
   refine yN ?_
   dsimp only [St.put]
   refine K12 _ ?_
   refine ar ?_
   refine bj rfl (by constructor) zN zS ?_
   exact vb (by
    have : p.pages.any lz = true := List.any_eq_true.2 ⟨x, gh hx, hgx⟩
    unfold nh; rw [this, Bool.or_true])
  have hgx : lz x = false := by
   have g2 : ¬ 200 < x.well.length := by (have := of_decide_eq_false hc; omega)
   simp [lz, g1, g2]
  refine ax ?_
  refine K9 _ ?_
  refine yR ?_
  refine yM rfl rfl ?_
  refine aa rfl (br rfl rfl rfl (by omega)) ?_
  refine yA rfl rfl ?_
  refine yN ?_
  dsimp only [St.put]
  exact ⟨i + 1, by omega, ⟨by omega, uco (p := fun x : ak => lz x = false) hx hgx hI.2⟩, ⟨⟨rfl, rfl⟩, zF, zB, zN, zX⟩⟩
 replace hc := of_decide_eq_false hc
 have hall := hI.2
 rw [ia (show p.pages.length ≤ i by omega)] at hall
 refine c6 ?_
 refine K5 _ ?_
 refine yS fun _ K13 => ?_
 refine yR ?_
 refine yA rfl rfl ?_
 refine yN ?_
 dsimp only [St.put]
 refine K13 _ ?_
 refine ar ?_
 refine bj rfl (by constructor) zN zS ?_
 exact vb (by
  have : p.pages.any lz = false := List.any_eq_false.2 fun x hx => by rw [hall x hx]; simp
  unfold nh; rw [hst, this]; rfl)
set_option maxHeartbeats 1000000 in
theorem uo0 (p : ah) (es : List Int) (h : et p) (hel : es.length ≤ 9223372036854775807) : Pure Tryz.prog 13 [val p, lst es] (.v (.bool (j5 p es))) := by
 refine dg Tryz.func13 rfl (fun m => .v) fun G nx => ?_
 simp only [Tryz.ntmps13, List.length_cons, List.length_nil, Nat.reduceAdd, Nat.reduceSub]
 refine cb fun hlt => ?_
 dsimp only at hlt
 have hn1 := h.nf
 have hn2 := h.ns
 have hnp := h.np
 have hal := mr h.text
 have hnr : co p = p.firsts.length + p.seconds.length := rfl
 refine yS fun _ K1 => ?_
 refine yR ?_
 try dsimp only [St.put]
 refine yB rfl rfl rfl ?_
 refine yA rfl rfl ?_
 refine yN ?_
 dsimp only [St.put]
 refine K1 _ ?_
 refine yS fun _ K2 => ?_
 refine yS fun _ K3 => ?_
 refine yR ?_
 refine yM rfl rfl ?_
 refine aa rfl (bp rfl rfl (List.length_map _)) ?_
 refine yF rfl rfl rfl rfl ?_
 refine yL rfl rfl rfl ?_
 refine aa rfl (bp rfl rfl (List.length_map _)) ?_
 refine aa rfl (gk rfl rfl rfl) ?_
 refine yN ?_
 dsimp only [St.put]
 refine K3 _ ?_
 refine aq rfl (fun hc => ?_) (fun hc => ?_)
 ·have hl : ¬ es.length = p.pages.length := by
   have := ke hc
   omega
  refine yS fun _ K4 => ?_
  refine yR ?_
  refine yA rfl rfl ?_
  refine yN ?_
  dsimp only [St.put]
  refine K4 _ ?_
  refine ar ?_
  refine bj rfl (by constructor) zN zS ?_
  exact vb (ul4 hl).symm
 have hl : es.length = p.pages.length := by
  have := i5 hc
  omega
 refine ax ?_
 refine K2 _ ?_
 refine yS fun _ K5 => ?_
 refine yS fun _ K6 => ?_
 refine yR ?_
 refine yA rfl rfl ?_
 refine yN ?_
 dsimp only [St.put]
 refine K6 _ ?_
 refine bf ?_
 refine cm 13 ?_
 refine zQ ?_
 refine dm (G) zX ?_
 dsimp only
 refine dj (X := Nat) (fun j => j ≤ p.pages.length ∧ ∀ k, k < j → inB (gi es k) (fb p k) (mf p k) = true) (fun j => p.pages.length - j) (fun j => [(5, .v (.int .i64 (j : Int)))]) (fun j G' => G') 0 rfl ?_ ?_ (fun _ _ h => h) ?_ ?_ ?_
 ·exact ⟨Nat.zero_le _, fun k hk => absurd hk (Nat.not_lt_zero _)⟩
 ·exact zF
 ·rintro j hI
  exact zL
 ·exact fun _ _ _ _ h => .inl h
 rintro j hI
 dsimp only at hI ⊢
 refine yS fun _ K7 => ?_
 refine yS fun _ K8 => ?_
 refine yR ?_
 refine yM rfl rfl ?_
 refine yM rfl rfl ?_
 refine aa rfl (bp rfl rfl (List.length_map _)) ?_
 refine aa rfl (ck rfl rfl rfl) ?_
 refine yN ?_
 dsimp only [St.put]
 refine K8 _ ?_
 refine aq rfl (fun hc => ?_) (fun hc => ?_)
 ·replace hc := of_decide_eq_true hc
  have hj : j < p.pages.length := by omega
  obtain ⟨x, hx⟩ : ∃ x, p.pages[j]? = some x := dl hj
  obtain ⟨e, he⟩ : ∃ e, es[j]? = some e := dl (by omega)
  have hp := pageB_true.1 (h.page j x hx)
  have hfl := oe hp.found
  have hwl := oe hp.well
  have h1 : gi es j = e := uh8 he
  have h2 : fb p j = ((d7 p.text x).length : Int) := pr hx _
  have h3 : mf p j = (fh p.text x : Int) := pr hx _
  refine ax ?_
  refine K7 _ ?_
  refine yS fun _ K9 => ?_
  refine bf ?_
  refine yS fun _ K10 => ?_
  refine fw [(0, none), (1, none), (2, none), (3, none), (4, none), (5, none), (8, none), (9, none), (6, none), (7, none), (10, none), (11, none), (12, none)] (fun i => [11].contains i) (fun i => [6, 10, 11].contains i) (fun i => [0, 1, 2, 5, 7, 9, 12].contains i) [] (by kernel_rfl) (by kernel_rfl) ?_
  refine xM rfl rfl rfl rfl rfl ?_
  refine xM rfl rfl rfl rfl rfl ?_
  try dsimp only [St.put]
  refine af rfl rfl rfl rfl (bw rfl rfl rfl rfl (bu (by assumption)) (Enc.len _)) ?_
  try dsimp only [St.put]
  refine aw rfl rfl rfl rfl (ca rfl rfl) ?_
  try dsimp only [St.put]
  refine aw rfl rfl rfl rfl (dz rfl rfl (Enc.len _)) ?_
  refine xM rfl rfl rfl rfl rfl ?_
  try dsimp only [St.put]
  refine aw rfl rfl rfl rfl (dz rfl rfl (Enc.len _)) ?_
  refine xM rfl rfl rfl rfl rfl ?_
  refine gu ?_
  try dsimp only [St.put]
  refine ij rfl rfl rfl (ba rfl rfl rfl (ufp p j x h.text hx (by omega) (by omega)) ⟨zD, ?_⟩)
  refine ec rfl rfl rfl rfl (bp rfl rfl (List.length_map _)) ?_
  try dsimp only [St.put]
  refine ij rfl rfl rfl (ba rfl rfl rfl (uov p j x h.text hx) ⟨zD, ?_⟩)
  try dsimp only [St.put]
  refine f4 rfl rfl rfl rfl (ba rfl rfl rfl (sd _ _ _) ?_)
  refine ec rfl rfl rfl rfl (ei rfl rfl) ?_
  refine gt ?_
  dsimp only [St.put]
  refine K10 _ ?_
  refine aq rfl (fun hc => ?_) (fun hc => ?_)
  ·have hin : inB (gi es j) (fb p j) (mf p j) = false := by rw [h1, h2, h3]; simpa using hc
   refine yS fun _ K11 => ?_
   refine yR ?_
   refine yA rfl rfl ?_
   refine yN ?_
   dsimp only [St.put]
   refine K11 _ ?_
   refine ar ?_
   refine bj rfl (by constructor) zN zS ?_
   exact vb (ul3 hj hin).symm
  have hin : inB (gi es j) (fb p j) (mf p j) = true := by rw [h1, h2, h3]; simpa using hc
  refine ax ?_
  refine K9 _ ?_
  refine yR ?_
  refine yM rfl rfl ?_
  refine aa rfl (br rfl rfl rfl (by omega)) ?_
  refine yA rfl rfl ?_
  refine yN ?_
  dsimp only [St.put]
  exact ⟨j + 1, by omega, ⟨by omega, fun k hk => by
    by_cases e : k = j
    ·subst e; exact hin
    exact hI.2 k (by omega)⟩, ⟨⟨rfl, rfl⟩, zF, zB, zN, zX⟩⟩
 replace hc := of_decide_eq_false hc
 obtain rfl : j = p.pages.length := by omega
 have hIn := hI.2
 obtain ⟨S, hS⟩ : ∃ S : Nat → Nat → Int, S = fun i j => bif (bx p).by j i then gi es j else 0 := ⟨_, rfl⟩
 have hSb : ∀ i n, n ≤ p.pages.length → 0 ≤ sm n (S i) ∧ sm n (S i) ≤ n * 600 := fun i n hn => by
  have hz : ∀ m : Nat, m ≤ p.pages.length → 0 ≤ sm m (S i) ∧ sm m (S i) ≤ m * 600 := by
   intro m
   induction m with
   | zero => intro _; simp [sm]
   | succ m ih =>
    intro hm
    have h1 := ih (by omega)
    have h2 := inB_true.1 (hIn m (by omega))
    have h3 := ud4 h m
    have h4 := ubf p m
    have h5 : 0 ≤ S i m ∧ S i m ≤ 600 := by
     rw [hS]
     dsimp only
     cases (bx p).by m i
     ·exact ⟨Int.le_refl _, by show (0 : Int) ≤ 600; omega⟩
     show 0 ≤ gi es m ∧ gi es m ≤ 600
     omega
    simp only [sm]
    omega
  exact hz n hn
 refine c6 ?_
 refine K5 _ ?_
 refine yS fun _ K12 => ?_
 refine yS fun _ K13 => ?_
 refine yR ?_
 refine yA rfl rfl ?_
 refine yN ?_
 dsimp only [St.put]
 refine K13 _ ?_
 refine bf ?_
 refine cm 13 ?_
 refine zQ ?_
 refine dm (G) zX ?_
 dsimp only
 refine dj (X := Nat) (fun i => i ≤ co p ∧ ∀ k, k < i → sm p.pages.length (S k) ≤ l7 p k) (fun i => co p - i) (fun i => [(6, .v (.int .i64 (i : Int))), (7, .any), (8, .any), (9, .any), (10, .any), (11, .any), (12, .any)]) (fun i G' => G') 0 rfl ?_ ?_ (fun _ _ h => h) ?_ ?_ ?_
 ·exact ⟨Nat.zero_le _, fun k hk => absurd hk (Nat.not_lt_zero _)⟩
 ·exact zF
 ·rintro i hI
  exact zL
 ·exact fun _ _ _ _ h => .inl h
 rintro i hJ
 dsimp only at hJ ⊢
 refine yS fun _ K14 => ?_
 refine yS fun _ K15 => ?_
 refine yR ?_
 refine yM rfl rfl ?_
 refine yF rfl rfl rfl rfl ?_
 refine yL rfl rfl rfl ?_
 refine aa rfl (bp rfl rfl (List.length_map _)) ?_
 refine yF rfl rfl rfl rfl ?_
 refine yL rfl rfl rfl ?_
 refine aa rfl (bp rfl rfl (List.length_map _)) ?_
 refine aa rfl (br rfl rfl rfl (by omega)) ?_
 refine aa rfl (ck rfl rfl rfl) ?_
 refine yN ?_
 dsimp only [St.put]
 refine K15 _ ?_
 refine aq rfl (fun hc => ?_) (fun hc => ?_)
 ·replace hc := of_decide_eq_true hc
  have hi : i < co p := by omega
  refine ax ?_
  refine K14 _ ?_
  refine yS fun _ K16 => ?_
  refine bf ?_
  refine yS fun _ K17 => ?_
  refine yR ?_
  refine yM rfl rfl ?_
  refine yA rfl rfl ?_
  refine yA rfl rfl ?_
  refine yN ?_
  dsimp only [St.put]
  refine K17 _ ?_
  refine cm 13 ?_
  refine zQ ?_
  refine lf (X := Bool × Nat) (fun y => (l7 p i = je p y.1 y.2 ∧ y.2 < (cy p y.1).length) ∧ ∀ (j : Nat) (x : ak), p.pages[j]? = some x → (bx p).by j i = decide (cn y.1 x = (y.2 : Int))) (fun y => [(7, .v (.bool y.1)), (8, .v (.int .i64 (y.2 : Int)))]) (fun y G' => G') rfl ?_ (fun _ _ _ _ h => .inl h) ?_ ?_
  ·rintro ⟨b, k⟩ hI
   exact zL
  ·refine yS fun _ K19 => ?_
   refine yR ?_
   refine yM rfl rfl ?_
   refine yF rfl rfl rfl rfl ?_
   refine yL rfl rfl rfl ?_
   refine aa rfl (bp rfl rfl (List.length_map _)) ?_
   refine aa rfl (m6 rfl rfl rfl) ?_
   refine yN ?_
   dsimp only [St.put]
   refine K19 _ ?_
   refine aq rfl (fun hc => ?_) (fun hc => ?_)
   ·have hh : p.firsts.length ≤ i := by have := of_decide_eq_true hc; omega
    refine fw [(0, none), (1, none), (2, none), (3, none), (4, none), (5, none), (6, none)] (fun i => [].contains i) (fun i => [].contains i) (fun i => [0, 1, 3, 4, 5, 6].contains i) [] (by kernel_rfl) (by kernel_rfl) ?_
    refine xM rfl rfl rfl rfl rfl ?_
    refine af rfl rfl rfl rfl (cp rfl rfl rfl) ?_
    try dsimp only [St.put]
    refine aw rfl rfl rfl rfl (ca rfl rfl) ?_
    refine af rfl rfl rfl rfl (bp rfl rfl (List.length_map _)) ?_
    refine af rfl rfl rfl rfl (gr rfl rfl rfl (by omega)) ?_
    refine af rfl rfl rfl rfl (dp rfl (by constructor)) ?_
    refine af rfl rfl rfl rfl (dp rfl (by constructor)) ?_
    refine cw ?_
    dsimp only [St.put]
    first
    | (rw [show (i : Int) - (p.firsts.length : Int) = ((i - p.firsts.length : Nat) : Int) by omega]
       exact ⟨(true, i - p.firsts.length), ⟨⟨by unfold l7; rw [decide_eq_false (show ¬ i < p.firsts.length by omega)]; rfl, by show i - p.firsts.length < p.seconds.length; omega⟩, fun j x hx => by rw [sw h hx, decide_eq_false (show ¬ i < p.firsts.length by omega)]; rfl⟩, ⟨⟨rfl, rfl⟩, zF, zB, zN, zX⟩⟩)
    | exact ⟨(false, i), ⟨⟨by unfold l7; rw [decide_eq_true (show i < p.firsts.length by omega)]; rfl, by show i < p.firsts.length; omega⟩, fun j x hx => by rw [sw h hx, decide_eq_true (show i < p.firsts.length by omega)]; rfl⟩, ⟨⟨rfl, rfl⟩, zF, zB, zN, zX⟩⟩
   have hh : ¬ p.firsts.length ≤ i := by have := of_decide_eq_false hc; omega
   refine ax ?_
   first
   | (rw [show (i : Int) - (p.firsts.length : Int) = ((i - p.firsts.length : Nat) : Int) by omega]
      exact ⟨(true, i - p.firsts.length), ⟨⟨by unfold l7; rw [decide_eq_false (show ¬ i < p.firsts.length by omega)]; rfl, by show i - p.firsts.length < p.seconds.length; omega⟩, fun j x hx => by rw [sw h hx, decide_eq_false (show ¬ i < p.firsts.length by omega)]; rfl⟩, ⟨⟨rfl, rfl⟩, zF, zB, zN, zX⟩⟩)
   | exact ⟨(false, i), ⟨⟨by unfold l7; rw [decide_eq_true (show i < p.firsts.length by omega)]; rfl, by show i < p.firsts.length; omega⟩, fun j x hx => by rw [sw h hx, decide_eq_true (show i < p.firsts.length by omega)]; rfl⟩, ⟨⟨rfl, rfl⟩, zF, zB, zN, zX⟩⟩
  rintro ⟨b, k⟩ hk
  dsimp only at hk ⊢
  refine yS fun _ K20 => ?_
  refine yR ?_
  refine yA rfl rfl ?_
  refine yN ?_
  dsimp only [St.put]
  refine K20 _ ?_
  refine yS fun _ K21 => ?_
  refine yS fun _ K22 => ?_
  refine yR ?_
  refine yA rfl rfl ?_
  refine yN ?_
  dsimp only [St.put]
  refine K22 _ ?_
  refine bf ?_
  refine cm 13 ?_
  refine zQ ?_
  refine dm (G) zX ?_
  dsimp only
  refine dj (X := Nat) (fun n => n ≤ p.pages.length) (fun n => p.pages.length - n) (fun n => [(9, .v (.int .i64 (sm n (S i)))), (10, .v (.int .i64 (n : Int)))]) (fun n G' => G') 0 rfl ?_ ?_ (fun _ _ h => h) ?_ ?_ ?_
  ·exact Nat.zero_le _
  ·exact zF
  ·rintro n hI
   exact zL
  ·exact fun _ _ _ _ h => .inl h
  rintro n hL
  dsimp only at hL ⊢
  refine yS fun _ K23 => ?_
  refine yS fun _ K24 => ?_
  refine yR ?_
  refine yM rfl rfl ?_
  refine yM rfl rfl ?_
  refine aa rfl (bp rfl rfl (List.length_map _)) ?_
  refine aa rfl (ck rfl rfl rfl) ?_
  refine yN ?_
  dsimp only [St.put]
  refine K24 _ ?_
  refine aq rfl (fun hc => ?_) (fun hc => ?_)
  ·replace hc := of_decide_eq_true hc
   have hnl : n < p.pages.length := by omega
   obtain ⟨x, hx⟩ : ∃ x, p.pages[n]? = some x := dl hnl
   obtain ⟨e, he⟩ : ∃ e, es[n]? = some e := dl (by omega)
   have h1 : gi es n = e := uh8 he
   have h2 := inB_true.1 (hIn n hnl)
   have h3 := ud4 h n
   have h4 := ubf p n
   rw [h1] at h2
   have h5 := hSb i n (by omega)
   have hSi : S i n = bif decide (cn b x = (k : Int)) then e else 0 := by rw [hS]; dsimp only; rw [hk.2 n x hx, h1]
   refine ax ?_
   refine K23 _ ?_
   refine yS fun _ K25 => ?_
   refine bf ?_
   refine yS fun _ K26 => ?_
   refine yR ?_
   refine yE rfl rfl rfl ?_
   refine yM rfl rfl ?_
   refine yM rfl rfl ?_
   refine yM rfl rfl ?_
   try dsimp only [St.put]
   refine ae rfl (ba rfl rfl rfl (ufn p n x b (k : Int) hx) ?_)
   refine yN ?_
   dsimp only [St.put]
   refine K26 _ ?_
   refine aq rfl (fun hc => ?_) (fun hc => ?_)
   ·have hrd := hc
    refine yR ?_
    refine yM rfl rfl ?_
    refine yM rfl rfl ?_
    refine yM rfl rfl ?_
    refine aa rfl (bw rfl rfl rfl rfl (bu (by assumption)) (Enc.len _)) ?_
    refine yL rfl rfl rfl ?_
    refine aa rfl (br rfl rfl rfl (by omega)) ?_
    refine yA rfl rfl ?_
    refine yN ?_
    dsimp only [St.put]
    refine K25 _ ?_
    refine yR ?_
    refine yM rfl rfl ?_
    refine aa rfl (br rfl rfl rfl (by omega)) ?_
    refine yA rfl rfl ?_
    refine yN ?_
    dsimp only [St.put]
    first
    | (have hb : decide (cn b x = (k : Int)) = true := hrd
       rw [show sm n (S i) + e = sm (n + 1) (S i) by simp only [sm]; rw [hSi, hb]; rfl]
       exact ⟨n + 1, by omega, by omega, ⟨⟨rfl, rfl⟩, zF, zB, zN, zX⟩⟩)
    | (have hb : decide (cn b x = (k : Int)) = false := hrd
       rw [show sm n (S i) = sm (n + 1) (S i) by simp only [sm]; rw [hSi, hb]; simp]
       exact ⟨n + 1, by omega, by omega, ⟨⟨rfl, rfl⟩, zF, zB, zN, zX⟩⟩)
   have hrd := hc
   refine ax ?_
   refine K25 _ ?_
   refine yR ?_
   refine yM rfl rfl ?_
   refine aa rfl (br rfl rfl rfl (by omega)) ?_
   refine yA rfl rfl ?_
   refine yN ?_
   dsimp only [St.put]
   first
   | (have hb : decide (cn b x = (k : Int)) = true := hrd
      rw [show sm n (S i) + e = sm (n + 1) (S i) by simp only [sm]; rw [hSi, hb]; rfl]
      exact ⟨n + 1, by omega, by omega, ⟨⟨rfl, rfl⟩, zF, zB, zN, zX⟩⟩)
   | (have hb : decide (cn b x = (k : Int)) = false := hrd
      rw [show sm n (S i) = sm (n + 1) (S i) by simp only [sm]; rw [hSi, hb]; simp]
      exact ⟨n + 1, by omega, by omega, ⟨⟨rfl, rfl⟩, zF, zB, zN, zX⟩⟩)
  replace hc := of_decide_eq_false hc
  obtain rfl : n = p.pages.length := by omega
  refine c6 ?_
  refine K21 _ ?_
  refine yS fun _ K27 => ?_
  refine yR ?_
  refine yE rfl rfl rfl ?_
  refine yM rfl rfl ?_
  refine yM rfl rfl ?_
  try dsimp only [St.put]
  refine ae rfl (ba rfl rfl rfl (uoy p b k h hk.1.2) ?_)
  refine yM rfl rfl ?_
  refine yX rfl rfl rfl rfl ?_
  refine yX rfl rfl rfl rfl ?_
  refine yA rfl rfl ?_
  refine yA rfl rfl ?_
  refine yN ?_
  dsimp only [St.put]
  refine K27 _ ?_
  refine yS fun _ K28 => ?_
  refine yR ?_
  refine yM rfl rfl ?_
  refine yM rfl rfl ?_
  refine aa rfl (ir rfl rfl rfl) ?_
  refine yN ?_
  dsimp only [St.put]
  refine K28 _ ?_
  refine aq rfl (fun hc => ?_) (fun hc => ?_)
  ·have hgt : ¬ sm p.pages.length (S i) ≤ l7 p i := by
    have := of_decide_eq_true hc
    rw [hk.1.1]
    omega
   refine yS fun _ K29 => ?_
   refine yR ?_
   refine yA rfl rfl ?_
   refine yN ?_
   dsimp only [St.put]
   refine K29 _ ?_
   refine ar ?_
   refine bj rfl (by constructor) zN zS ?_
   exact vb (ul2 hi (by rw [hS] at hgt; exact hgt)).symm
  have hle : sm p.pages.length (S i) ≤ l7 p i := by
   have := of_decide_eq_false hc
   rw [hk.1.1]
   omega
  refine ax ?_
  refine K16 _ ?_
  refine yR ?_
  refine yM rfl rfl ?_
  refine aa rfl (br rfl rfl rfl (by omega)) ?_
  refine yA rfl rfl ?_
  refine yN ?_
  dsimp only [St.put]
  exact ⟨i + 1, by omega, ⟨by omega, fun k hk => by
    by_cases e : k = i
    ·subst e; exact hle
    exact hJ.2 k (by omega)⟩, ⟨⟨rfl, rfl⟩, zF, zB, zN, zX⟩⟩
 replace hc := of_decide_eq_false hc
 obtain rfl : i = co p := by omega
 refine c6 ?_
 refine K12 _ ?_
 refine yS fun _ K30 => ?_
 refine yR ?_
 refine yA rfl rfl ?_
 refine yN ?_
 dsimp only [St.put]
 refine K30 _ ?_
 refine ar ?_
 refine bj rfl (by constructor) zN zS ?_
 exact vb (ul0 hl hIn (fun k hk => by have := hJ.2 k hk; rw [hS] at this; exact this)).symm
end Go.Proofs.YtgffhbbcpgdjjaaGreatDoor
namespace Go.AB
open Go Go.RowKit
open Go.AB.Enc (cells)
open Go.PB (ay aj PlaceD bg bi bh bn ak ah cr bq dr dt)
def pgC (p : ah) (n : Int) : C := bif decide (fe p n = 0) then k7 p else .v (.pointer none)
theorem upa (m : Nat) (p : ah) (n : Int) : C.low m (pgC p n) := by
 unfold pgC
 cases decide (fe p n = 0)
 ·exact .v
 exact ugr m p
theorem uf6 {p : ah} {n : Int} (h : fe p n ≠ 0) : pgC p n = .v (.pointer none) := by unfold pgC; rw [decide_eq_false h]; rfl
theorem w5 {p : ah} {n : Int} (h : fe p n = 0) : pgC p n = .elem [lst p.text, lst p.firsts, lst p.seconds, lst p.pages, lst (p.pages.map fun x => (fh p.text x : Int)), lst (p.pages.map (d7 p.text)), lst (p.pages.map (er p.text))] := by
 unfold pgC
 rw [decide_eq_true h, cond_true, zr (uc h).1]
theorem uy {α β : Type} {l : List α} {k : Nat} {x : α} (f : α → β) (h : l[k]? = some x) : (l.map f)[k]? = some (f x) := by rw [List.getElem?_map, h]; rfl
end Go.AB
namespace Go.Proofs.YtgffhbbcpgdjjaaGreatDoor
set_option maxRecDepth 10000
open Go Go.RowKit Go.AB
open Go.AB.Enc (cells)
open Go.PB (ay aj PlaceD bg bi bh bn ak ah cr bq dr dt)
theorem unf (m : Nat) (b : Bool) : ∀ c ∈ qt b, C.low m c := fun c hc => by
 simp only [List.mem_cons, List.not_mem_nil, or_false] at hc
 rcases hc with rfl | rfl | rfl <;> exact .fn (by simp)
theorem ur (n : Nat) (p : ah) (m : Int) : gd n f8 Tryz.prog 42 [val p, .v (.int .i64 m)] (.tup [pgC p m, .v (.int .i64 (fe p m))]) := fun G nx hF hnx => by
 refine jg (G) (nx) Tryz.func42 rfl (.tup (ce (upa _ _ _) (ce .v dq))) zN (fun hlt => zH) ?_
 simp only [Tryz.ntmps42, List.length_cons, List.length_nil, Nat.reduceAdd, Nat.reduceSub]
 refine cb fun hlt => ?_
 dsimp only at hlt
 refine yS fun _ K1 => ?_
 refine yR ?_
 try dsimp only [St.put]
 refine yB rfl rfl rfl ?_
 refine yA rfl rfl ?_
 refine yA rfl rfl ?_
 refine yN ?_
 dsimp only [St.put]
 refine K1 _ ?_
 refine yS fun _ K2 => ?_
 refine yR ?_
 refine yE rfl rfl rfl ?_
 try dsimp only [St.put]
 refine ae rfl (fa rfl rfl rfl (qz n p) zG (by dsimp only [St.put]; omega) ?_)
 refine yM rfl rfl ?_
 refine yX rfl rfl rfl rfl ?_
 refine yX rfl rfl rfl rfl ?_
 refine yA rfl rfl ?_
 refine yA rfl rfl ?_
 refine yN ?_
 dsimp only [St.put]
 refine K2 _ ?_
 refine yS fun _ K3 => ?_
 refine yS fun _ K4 => ?_
 refine yR ?_
 refine yM rfl rfl ?_
 refine aa rfl (gk rfl rfl rfl) ?_
 refine yN ?_
 dsimp only [St.put]
 refine K4 _ ?_
 refine aq rfl (fun hc => ?_) (fun hc => ?_)
 ·have h0 : dc p ≠ 0 := ke hc
  have hE : fe p m = dc p := by simp [fe, h0]
  refine yS fun _ K5 => ?_
  refine yR ?_
  refine yM rfl rfl ?_
  refine yA rfl rfl ?_
  refine yA rfl rfl ?_
  refine yN ?_
  dsimp only [St.put]
  refine K5 _ ?_
  refine ar ?_
  refine ld rfl (by constructor) (by constructor) zN zS ?_ ?_
  ·rw [uf6 (by rw [hE]; exact h0)]
  rw [hE]
 have h0 : dc p = 0 := i5 hc
 have hnp := (nk h0).1.np
 refine ax ?_
 refine K3 _ ?_
 refine yS fun _ K6 => ?_
 refine yS fun _ K7 => ?_
 refine yR ?_
 refine yF rfl rfl rfl rfl ?_
 refine yL rfl rfl rfl ?_
 refine aa rfl (bp rfl rfl (List.length_map _)) ?_
 refine aa rfl (gr rfl rfl rfl (by omega)) ?_
 refine yM rfl rfl ?_
 try dsimp only [St.put]
 refine ae rfl (ef rfl rfl rfl (by decide) (by decide) zR (by decide) ?_)
 try dsimp only [St.put]
 refine ae rfl (ba rfl rfl rfl (pu _ _ [_]) ?_)
 refine aa rfl (ei rfl rfl) ?_
 refine yN ?_
 dsimp only [St.put]
 refine K7 _ ?_
 refine aq rfl (fun hc => ?_) (fun hc => ?_)
 ·have h1 : inB m 0 ((p.pages.length : Int) - 1) = false := by rw [ig] at hc; simpa using hc
  have hE : fe p m = 2 := by simp [fe, h0, h1]
  refine yS fun _ K8 => ?_
  refine yR ?_
  refine yA rfl rfl ?_
  refine yA rfl rfl ?_
  refine yN ?_
  dsimp only [St.put]
  refine K8 _ ?_
  refine ar ?_
  refine ld rfl (by constructor) (by constructor) zN zS ?_ ?_
  ·rw [uf6 (by rw [hE]; decide)]
  rw [hE]
 have h1 : inB m 0 ((p.pages.length : Int) - 1) = true := by rw [ig] at hc; simpa using hc
 have hE : fe p m = 0 := by simp [fe, h0, h1]
 refine ax ?_
 refine K6 _ ?_
 refine yS fun _ K9 => ?_
 refine yR ?_
 refine yM rfl rfl ?_
 refine yA rfl rfl ?_
 refine yA rfl rfl ?_
 refine yN ?_
 dsimp only [St.put]
 refine K9 _ ?_
 refine ar ?_
 refine ld rfl (by constructor) (by constructor) zN zS ?_ ?_
 ·unfold pgC; rw [decide_eq_true hE]; rfl
 rw [hE]
theorem upi (n : Nat) (p : ah) (m : Int) : gd n f8 Tryz.prog 17 [val p, .v (.int .i64 m)] (.tup [.v (.int .i64 (te p m)), .v (.int .i64 (fe p m))]) := fun G nx hF hnx => by
 refine jg (G) (nx) Tryz.func17 rfl (.tup (ce .v (ce .v dq))) zN (fun hlt => zH) ?_
 simp only [Tryz.ntmps17, List.length_cons, List.length_nil, Nat.reduceAdd, Nat.reduceSub]
 refine cb fun hlt => ?_
 dsimp only at hlt
 refine yS fun _ K1 => ?_
 refine yR ?_
 try dsimp only [St.put]
 refine yB rfl rfl rfl ?_
 refine yA rfl rfl ?_
 refine yA rfl rfl ?_
 refine yN ?_
 dsimp only [St.put]
 refine K1 _ ?_
 refine yS fun _ K2 => ?_
 refine yR ?_
 refine yE rfl rfl rfl ?_
 refine yM rfl rfl ?_
 try dsimp only [St.put]
 refine ae rfl (fa rfl rfl rfl (ur n p m) zG (by dsimp only [St.put]; omega) ?_)
 refine yM rfl rfl ?_
 refine yX rfl rfl rfl rfl ?_
 refine yX rfl rfl rfl rfl ?_
 refine yA rfl rfl ?_
 refine yA rfl rfl ?_
 refine yN ?_
 dsimp only [St.put]
 refine K2 _ ?_
 refine yS fun _ K3 => ?_
 refine yS fun _ K4 => ?_
 refine yR ?_
 refine yM rfl rfl ?_
 refine aa rfl (gk rfl rfl rfl) ?_
 refine yN ?_
 dsimp only [St.put]
 refine K4 _ ?_
 refine aq rfl (fun hc => ?_) (fun hc => ?_)
 ·have h0 : fe p m ≠ 0 := ke hc
  have hV : te p m = 0 := by unfold te; rw [nt h0]
  refine yS fun _ K5 => ?_
  refine yR ?_
  refine yM rfl rfl ?_
  refine yA rfl rfl ?_
  refine yA rfl rfl ?_
  refine yN ?_
  dsimp only [St.put]
  refine K5 _ ?_
  refine ar ?_
  refine ld rfl (by constructor) (by constructor) zN zS ?_ ?_
  ·exact vi hV.symm
  rfl
 have h0 : fe p m = 0 := i5 hc
 obtain ⟨hc0, j, x, rfl, hx, hpo⟩ := uc h0
 have hw := uy (fun x => (fh p.text x : Int)) hx
 have hV : te p (j : Int) = (fh p.text x : Int) := by unfold te; rw [h0, hpo]; rfl
 rw [w5 h0]
 refine ax ?_
 refine K3 _ ?_
 refine yS fun _ K6 => ?_
 refine yR ?_
 refine yM rfl rfl ?_
 refine aa rfl (m5 rfl rfl) ?_
 refine yF rfl rfl rfl rfl ?_
 refine yL rfl rfl rfl ?_
 refine yM rfl rfl ?_
 refine aa rfl (bw rfl rfl rfl rfl (bu (by assumption)) (Enc.len _)) ?_
 refine yL rfl rfl rfl ?_
 refine yA rfl rfl ?_
 refine yA rfl rfl ?_
 refine yN ?_
 dsimp only [St.put]
 refine K6 _ ?_
 refine ar ?_
 refine ld rfl (by constructor) (by constructor) zN zS ?_ ?_
 ·exact vi hV.symm
 exact vi h0.symm
theorem ugg (n : Nat) (p : ah) (m : Int) : gd n f8 Tryz.prog 18 [val p, .v (.int .i64 m)] (.tup [lst (sq p m), .v (.int .i64 (fe p m))]) := fun G nx hF hnx => by
 refine jg (G) (nx) Tryz.func18 rfl (.tup (ce (bv _ _) (ce .v dq))) zN (fun hlt => zH) ?_
 simp only [Tryz.ntmps18, List.length_cons, List.length_nil, Nat.reduceAdd, Nat.reduceSub]
 refine cb fun hlt => ?_
 dsimp only at hlt
 refine yS fun _ K1 => ?_
 refine yR ?_
 try dsimp only [St.put]
 refine yB rfl rfl rfl ?_
 refine yA rfl rfl ?_
 refine yA rfl rfl ?_
 refine yN ?_
 dsimp only [St.put]
 refine K1 _ ?_
 refine yS fun _ K2 => ?_
 refine yR ?_
 refine yE rfl rfl rfl ?_
 refine yM rfl rfl ?_
 try dsimp only [St.put]
 refine ae rfl (fa rfl rfl rfl (ur n p m) zG (by dsimp only [St.put]; omega) ?_)
 refine yM rfl rfl ?_
 refine yX rfl rfl rfl rfl ?_
 refine yX rfl rfl rfl rfl ?_
 refine yA rfl rfl ?_
 refine yA rfl rfl ?_
 refine yN ?_
 dsimp only [St.put]
 refine K2 _ ?_
 refine yS fun _ K3 => ?_
 refine yS fun _ K4 => ?_
 refine yR ?_
 refine yM rfl rfl ?_
 refine aa rfl (gk rfl rfl rfl) ?_
 refine yN ?_
 dsimp only [St.put]
 refine K4 _ ?_
 refine aq rfl (fun hc => ?_) (fun hc => ?_)
 ·have h0 : fe p m ≠ 0 := ke hc
  have hV : sq p m = [] := by unfold sq; rw [nt h0]
  refine yS fun _ K5 => ?_
  refine yR ?_
  refine yM rfl rfl ?_
  refine yA rfl rfl ?_
  refine yA rfl rfl ?_
  refine yN ?_
  dsimp only [St.put]
  refine K5 _ ?_
  refine ar ?_
  refine i7 rfl (ey (by constructor)) (ey (by constructor)) zN zS ?_ ?_
  ·rw [hV]; exact zW
  exact zW
 have h0 : fe p m = 0 := i5 hc
 obtain ⟨hc0, j, x, rfl, hx, hpo⟩ := uc h0
 have hw := uy (d7 p.text) hx
 have hV : sq p (j : Int) = d7 p.text x := by unfold sq; rw [h0, hpo]; rfl
 rw [w5 h0]
 refine ax ?_
 refine K3 _ ?_
 refine yS fun _ K6 => ?_
 refine yR ?_
 refine yM rfl rfl ?_
 refine aa rfl (m5 rfl rfl) ?_
 refine yF rfl rfl rfl rfl ?_
 refine yL rfl rfl rfl ?_
 refine yM rfl rfl ?_
 refine aa rfl (bw rfl rfl rfl rfl (bu (by assumption)) (Enc.len _)) ?_
 refine yL rfl rfl rfl ?_
 refine yA rfl rfl ?_
 refine yA rfl rfl ?_
 refine yN ?_
 dsimp only [St.put]
 refine K6 _ ?_
 refine ar ?_
 refine i7 rfl (ey (by constructor)) (ey (by constructor)) zN zS ?_ ?_
 ·rw [hV]; exact zW
 rw [h0]; exact zW
theorem upw (n : Nat) (p : ah) (m : Int) : gd n f8 Tryz.prog 19 [val p, .v (.int .i64 m)] (.tup [lst (vo p m), .v (.int .i64 (fe p m))]) := fun G nx hF hnx => by
 refine jg (G) (nx) Tryz.func19 rfl (.tup (ce (bv _ _) (ce .v dq))) zN (fun hlt => zH) ?_
 simp only [Tryz.ntmps19, List.length_cons, List.length_nil, Nat.reduceAdd, Nat.reduceSub]
 refine cb fun hlt => ?_
 dsimp only at hlt
 refine yS fun _ K1 => ?_
 refine yR ?_
 try dsimp only [St.put]
 refine yB rfl rfl rfl ?_
 refine yA rfl rfl ?_
 refine yA rfl rfl ?_
 refine yN ?_
 dsimp only [St.put]
 refine K1 _ ?_
 refine yS fun _ K2 => ?_
 refine yR ?_
 refine yE rfl rfl rfl ?_
 refine yM rfl rfl ?_
 try dsimp only [St.put]
 refine ae rfl (fa rfl rfl rfl (ur n p m) zG (by dsimp only [St.put]; omega) ?_)
 refine yM rfl rfl ?_
 refine yX rfl rfl rfl rfl ?_
 refine yX rfl rfl rfl rfl ?_
 refine yA rfl rfl ?_
 refine yA rfl rfl ?_
 refine yN ?_
 dsimp only [St.put]
 refine K2 _ ?_
 refine yS fun _ K3 => ?_
 refine yS fun _ K4 => ?_
 refine yR ?_
 refine yM rfl rfl ?_
 refine aa rfl (gk rfl rfl rfl) ?_
 refine yN ?_
 dsimp only [St.put]
 refine K4 _ ?_
 refine aq rfl (fun hc => ?_) (fun hc => ?_)
 ·have h0 : fe p m ≠ 0 := ke hc
  have hV : vo p m = [] := by unfold vo; rw [nt h0]
  refine yS fun _ K5 => ?_
  refine yR ?_
  refine yM rfl rfl ?_
  refine yA rfl rfl ?_
  refine yA rfl rfl ?_
  refine yN ?_
  dsimp only [St.put]
  refine K5 _ ?_
  refine ar ?_
  refine i7 rfl (ey (by constructor)) (ey (by constructor)) zN zS ?_ ?_
  ·rw [hV]; exact zW
  exact zW
 have h0 : fe p m = 0 := i5 hc
 obtain ⟨hc0, j, x, rfl, hx, hpo⟩ := uc h0
 have hw := uy (er p.text) hx
 have hV : vo p (j : Int) = er p.text x := by unfold vo; rw [h0, hpo]; rfl
 rw [w5 h0]
 refine ax ?_
 refine K3 _ ?_
 refine yS fun _ K6 => ?_
 refine yR ?_
 refine yM rfl rfl ?_
 refine aa rfl (m5 rfl rfl) ?_
 refine yF rfl rfl rfl rfl ?_
 refine yL rfl rfl rfl ?_
 refine yM rfl rfl ?_
 refine aa rfl (bw rfl rfl rfl rfl (bu (by assumption)) (Enc.len _)) ?_
 refine yL rfl rfl rfl ?_
 refine yA rfl rfl ?_
 refine yA rfl rfl ?_
 refine yN ?_
 dsimp only [St.put]
 refine K6 _ ?_
 refine ar ?_
 refine i7 rfl (ey (by constructor)) (ey (by constructor)) zN zS ?_ ?_
 ·rw [hV]; exact zW
 rw [h0]; exact zW
theorem ugh (n : Nat) (p : ah) (b : Bool) (m : Int) : gd n f8 Tryz.prog 16 [val p, .v (.bool b), .v (.int .i64 m)] (.tup [.v (.int .i64 (pa p b m)), .v (.int .i64 (lh p b m))]) := fun G nx hF hnx => by
 refine jg (G) (nx) Tryz.func16 rfl (.tup (ce .v (ce .v dq))) zN (fun hlt => zH) ?_
 simp only [Tryz.ntmps16, List.length_cons, List.length_nil, Nat.reduceAdd, Nat.reduceSub]
 refine cb fun hlt => ?_
 dsimp only at hlt
 refine yS fun _ K1 => ?_
 refine yR ?_
 try dsimp only [St.put]
 refine yB rfl rfl rfl ?_
 refine yA rfl rfl ?_
 refine yA rfl rfl ?_
 refine yN ?_
 dsimp only [St.put]
 refine K1 _ ?_
 refine yS fun _ K2 => ?_
 refine yR ?_
 refine yE rfl rfl rfl ?_
 try dsimp only [St.put]
 refine ae rfl (fa rfl rfl rfl (qz n p) zG (by dsimp only [St.put]; omega) ?_)
 refine yM rfl rfl ?_
 refine yX rfl rfl rfl rfl ?_
 refine yX rfl rfl rfl rfl ?_
 refine yA rfl rfl ?_
 refine yA rfl rfl ?_
 refine yN ?_
 dsimp only [St.put]
 refine K2 _ ?_
 refine yS fun _ K3 => ?_
 refine yS fun _ K4 => ?_
 refine yR ?_
 refine yM rfl rfl ?_
 refine aa rfl (gk rfl rfl rfl) ?_
 refine yN ?_
 dsimp only [St.put]
 refine K4 _ ?_
 refine aq rfl (fun hc => ?_) (fun hc => ?_)
 ·have h0 : dc p ≠ 0 := ke hc
  have hE : lh p b m = dc p := by simp [lh, h0]
  refine yS fun _ K5 => ?_
  refine yR ?_
  refine yM rfl rfl ?_
  refine yA rfl rfl ?_
  refine yA rfl rfl ?_
  refine yN ?_
  dsimp only [St.put]
  refine K5 _ ?_
  refine ar ?_
  refine ld rfl (by constructor) (by constructor) zN zS ?_ ?_
  ·exact vi (by simp [pa, atE, hE, h0])
  exact vi hE.symm
 have h0 : dc p = 0 := i5 hc
 obtain ⟨hok, _⟩ := nk h0
 have hn1 := hok.nf
 have hn2 := hok.ns
 have hsl : (cy p b).length ≤ 3 := by
  cases b
  ·exact hn1
  exact hn2
 rw [zr h0]
 refine ax ?_
 refine K3 _ ?_
 refine yS fun _ K6 => ?_
 refine yR ?_
 try dsimp only [St.put]
 refine aa rfl (ug3 (j := n) (k := 0) (m := 2) (sz := 3) rfl rfl zG rfl rfl (by decide) rfl) ?_
 try dsimp only [St.put]
 refine bk rfl (c := .agg (qt false)) (jx (cs := sidL) rfl rfl (show 3 ≤ 6 by decide)) ?_
 try dsimp only [St.put]
 refine ae rfl (dx rfl ?_)
 try dsimp only [St.put]
 refine ae rfl (di rfl rfl rfl zG rfl rfl (by rfl) ?_)
 refine yN ?_
 dsimp only [St.put]
 refine K6 _ ?_
 refine cm 13 ?_
 refine zQ ?_
 refine lf (X := Nat) (fun wv => True) (fun wv => []) (fun wv G' => ai G nx (.box wv (qt b))) rfl ?_ ?_ ?_ ?_
 ·rintro wv hI
  exact zL
 ·rintro wv hI
  exact (by (repeat' (refine ka ?_ (by (try dsimp only); omega) ?_)); all_goals (first | exact mn zS | (repeat' (first | exact trivial | refine ⟨?_, ?_⟩ | exact .v | exact .any | refine .elem ?_ | exact bv _ _ | exact fy _ _ | exact eu _ _ | exact fg _ (by (try dsimp only); omega) | exact .box (by (try dsimp only); omega) | exact fj | exact dq | exact unf _ _ | refine f9 ?_ ?_ | exact .arr (by (try dsimp only); omega) | exact .own (by (try dsimp only); omega) | exact .map (by (try dsimp only); omega) | exact e8 _ | refine ce ?_ ?_ | exact bv _ _))))
 ·refine yS fun _ K8 => ?_
  refine yR ?_
  refine yM rfl rfl ?_
  refine yN ?_
  dsimp only [St.put]
  refine K8 _ ?_
  refine aq rfl (fun hc => ?_) (fun hc => ?_)
  ·obtain rfl : b = true := hc
   have hyes : True := trivial
   refine yR ?_
   try dsimp only [St.put]
   refine aa rfl (ug3 (j := n) (k := 1) (m := 2) (sz := 3) rfl rfl zG rfl rfl (by decide) rfl) ?_
   try dsimp only [St.put]
   refine bk rfl (dz rfl rfl rfl) ?_
   try dsimp only [St.put]
   refine ae rfl (di rfl rfl rfl zG rfl rfl (by rfl) ?_)
   refine yN ?_
   dsimp only [St.put]
   first
   | exact ⟨1 + 1, hyes, ⟨⟨rfl, rfl⟩, zF, zB, zN, zX⟩⟩
   | exact ⟨1, hno, ⟨⟨rfl, rfl⟩, zF, zB, zN, zX⟩⟩
  obtain rfl : b = false := hc
  have hno : True := trivial
  refine ax ?_
  first
  | exact ⟨1 + 1, hyes, ⟨⟨rfl, rfl⟩, zF, zB, zN, zX⟩⟩
  | exact ⟨1, hno, ⟨⟨rfl, rfl⟩, zF, zB, zN, zX⟩⟩
 rintro wv hI
 dsimp only at hI ⊢
 refine yS fun _ K9 => ?_
 refine yS fun _ K10 => ?_
 refine yR ?_
 refine aa rfl (c7 rfl rfl) ?_
 try dsimp only [St.put]
 refine bk rfl (ez rfl rfl zG trivial (by first | rfl | assumption)) ?_
 refine yE rfl rfl rfl ?_
 try dsimp only [St.put]
 refine ae rfl (ba rfl rfl rfl (r8 b p) ?_)
 refine aa rfl (bp rfl rfl (List.length_map _)) ?_
 refine aa rfl (gr rfl rfl rfl (by omega)) ?_
 refine yM rfl rfl ?_
 try dsimp only [St.put]
 refine ae rfl (ef rfl rfl rfl (by decide) (by decide) zR (by decide) ?_)
 try dsimp only [St.put]
 refine ae rfl (ba rfl rfl rfl (pu _ _ [_]) ?_)
 refine aa rfl (ei rfl rfl) ?_
 refine yN ?_
 dsimp only [St.put]
 refine K10 _ ?_
 refine aq rfl (fun hc => ?_) (fun hc => ?_)
 ·have h1 : inB m 0 (((cy p b).length : Int) - 1) = false := by rw [ig] at hc; simpa using hc
  have hE : lh p b m = 2 := by simp [lh, h0, h1]
  refine yS fun _ K11 => ?_
  refine yR ?_
  refine yA rfl rfl ?_
  refine yA rfl rfl ?_
  refine yN ?_
  dsimp only [St.put]
  refine K11 _ ?_
  refine ar ?_
  refine ld rfl (by constructor) (by constructor) zN zS ?_ ?_
  ·exact vi (by simp [pa, atE, hE])
  exact vi hE.symm
 have h1 : inB m 0 (((cy p b).length : Int) - 1) = true := by rw [ig] at hc; simpa using hc
 have hE : lh p b m = 0 := by simp [lh, h0, h1]
 obtain ⟨j, hj⟩ : ∃ j : Nat, m = (j : Int) := ⟨m.toNat, by have := inB_true.1 h1; omega⟩
 subst hj
 have hjl : j < (cy p b).length := by have := inB_true.1 h1; omega
 have hV : pa p b (j : Int) = je p b j := by simp [pa, atE, hE]
 refine ax ?_
 refine K9 _ ?_
 refine yS fun _ K12 => ?_
 refine yR ?_
 refine yM rfl rfl ?_
 try dsimp only [St.put]
 refine bk rfl (jf rfl rfl zG trivial (by rfl)) ?_
 refine yM rfl rfl ?_
 try dsimp only [St.put]
 refine ae rfl (ba rfl rfl rfl (uf7 p b j hok hjl) ?_)
 refine yM rfl rfl ?_
 refine yX rfl rfl rfl rfl ?_
 refine yX rfl rfl rfl rfl ?_
 refine yA rfl rfl ?_
 refine yA rfl rfl ?_
 refine yN ?_
 dsimp only [St.put]
 refine K12 _ ?_
 refine yS fun _ K13 => ?_
 refine yR ?_
 refine yM rfl rfl ?_
 refine yA rfl rfl ?_
 refine yA rfl rfl ?_
 refine yN ?_
 dsimp only [St.put]
 refine K13 _ ?_
 refine ar ?_
 refine ld rfl (by constructor) (by constructor) zN zS ?_ ?_
 ·exact vi hV.symm
 exact vi hE.symm
theorem upt (n : Nat) (p : ah) (m : Int) : gd n f8 Tryz.prog 24 [val p, .v (.int .i64 m)] (.tup [val (rj p m), .v (.int .i64 (p9 p m))]) := fun G nx hF hnx => by
 refine jg (G) (nx) Tryz.func24 rfl (.tup (ce (eu _ _) (ce .v dq))) zN (fun hlt => zH) ?_
 simp only [Tryz.ntmps24, List.length_cons, List.length_nil, Nat.reduceAdd, Nat.reduceSub]
 refine cb fun hlt => ?_
 dsimp only at hlt
 refine yS fun _ K1 => ?_
 refine yR ?_
 try dsimp only [St.put]
 refine yB rfl rfl rfl ?_
 try dsimp only [St.put]
 refine ae rfl (dx rfl ?_)
 refine yA rfl rfl ?_
 refine yN ?_
 dsimp only [St.put]
 refine K1 _ ?_
 refine yS fun _ K2 => ?_
 refine yR ?_
 refine yE rfl rfl rfl ?_
 refine yM rfl rfl ?_
 try dsimp only [St.put]
 refine ae rfl (fa rfl rfl rfl (ur n p m) zG (by dsimp only [St.put]; omega) ?_)
 refine yM rfl rfl ?_
 refine yX rfl rfl rfl rfl ?_
 refine yX rfl rfl rfl rfl ?_
 refine yA rfl rfl ?_
 refine yA rfl rfl ?_
 refine yN ?_
 dsimp only [St.put]
 refine K2 _ ?_
 refine yS fun _ K3 => ?_
 refine yS fun _ K4 => ?_
 refine yR ?_
 refine yM rfl rfl ?_
 refine aa rfl (gk rfl rfl rfl) ?_
 refine yN ?_
 dsimp only [St.put]
 refine K4 _ ?_
 refine aq rfl (fun hc => ?_) (fun hc => ?_)
 ·have h0 : fe p m ≠ 0 := ke hc
  have hE : p9 p m = fe p m := by unfold p9; rw [decide_eq_false h0]; rfl
  have hV : rj p m = ⟨0, 0⟩ := by unfold rj; rw [hE, nt h0]
  refine yS fun _ K5 => ?_
  refine yR ?_
  refine aa rfl (iz rfl rfl) ?_
  refine yM rfl rfl ?_
  try dsimp only [St.put]
  refine ae rfl (di rfl rfl rfl zG rfl rfl (by rfl) ?_)
  refine yA rfl rfl ?_
  refine yN ?_
  dsimp only [St.put]
  refine K5 _ ?_
  refine ar ?_
  refine i7 rfl (ky rfl zG (by rfl) zC rfl) (ey (by constructor)) zN zS ?_ ?_
  ·rw [hV]; exact zW
  rw [hE]; exact zW
 have h0 : fe p m = 0 := i5 hc
 obtain ⟨hc0, j, x, rfl, hx, hpo⟩ := uc h0
 obtain ⟨hok, _⟩ := nk hc0
 have hp := pageB_true.1 (hok.page j x hx)
 have hal := mr hok.text
 have hfl := oe hp.found
 have hwl := oe hp.well
 have hbl := ujs p.text x
 have hw := uy (er p.text) hx
 rw [w5 h0]
 refine ax ?_
 refine K3 _ ?_
 refine yS fun _ K6 => ?_
 refine yR ?_
 refine yM rfl rfl ?_
 refine aa rfl (m5 rfl rfl) ?_
 refine yF rfl rfl rfl rfl ?_
 refine yL rfl rfl rfl ?_
 refine yM rfl rfl ?_
 refine aa rfl (bw rfl rfl rfl rfl (bu (by assumption)) (Enc.len _)) ?_
 refine yL rfl rfl rfl ?_
 refine aa rfl (bp rfl rfl (List.length_map _)) ?_
 refine yA rfl rfl ?_
 refine yN ?_
 dsimp only [St.put]
 refine K6 _ ?_
 refine yS fun _ K7 => ?_
 refine yS fun _ K8 => ?_
 refine yR ?_
 refine yM rfl rfl ?_
 refine aa rfl (gl rfl rfl rfl) ?_
 refine yN ?_
 dsimp only [St.put]
 refine K8 _ ?_
 refine aq rfl (fun hc => ?_) (fun hc => ?_)
 ·have hk : (er p.text x).length = 0 := by have := of_decide_eq_true hc; omega
  have hE : p9 p (j : Int) = 6 := by unfold p9; rw [h0, hpo, decide_eq_true hk]; rfl
  have hV : rj p (j : Int) = ⟨0, 0⟩ := by unfold rj; rw [hE, nt (by decide)]
  refine yS fun _ K9 => ?_
  refine yR ?_
  refine aa rfl (iz rfl rfl) ?_
  try dsimp only [St.put]
  refine ae rfl (di rfl rfl rfl zG rfl rfl (by rfl) ?_)
  refine yA rfl rfl ?_
  refine yN ?_
  dsimp only [St.put]
  refine K9 _ ?_
  refine ar ?_
  refine i7 rfl (ky rfl zG (by rfl) zC rfl) (ey (by constructor)) zN zS ?_ ?_
  ·rw [hV]; exact zW
  rw [hE]; exact zW
 have hk : ¬ (er p.text x).length = 0 := by have := of_decide_eq_false hc; omega
 obtain ⟨hE, hV⟩ := ur5 h0 hpo rfl hk
 have hfw : x.found.length * x.well.length ≤ 600 * 600 := Nat.mul_le_mul (by omega) (by omega)
 have hfc := Int.natCast_mul x.found.length x.well.length
 have hjl := (List.getElem?_eq_some_iff.1 hx).1
 refine ax ?_
 refine K7 _ ?_
 refine yS fun _ K10 => ?_
 refine fw [(0, none), (1, none), (2, none), (3, none), (4, none), (5, none), (6, none), (7, none), (8, none), (9, none), (10, none), (11, none), (12, none), (13, none), (14, none), (15, none)] (fun i => [].contains i) (fun i => [].contains i) (fun i => [0, 2, 3, 4, 6, 7, 9, 10, 11, 13, 14, 15].contains i) [] (by kernel_rfl) (by kernel_rfl) ?_
 refine af rfl rfl rfl rfl (cp rfl rfl rfl) ?_
 try dsimp only [St.put]
 refine aw rfl rfl rfl rfl (ca rfl rfl) ?_
 refine xM rfl rfl rfl rfl rfl ?_
 try dsimp only [St.put]
 refine af rfl rfl rfl rfl (bw rfl rfl rfl rfl (bu (by assumption)) (Enc.len _)) ?_
 refine af rfl rfl rfl rfl (cp rfl rfl rfl) ?_
 try dsimp only [St.put]
 refine aw rfl rfl rfl rfl (ca rfl rfl) ?_
 refine af rfl rfl rfl rfl (bp rfl rfl (List.length_map _)) ?_
 refine af rfl rfl rfl rfl (cp rfl rfl rfl) ?_
 try dsimp only [St.put]
 refine aw rfl rfl rfl rfl (ca rfl rfl) ?_
 refine xM rfl rfl rfl rfl rfl ?_
 try dsimp only [St.put]
 refine af rfl rfl rfl rfl (bw rfl rfl rfl rfl (bu (by assumption)) (Enc.len _)) ?_
 refine af rfl rfl rfl rfl (cp rfl rfl rfl) ?_
 try dsimp only [St.put]
 refine aw rfl rfl rfl rfl (ca rfl rfl) ?_
 refine af rfl rfl rfl rfl (bp rfl rfl (List.length_map _)) ?_
 refine af rfl rfl rfl rfl (ra rfl rfl rfl (by omega)) ?_
 refine af rfl rfl rfl rfl (dp rfl (by constructor)) ?_
 refine cw ?_
 dsimp only [St.put]
 rw [show (x.found.length : Int) * (x.well.length : Int) = ((x.found.length * x.well.length : Nat) : Int) from hfc.symm]
 obtain ⟨M, hM⟩ : ∃ M, x.found.length * x.well.length = M := ⟨_, rfl⟩
 obtain ⟨K, hK⟩ : ∃ K, (er p.text x).length = K := ⟨_, rfl⟩
 have hV2 : rj p (j : Int) = ⟨(M : Int) / (K : Int), ((M : Int) + (K : Int) - 1) / (K : Int)⟩ := by
  rw [hV]
  unfold uc1
  rw [hM, hK, Int.natCast_ediv, Int.natCast_ediv, show ((M + K - 1 : Nat) : Int) = (M : Int) + (K : Int) - 1 by omega]
 rw [hM] at hfw
 rw [hK] at hk hbl
 rw [hM, hK]
 refine K10 _ ?_
 refine yS fun _ K11 => ?_
 refine fw [(0, none), (1, none), (2, none), (3, none), (4, none), (5, none), (6, none), (7, none), (8, none), (9, none), (10, none), (11, none)] (fun i => [10].contains i) (fun i => [10].contains i) (fun i => [0, 1, 2, 3, 4, 5, 6, 7, 8, 9, 11].contains i) [] (by kernel_rfl) (by kernel_rfl) ?_
 refine xM rfl rfl rfl rfl rfl ?_
 refine xM rfl rfl rfl rfl rfl ?_
 refine af rfl rfl rfl rfl (uv rfl rfl rfl (by omega) (by omega)) ?_
 refine xM rfl rfl rfl rfl rfl ?_
 refine xM rfl rfl rfl rfl rfl ?_
 refine af rfl rfl rfl rfl (br rfl rfl rfl (by omega)) ?_
 refine af rfl rfl rfl rfl (gr rfl rfl rfl (by omega)) ?_
 refine xM rfl rfl rfl rfl rfl ?_
 refine af rfl rfl rfl rfl (uv rfl rfl rfl (by omega) (by omega)) ?_
 refine af rfl rfl rfl rfl (iz rfl rfl) ?_
 refine gu ?_
 try dsimp only [St.put]
 refine f4 rfl rfl rfl rfl (di rfl rfl rfl zG rfl rfl (by rfl) ?_)
 refine ec rfl rfl rfl rfl (dp rfl (by constructor)) ?_
 refine gt ?_
 dsimp only [St.put]
 refine K11 _ ?_
 refine ar ?_
 refine i7 rfl (ky rfl zG (by rfl) zC rfl) (ey (by constructor)) zN zS ?_ ?_
 ·rw [hV2]; exact zW
 rw [hE]; exact zW
end Go.Proofs.YtgffhbbcpgdjjaaGreatDoor
namespace Go.AB
open Go Go.RowKit
open Go.AB.Enc (cells)
open Go.PB (ay aj PlaceD bg bi bh bn ak ah cr bq dr dt)
/-- who has read a page, of some sides -/
def sb (p : ah) (x : ak) : Nat → List Int
 | 0 => []
 | k + 1 => sb p x k ++ bif decide (0 ≤ cn (decide (k = 1)) x) then [(sdN p k : Int) + cn (decide (k = 1)) x] else []
theorem uot (p : ah) (x : ak) : sb p x 2 = eg p x := by
 show ([] ++ bif decide (0 ≤ x.fst) then [((0 : Nat) : Int) + x.fst] else []) ++ (bif decide (0 ≤ x.snd) then [(p.firsts.length : Int) + x.snd] else []) = eg p x
 rw [List.nil_append, show ((0 : Nat) : Int) + x.fst = x.fst by omega]
 rfl
theorem ufm (p : ah) (x : ak) : ∀ k, (sb p x k).length ≤ k
 | 0 => Nat.le_refl _
 | k + 1 => by
  have := ufm p x k
  simp only [sb, List.length_append]
  cases decide (0 ≤ cn (decide (k = 1)) x)
  ·rw [cond_false]; simp; omega
  rw [cond_true]; simp; omega
theorem uqz {α β : Type} {l : List α} {j : Nat} {x : α} (f : α → β) (h : l[j]? = some x) : (l.take (j + 1)).map f = (l.take j).map f ++ [f x] := by rw [List.take_add_one, h, Option.toList_some, List.map_append]; rfl
theorem urf {p : ah} : (!(cc (co p) (dh p)).any fun n => decide (n < 0)) = j6 p := by
 rw [Bool.eq_iff_iff, Bool.not_eq_true', ← Bool.not_eq_true, List.any_eq_true]
 unfold j6 cc
 rw [List.all_eq_true]
 constructor
 ·intro h i hi
  refine decide_eq_true ?_
  rcases Int.lt_or_le (dh p i) 0 with q | q
  ·exact absurd ⟨_, List.mem_map.2 ⟨i, hi, rfl⟩, decide_eq_true q⟩ h
  exact q
 rintro h ⟨z, hz, hl⟩
 obtain ⟨i, hi, rfl⟩ := List.mem_map.1 hz
 have := of_decide_eq_true (h i hi)
 have := of_decide_eq_true hl
 omega
end Go.AB
namespace Go.Proofs.YtgffhbbcpgdjjaaGreatDoor
set_option maxRecDepth 10000
open Go Go.RowKit Go.AB
open Go.AB.Enc (cells)
open Go.PB (ay aj PlaceD bg bi bh bn ak ah cr bq dr dt)
theorem uof (z : Int) : Pure Tryz.prog 82 [.v (.int .i64 z)] (.v (.bool (decide (z < 0)))) := by
 refine dg Tryz.func82 rfl (fun m => .v) fun G nx => ?_
 simp only [Tryz.ntmps82, List.length_cons, List.length_nil, Nat.reduceAdd, Nat.reduceSub]
 refine cb fun hlt => ?_
 dsimp only at hlt
 refine yS fun _ K1 => ?_
 refine yR ?_
 refine yA rfl rfl ?_
 refine yN ?_
 dsimp only [St.put]
 refine K1 _ ?_
 refine yS fun _ K2 => ?_
 refine yR ?_
 refine yM rfl rfl ?_
 refine aa rfl (ck rfl rfl rfl) ?_
 refine yA rfl rfl ?_
 refine yN ?_
 dsimp only [St.put]
 refine K2 _ ?_
 refine ar ?_
 refine bj rfl (by constructor) zN zS ?_
 rfl
theorem urc (p : ah) : Pure Tryz.prog 81 [.elem (mh p)] (.fn (.func 93) [.elem [.elem (mh p)]]) := by
 refine dg Tryz.func81 rfl (fun m => (.fn (ce (.elem (ce (.elem (ce (bv _ _) (ce (bv _ _) (ce (bv _ _) (ce (bv _ _) (ce (bv _ _) (ce (bv _ _) (ce (bv _ _) dq)))))))) dq)) dq))) fun G nx => ?_
 simp only [Tryz.ntmps81, List.length_cons, List.length_nil, Nat.reduceAdd, Nat.reduceSub]
 refine cb fun hlt => ?_
 dsimp only at hlt
 refine yS fun _ K1 => ?_
 refine yR ?_
 try dsimp only [St.put]
 refine yB rfl rfl rfl ?_
 refine yA rfl rfl ?_
 refine yN ?_
 dsimp only [St.put]
 refine K1 _ ?_
 refine yS fun _ K2 => ?_
 refine yR ?_
 refine aa rfl (tn rfl rfl) ?_
 refine yA rfl rfl ?_
 refine yN ?_
 dsimp only [St.put]
 refine K2 _ ?_
 refine ar ?_
 refine bj rfl (by constructor) zN zS ?_
 rfl
set_option maxHeartbeats 2000000 in
theorem upp (n : Nat) (p : ah) (h : et p) : gd n f8 Tryz.prog 63 [.elem (mh p)] (.tup [val (ib p (dh p) (d9 p)), .v (.bool (j6 p))]) := fun G nx hF hnx => by
 refine jg (G) (nx) Tryz.func63 rfl (.tup (ce (eu _ _) (ce .v dq))) zN (fun hlt => zH) ?_
 simp only [Tryz.ntmps63, List.length_cons, List.length_nil, Nat.reduceAdd, Nat.reduceSub]
 refine cb fun hlt => ?_
 dsimp only at hlt
 have hn1 := h.nf
 have hn2 := h.ns
 have hnp := h.np
 have hnr : co p = p.firsts.length + p.seconds.length := rfl
 have hal := mr h.text
 refine yS fun _ K1 => ?_
 refine yR ?_
 try dsimp only [St.put]
 refine ae rfl (dx rfl ?_)
 refine yA rfl rfl ?_
 refine yN ?_
 dsimp only [St.put]
 refine K1 _ ?_
 refine yS fun _ K2 => ?_
 refine yR ?_
 try dsimp only [St.put]
 refine ae rfl (dx rfl ?_)
 refine yN ?_
 dsimp only [St.put]
 refine K2 _ ?_
 refine sy (nx + 1) 0 _ _ 3 1 zG rfl (by decide) ?_
 refine sy (nx + 1) 1 _ _ 3 1 zG rfl (by decide) ?_
 refine sy (nx + 1) 2 _ _ 33 1 zG rfl (by decide) ?_
 dsimp only [List.set_cons_zero, List.set_cons_succ]
 refine yS fun _ K3 => ?_
 refine yS fun _ K4 => ?_
 refine yR ?_
 refine yM rfl rfl ?_
 try dsimp only [St.put]
 refine ae rfl (ba rfl rfl rfl (urc p) ?_)
 refine yN ?_
 dsimp only [St.put]
 refine K4 _ ?_
 refine bf ?_
 refine cm 15 ?_
 refine zQ ?_
 refine dm ((ai (ai (ai (ai (ai G nx (.box 0 [.list [] .nil, .list [] .nil, .list [] .nil])) (nx + 1) (.box (0) [.list ((cc 0 (dh p)).map cells) (.tip (nx + 1 + 1)), .list ((cc 0 (d9 p)).map cells) (.tip (nx + 1 + 1 + 1)), .list (((p.pages.take 0).map (eg p)).map cells) (.tip (nx + 1 + 1 + 1 + 1))])) (nx + 1 + 1) (.tip (cc 0 (dh p)).length 3 1)) (nx + 1 + 1 + 1) (.tip (cc 0 (d9 p)).length 3 1)) (nx + 1 + 1 + 1 + 1) (.tip ((p.pages.take 0).map (eg p)).length 33 1))) zX ?_
 dsimp only
 refine uj3 [15] (fun k => (ai (ai (ai (ai (ai G nx (.box 0 [.list [] .nil, .list [] .nil, .list [] .nil])) (nx + 1) (.box (k) [.list ((cc k (dh p)).map cells) (.tip (nx + 1 + 1)), .list ((cc 0 (d9 p)).map cells) (.tip (nx + 1 + 1 + 1)), .list (((p.pages.take 0).map (eg p)).map cells) (.tip (nx + 1 + 1 + 1 + 1))])) (nx + 1 + 1) (.tip (cc k (dh p)).length 3 1)) (nx + 1 + 1 + 1) (.tip (cc 0 (d9 p)).length 3 1)) (nx + 1 + 1 + 1 + 1) (.tip ((p.pages.take 0).map (eg p)).length 33 1))) (fun k => [(15, .v (.int .i64 (dh p k)))]) (urd n p h) (fun k => zG) (by (try dsimp only); omega) rfl rfl (fun _ => rfl) ?_ ?_ ?_ (fun lr k hrk => ?_) ?_
 ·intro k
  rfl
 ·exact zX
 ·intro k
  exact zH
 ·have hll := jq k (dh p)
  refine yR ?_
  refine yA rfl rfl ?_
  refine yN ?_
  dsimp only [St.put]
  show AW _ _ _ _ _
  refine bf ?_
  refine yR ?_
  refine aa rfl (c7 rfl rfl) ?_
  try dsimp only [St.put]
  refine bk rfl (ez rfl rfl zG trivial (by first | rfl | assumption)) ?_
  refine yM rfl rfl ?_
  try dsimp only [St.put]
  refine ae rfl (ef rfl rfl rfl (by decide) (by decide) zR (by decide) ?_)
  try dsimp only [St.put]
  refine ae rfl (jz ([dh p k]) rfl rfl zG zE rfl rfl zA ?_ zA)
  refine aa rfl (c7 rfl rfl) ?_
  try dsimp only [St.put]
  refine ae rfl (l5 rfl rfl rfl zG (by constructor) rfl zO ?_)
  refine yN ?_
  dsimp only [St.put]
  rw [← yz k (dh p)]
  exact zX
 dsimp only
 refine K3 _ ?_
 refine yS fun _ K5 => ?_
 refine yS fun _ K6 => ?_
 refine yR ?_
 refine yM rfl rfl ?_
 refine aa rfl (m5 rfl rfl) ?_
 refine yF rfl rfl rfl rfl ?_
 refine yF rfl rfl rfl rfl ?_
 refine yL rfl rfl rfl ?_
 refine aa rfl (bp rfl rfl (List.length_map _)) ?_
 refine yM rfl rfl ?_
 refine yN ?_
 dsimp only [St.put]
 refine K6 _ ?_
 refine bf ?_
 refine cm 29 ?_
 refine zQ ?_
 refine dm ((ai (ai (ai (ai (ai G nx (.box 0 [.list [] .nil, .list [] .nil, .list [] .nil])) (nx + 1) (.box ((co p)) [.list ((cc (co p) (dh p)).map cells) (.tip (nx + 1 + 1)), .list ((cc 0 (d9 p)).map cells) (.tip (nx + 1 + 1 + 1)), .list (((p.pages.take 0).map (eg p)).map cells) (.tip (nx + 1 + 1 + 1 + 1))])) (nx + 1 + 1) (.tip (cc (co p) (dh p)).length 3 1)) (nx + 1 + 1 + 1) (.tip (cc 0 (d9 p)).length 3 1)) (nx + 1 + 1 + 1 + 1) (.tip ((p.pages.take 0).map (eg p)).length 33 1))) zX ?_
 dsimp only
 refine dj (X := Nat) (fun j => j ≤ p.pages.length) (fun j => p.pages.length - j) (fun j => [(6, .any), (7, .any), (8, .any), (9, .any), (10, .any), (11, .any), (12, .any), (28, .v (.int .i64 (j : Int)))]) (fun j G' => (ai (ai (ai (ai (ai G nx (.box 0 [.list [] .nil, .list [] .nil, .list [] .nil])) (nx + 1) (.box ((co p + 2 * j)) [.list ((cc (co p) (dh p)).map cells) (.tip (nx + 1 + 1)), .list ((cc j (d9 p)).map cells) (.tip (nx + 1 + 1 + 1)), .list (((p.pages.take j).map (eg p)).map cells) (.tip (nx + 1 + 1 + 1 + 1))])) (nx + 1 + 1) (.tip (cc (co p) (dh p)).length 3 1)) (nx + 1 + 1 + 1) (.tip (cc j (d9 p)).length 3 1)) (nx + 1 + 1 + 1 + 1) (.tip ((p.pages.take j).map (eg p)).length 33 1))) 0 rfl ?_ ?_ ?_ ?_ ?_ ?_
 ·exact Nat.zero_le _
 ·exact zF
 ·exact zX
 ·rintro j hI
  exact zL
 ·rintro j hI
  exact zH
 rintro j hJ
 dsimp only at hJ ⊢
 refine yS fun _ K7 => ?_
 refine yR ?_
 refine aa rfl (ck rfl rfl rfl) ?_
 refine yN ?_
 dsimp only [St.put]
 refine K7 _ ?_
 refine yS fun _ K8 => ?_
 refine aq rfl (fun hc => ?_) (fun hc => ?_)
 ·replace hc := of_decide_eq_true hc
  obtain ⟨x, hx⟩ : ∃ x, p.pages[j]? = some x := dl (by omega)
  have hw1 : (p.pages.map fun x => (fh p.text x : Int))[j]? = some (fh p.text x : Int) := uy (fun x => (fh p.text x : Int)) hx
  have hw2 := uy (d7 p.text) hx
  have hgl := vj p.text x
  have hwx := yu p.text x
  have hll := jq j (d9 p)
  have hp := pageB_true.1 (h.page j x hx)
  have hp1 := hp.fst
  have hp2 := hp.snd
  have hll2 : ((p.pages.take j).map (eg p)).length ≤ 8 := by rw [List.length_map, List.length_take]; omega
  refine ax ?_
  refine K8 _ ?_
  refine yS fun _ K9 => ?_
  refine bf ?_
  refine yS fun _ K10 => ?_
  refine yR ?_
  refine yM rfl rfl ?_
  refine aa rfl (bw rfl rfl rfl rfl (bu (by assumption)) (Enc.len _)) ?_
  refine yE rfl rfl rfl ?_
  try dsimp only [St.put]
  refine ae rfl (dx rfl ?_)
  refine yA rfl rfl ?_
  try dsimp only [St.put]
  refine ae rfl (di rfl rfl rfl zG rfl rfl (by rfl) ?_)
  refine yN ?_
  dsimp only [St.put]
  refine K10 _ ?_
  refine gg (i := 7) rfl zG zC ?_
  dsimp only
  refine yS fun _ K11 => ?_
  refine fw [(0, none), (1, none), (2, none), (3, none), (4, none), (5, none), (6, none), (7, none), (8, none), (9, none), (10, none), (11, none), (12, none), (13, none), (14, none), (15, none), (16, none), (17, none), (18, none), (19, none), (20, none), (21, none)] (fun i => [19, 21].contains i) (fun i => [18, 19, 21].contains i) (fun i => [0, 2, 3, 4, 6, 7, 9, 10, 11, 13, 14, 16, 17, 20].contains i) [nx + 1] (by kernel_rfl) (by kernel_rfl) ?_
  refine af rfl rfl rfl rfl (c7 rfl rfl) ?_
  try dsimp only [St.put]
  refine aw rfl rfl rfl rfl (ez rfl rfl zG (by simp) (by first | rfl | assumption)) ?_
  refine xM rfl rfl rfl rfl rfl ?_
  refine af rfl rfl rfl rfl (m5 rfl rfl) ?_
  refine af rfl rfl rfl rfl (cp rfl rfl rfl) ?_
  try dsimp only [St.put]
  refine aw rfl rfl rfl rfl (ca rfl rfl) ?_
  refine xM rfl rfl rfl rfl rfl ?_
  try dsimp only [St.put]
  refine af rfl rfl rfl rfl (bw rfl rfl rfl rfl (bu (by assumption)) (Enc.len _)) ?_
  try dsimp only [St.put]
  refine aw rfl rfl rfl rfl (ca rfl rfl) ?_
  refine xM rfl rfl rfl rfl rfl ?_
  refine af rfl rfl rfl rfl (m5 rfl rfl) ?_
  refine af rfl rfl rfl rfl (cp rfl rfl rfl) ?_
  try dsimp only [St.put]
  refine aw rfl rfl rfl rfl (ca rfl rfl) ?_
  refine xM rfl rfl rfl rfl rfl ?_
  try dsimp only [St.put]
  refine af rfl rfl rfl rfl (bw rfl rfl rfl rfl (bu (by assumption)) (Enc.len _)) ?_
  try dsimp only [St.put]
  refine aw rfl rfl rfl rfl (ca rfl rfl) ?_
  refine af rfl rfl rfl rfl (bp rfl rfl (List.length_map _)) ?_
  refine af rfl rfl rfl rfl (gr rfl rfl rfl (by omega)) ?_
  refine gu ?_
  try dsimp only [St.put]
  refine ij rfl rfl rfl (ef rfl rfl rfl (by decide) (by decide) zR (by decide) ⟨zD, ?_⟩)
  try dsimp only [St.put]
  refine f4 rfl rfl rfl rfl (jz ([(fh p.text x : Int) - ((d7 p.text x).length : Int)]) rfl rfl zG zE rfl rfl zA ?_ zA)
  refine ec rfl rfl rfl rfl (c7 rfl rfl) ?_
  try dsimp only [St.put]
  refine f4 rfl rfl rfl rfl (l5 rfl rfl rfl zG (by constructor) rfl zO ?_)
  refine gt ?_
  dsimp only [St.put]
  have e := yz j (d9 p)
  rw [show d9 p j = (fh p.text x : Int) - ((d7 p.text x).length : Int) from pr hx _] at e
  simp only [← e]
  refine K11 _ ?_
  refine yS fun _ K12 => ?_
  refine yR ?_
  refine yA rfl rfl ?_
  refine yN ?_
  dsimp only [St.put]
  refine K12 _ ?_
  refine qh 8 3 1 rfl (by decide) ?_
  dsimp only [List.set_cons_zero, List.set_cons_succ]
  refine yS fun _ K13 => ?_
  refine yR ?_
  refine yA rfl rfl ?_
  refine yN ?_
  dsimp only [St.put]
  refine K13 _ ?_
  refine yS fun _ K14 => ?_
  refine yS fun _ K15 => ?_
  refine yR ?_
  try dsimp only [St.put]
  refine bk rfl (pp (n := 6) (m := n) rfl rfl zG rfl) ?_
  refine yM rfl rfl ?_
  refine yN ?_
  dsimp only [St.put]
  refine K15 _ ?_
  refine bf ?_
  refine cm 56 ?_
  refine zQ ?_
  refine dm (ai ((ai (ai (ai (ai (ai G nx (.box 0 [.list [] .nil, .list [] .nil, .list [] .nil])) (nx + 1) (.box ((co p + 2 * j + 1)) [.list ((cc (co p) (dh p)).map cells) (.tip (nx + 1 + 1)), .list ((cc (j + 1) (d9 p)).map cells) (.tip (nx + 1 + 1 + 1)), .list (((p.pages.take j).map (eg p)).map cells) (.tip (nx + 1 + 1 + 1 + 1))])) (nx + 1 + 1) (.tip (cc (co p) (dh p)).length 3 1)) (nx + 1 + 1 + 1) (.tip (cc (j + 1) (d9 p)).length 3 1)) (nx + 1 + 1 + 1 + 1) (.tip ((p.pages.take j).map (eg p)).length 33 1))) (nx + 1 + 1 + 1 + 1 + 1 + 1) (.tip 0 3 1)) zX ?_
  dsimp only
  refine dj (X := Nat) (fun k => k ≤ 2) (fun k => 2 - k) (fun k => [(8, .list ((sb p x k).map cells) (.tip (nx + 1 + 1 + 1 + 1 + 1 + 1))), (9, .v (.int .i64 (sdN p k : Int))), (11, .any), (12, .any), (55, .v (.int .i64 (k : Int)))]) (fun k G' => ai ((ai (ai (ai (ai (ai G nx (.box 0 [.list [] .nil, .list [] .nil, .list [] .nil])) (nx + 1) (.box ((co p + 2 * j + 1)) [.list ((cc (co p) (dh p)).map cells) (.tip (nx + 1 + 1)), .list ((cc (j + 1) (d9 p)).map cells) (.tip (nx + 1 + 1 + 1)), .list (((p.pages.take j).map (eg p)).map cells) (.tip (nx + 1 + 1 + 1 + 1))])) (nx + 1 + 1) (.tip (cc (co p) (dh p)).length 3 1)) (nx + 1 + 1 + 1) (.tip (cc (j + 1) (d9 p)).length 3 1)) (nx + 1 + 1 + 1 + 1) (.tip ((p.pages.take j).map (eg p)).length 33 1))) (nx + 1 + 1 + 1 + 1 + 1 + 1) (.tip (sb p x k).length 3 1)) 0 rfl ?_ ?_ ?_ ?_ ?_ ?_
  ·exact Nat.zero_le _
  ·exact zF
  ·exact zX
  ·rintro k hI
   exact zL
  ·rintro k hI
   exact zH
  rintro k hK
  dsimp only at hK ⊢
  refine yS fun _ K16 => ?_
  refine yR ?_
  refine aa rfl (ck rfl rfl rfl) ?_
  refine yN ?_
  dsimp only [St.put]
  refine K16 _ ?_
  refine yS fun _ K17 => ?_
  refine aq rfl (fun hc => ?_) (fun hc => ?_)
  ·replace hc := of_decide_eq_true hc
   have hk : k < 2 := by omega
   have hsd : sdN p k ≤ 3 ∧ (cy p (decide (k = 1))).length ≤ 3 ∧ -1 ≤ cn (decide (k = 1)) x ∧ cn (decide (k = 1)) x ≤ 3 := by
    have : k = 0 ∨ k = 1 := by omega
    rcases this with rfl | rfl
    ·exact ⟨Nat.zero_le _, hn1, by show -1 ≤ x.fst; omega, by show x.fst ≤ 3; omega⟩
    exact ⟨hn1, hn2, by show -1 ≤ x.snd; omega, by show x.snd ≤ 3; omega⟩
   have hst : sb p x (k + 1) = sb p x k ++ bif decide (0 ≤ cn (decide (k = 1)) x) then [(sdN p k : Int) + cn (decide (k = 1)) x] else [] := rfl
   have hrl := ufm p x k
   refine ax ?_
   refine K17 _ ?_
   refine yS fun _ K18 => ?_
   refine bf ?_
   refine yS fun _ K19 => ?_
   refine yR ?_
   refine aa rfl (zy (k := k) (m := 2) (sz := 3) rfl rfl rfl rfl hk (zb hk)) ?_
   try dsimp only [St.put]
   refine ae rfl (dx rfl ?_)
   try dsimp only [St.put]
   refine ae rfl (di rfl rfl rfl zG rfl rfl (by rfl) ?_)
   refine yN ?_
   dsimp only [St.put]
   refine K19 _ ?_
   refine gg (i := 11) rfl zG zC ?_
   dsimp only
   refine yS fun _ K20 => ?_
   refine yS fun _ K21 => ?_
   refine yR ?_
   refine yF rfl rfl rfl rfl ?_
   refine yL rfl rfl rfl ?_
   refine yE rfl rfl rfl ?_
   try dsimp only [St.put]
   refine ae rfl (ba rfl rfl rfl (ubt (decide (k = 1)) x) ?_)
   refine yA rfl rfl ?_
   refine yN ?_
   dsimp only [St.put]
   refine K21 _ ?_
   refine yS fun _ K22 => ?_
   refine yR ?_
   refine yM rfl rfl ?_
   refine aa rfl (m6 rfl rfl rfl) ?_
   refine yN ?_
   dsimp only [St.put]
   refine K22 _ ?_
   refine aq rfl (fun hc => ?_) (fun hc => ?_)
   ·have hyes : 0 ≤ cn (decide (k = 1)) x := of_decide_eq_true hc
    refine yR ?_
    refine yM rfl rfl ?_
    refine yM rfl rfl ?_
    refine yM rfl rfl ?_
    refine aa rfl (br rfl rfl rfl (by omega)) ?_
    try dsimp only [St.put]
    refine ae rfl (ef rfl rfl rfl (by decide) (by decide) zR (by decide) ?_)
    try dsimp only [St.put]
    refine ae rfl (jz ([(sdN p k : Int) + cn (decide (k = 1)) x]) rfl rfl zG zE rfl rfl zA ?_ zA)
    refine yA rfl rfl ?_
    refine yN ?_
    dsimp only [St.put]
    refine K20 _ ?_
    refine fw [(0, none), (1, none), (2, none), (3, none), (4, none), (5, none), (6, none), (7, none), (8, none), (9, none), (10, none)] (fun i => [7].contains i) (fun i => [7].contains i) (fun i => [0, 1, 3, 4, 5, 8, 9, 10].contains i) [] (by kernel_rfl) (by kernel_rfl) ?_
    refine xM rfl rfl rfl rfl rfl ?_
    refine af rfl rfl rfl rfl (cp rfl rfl rfl) ?_
    try dsimp only [St.put]
    refine aw rfl rfl rfl rfl (ca rfl rfl) ?_
    refine xM rfl rfl rfl rfl rfl ?_
    refine af rfl rfl rfl rfl (m5 rfl rfl) ?_
    refine af rfl rfl rfl rfl (cp rfl rfl rfl) ?_
    try dsimp only [St.put]
    refine aw rfl rfl rfl rfl (c := val p) (jx (cs := mh p) rfl rfl (show 4 ≤ 7 by decide)) ?_
    refine gu ?_
    try dsimp only [St.put]
    refine f4 rfl rfl rfl rfl (ba rfl rfl rfl (r8 (decide (k = 1)) p) ?_)
    refine ec rfl rfl rfl rfl (bp rfl rfl (List.length_map _)) ?_
    refine ec rfl rfl rfl rfl (br rfl rfl rfl (by omega)) ?_
    refine ec rfl rfl rfl rfl (dp rfl (by constructor)) ?_
    refine gt ?_
    dsimp only [St.put]
    refine K18 _ ?_
    refine yR ?_
    refine aa rfl (br rfl rfl rfl (by omega)) ?_
    refine yM rfl rfl ?_
    refine yN ?_
    dsimp only [St.put]
    rw [show ((sdN p k : Nat) : Int) + ((cy p (decide (k = 1))).length : Int) = ((sdN p (k + 1) : Nat) : Int) by rw [ubs hk]; omega]
    first
    | (have z : 0 ≤ cn (decide (k = 1)) x := hyes
       rw [decide_eq_true z, cond_true] at hst
       rw [← hst]
       exact ⟨k + 1, by omega, by omega, ⟨⟨rfl, rfl⟩, zF, zB, zN, zX⟩⟩)
    | (have z : ¬ 0 ≤ cn (decide (k = 1)) x := hno
       rw [decide_eq_false z, cond_false, List.append_nil] at hst
       rw [← hst]
       exact ⟨k + 1, by omega, by omega, ⟨⟨rfl, rfl⟩, zF, zB, zN, zX⟩⟩)
   have hno : ¬ 0 ≤ cn (decide (k = 1)) x := of_decide_eq_false hc
   refine ax ?_
   refine K20 _ ?_
   refine fw [(0, none), (1, none), (2, none), (3, none), (4, none), (5, none), (6, none), (7, none), (8, none), (9, none), (10, none)] (fun i => [7].contains i) (fun i => [7].contains i) (fun i => [0, 1, 3, 4, 5, 8, 9, 10].contains i) [] (by kernel_rfl) (by kernel_rfl) ?_
   refine xM rfl rfl rfl rfl rfl ?_
   refine af rfl rfl rfl rfl (cp rfl rfl rfl) ?_
   try dsimp only [St.put]
   refine aw rfl rfl rfl rfl (ca rfl rfl) ?_
   refine xM rfl rfl rfl rfl rfl ?_
   refine af rfl rfl rfl rfl (m5 rfl rfl) ?_
   refine af rfl rfl rfl rfl (cp rfl rfl rfl) ?_
   try dsimp only [St.put]
   refine aw rfl rfl rfl rfl (c := val p) (jx (cs := mh p) rfl rfl (show 4 ≤ 7 by decide)) ?_
   refine gu ?_
   try dsimp only [St.put]
   refine f4 rfl rfl rfl rfl (ba rfl rfl rfl (r8 (decide (k = 1)) p) ?_)
   refine ec rfl rfl rfl rfl (bp rfl rfl (List.length_map _)) ?_
   refine ec rfl rfl rfl rfl (br rfl rfl rfl (by omega)) ?_
   refine ec rfl rfl rfl rfl (dp rfl (by constructor)) ?_
   refine gt ?_
   dsimp only [St.put]
   refine K18 _ ?_
   refine yR ?_
   refine aa rfl (br rfl rfl rfl (by omega)) ?_
   refine yM rfl rfl ?_
   refine yN ?_
   dsimp only [St.put]
   rw [show ((sdN p k : Nat) : Int) + ((cy p (decide (k = 1))).length : Int) = ((sdN p (k + 1) : Nat) : Int) by rw [ubs hk]; omega]
   first
   | (have z : 0 ≤ cn (decide (k = 1)) x := hyes
      rw [decide_eq_true z, cond_true] at hst
      rw [← hst]
      exact ⟨k + 1, by omega, by omega, ⟨⟨rfl, rfl⟩, zF, zB, zN, zX⟩⟩)
   | (have z : ¬ 0 ≤ cn (decide (k = 1)) x := hno
      rw [decide_eq_false z, cond_false, List.append_nil] at hst
      rw [← hst]
      exact ⟨k + 1, by omega, by omega, ⟨⟨rfl, rfl⟩, zF, zB, zN, zX⟩⟩)
  replace hc := of_decide_eq_false hc
  obtain rfl : k = 2 := by omega
  rw [uot]
  refine ua0 8 (lst (eg p x)) rfl Wk.tok ?_
  refine c6 ?_
  refine K14 _ ?_
  refine yR ?_
  refine aa rfl (c7 rfl rfl) ?_
  try dsimp only [St.put]
  refine bk rfl (ez rfl rfl zG trivial (by first | rfl | assumption)) ?_
  refine yM rfl rfl ?_
  try dsimp only [St.put]
  refine ae rfl (ef rfl rfl rfl (by decide) (by decide) zR (by decide) ?_)
  try dsimp only [St.put]
  refine ae rfl (jz ([eg p x]) rfl rfl zG zE rfl rfl zA ?_ zA)
  refine aa rfl (c7 rfl rfl) ?_
  try dsimp only [St.put]
  refine ae rfl (l5 rfl rfl rfl zG (by constructor) rfl zO ?_)
  refine yN ?_
  dsimp only [St.put]
  refine K9 _ ?_
  refine yR ?_
  refine aa rfl (br rfl rfl rfl (by omega)) ?_
  refine yM rfl rfl ?_
  refine yN ?_
  dsimp only [St.put]
  have e2 := uqz (eg p) hx
  simp only [← e2]
  exact ⟨j + 1, by omega, by omega, ⟨⟨rfl, rfl⟩, zF, zB, zN, zX⟩⟩
 replace hc := of_decide_eq_false hc
 obtain rfl : j = p.pages.length := by omega
 rw [List.take_length]
 refine ua1 (nx + 1) (co p + 2 * p.pages.length) (cells (ib p (dh p) (d9 p))) zG zW ?_
 refine c6 ?_
 refine K5 _ ?_
 refine yS fun _ K23 => ?_
 refine fw [(0, none), (1, none), (2, none), (3, none), (4, none), (5, none), (6, none)] (fun i => [5].contains i) (fun i => [3, 5].contains i) (fun i => [1, 4, 6].contains i) [nx + 1] (by kernel_rfl) (by kernel_rfl) ?_
 try dsimp only [St.put]
 refine aw rfl rfl rfl rfl (jf rfl rfl zG (by simp) (by rfl)) ?_
 refine af rfl rfl rfl rfl (c7 rfl rfl) ?_
 try dsimp only [St.put]
 refine aw rfl rfl rfl rfl (ez rfl rfl zG (by simp) (by first | rfl | assumption)) ?_
 refine gu ?_
 try dsimp only [St.put]
 refine ij rfl rfl rfl (ba rfl rfl rfl (ua8 (cc (co p) (dh p)) (fun z => decide (z < 0)) _ _ fun z _ => uof z) ⟨zD, ?_⟩)
 refine ec rfl rfl rfl rfl (ei rfl rfl) ?_
 try dsimp only [St.put]
 refine f4 rfl rfl rfl rfl (di rfl rfl rfl zG rfl rfl (by rfl) ?_)
 refine ec rfl rfl rfl rfl (dp rfl (by constructor)) ?_
 refine gt ?_
 dsimp only [St.put]
 refine K23 _ ?_
 refine ar ?_
 refine i7 rfl (ky rfl zG (by rfl) zC rfl) (ey (by constructor)) zN zS ?_ ?_
 ·exact zW
 rw [urf]; exact zW
theorem uog (m : Nat) (e : Int) (p : ah) : C.low m (bif decide (e = 0) then val (ib p (dh p) (d9 p)) else .agg [.list [] .nil, .list [] .nil, .list [] .nil]) := by
 cases decide (e = 0)
 ·exact .agg (ce fj (ce fj (ce fj dq)))
 exact eu _ _
theorem uga (n : Nat) (p : ah) (c : C) (e : Int) (h : e = 0 → et p ∧ c = .elem (mh p)) : gd n f8 Tryz.prog 41 [c, .v (.int .i64 e)] (.tup [bif decide (gm p e = 0) then val (ib p (dh p) (d9 p)) else .agg [.list [] .nil, .list [] .nil, .list [] .nil], .v (.int .i64 (gm p e))]) := fun G nx hF hnx => by
 refine jg (G) (nx) Tryz.func41 rfl (.tup (ce (uog _ _ _) (ce .v dq))) zN (fun hlt => zH) ?_
 simp only [Tryz.ntmps41, List.length_cons, List.length_nil, Nat.reduceAdd, Nat.reduceSub]
 refine cb fun hlt => ?_
 dsimp only at hlt
 refine yS fun _ K1 => ?_
 refine yR ?_
 try dsimp only [St.put]
 refine ae rfl (dx rfl ?_)
 refine yA rfl rfl ?_
 refine yN ?_
 dsimp only [St.put]
 refine K1 _ ?_
 refine yS fun _ K2 => ?_
 refine yS fun _ K3 => ?_
 refine yR ?_
 refine yM rfl rfl ?_
 refine aa rfl (gk rfl rfl rfl) ?_
 refine yN ?_
 dsimp only [St.put]
 refine K3 _ ?_
 refine aq rfl (fun hc => ?_) (fun hc => ?_)
 ·have h0 : e ≠ 0 := ke hc
  have hE : gm p e = e := uhq h0
  refine yS fun _ K4 => ?_
  refine yR ?_
  refine aa rfl (iz rfl rfl) ?_
  refine yM rfl rfl ?_
  try dsimp only [St.put]
  refine ae rfl (di rfl rfl rfl zG rfl rfl (by rfl) ?_)
  refine yA rfl rfl ?_
  refine yN ?_
  dsimp only [St.put]
  refine K4 _ ?_
  refine ar ?_
  refine i7 rfl (ky rfl zG (by rfl) zC rfl) (ey (by constructor)) zN zS ?_ ?_
  ·rw [hE, decide_eq_false h0]; exact zW
  rw [hE]; exact zW
 have h0 : e = 0 := i5 hc
 obtain ⟨hok, rfl⟩ := h h0
 subst h0
 refine ax ?_
 refine K2 _ ?_
 refine yS fun _ K5 => ?_
 refine yR ?_
 refine yM rfl rfl ?_
 try dsimp only [St.put]
 refine ae rfl (fa rfl rfl rfl (upp n p hok) zG (by dsimp only [St.put]; omega) ?_)
 refine yM rfl rfl ?_
 refine yX rfl rfl rfl rfl ?_
 refine yX rfl rfl rfl rfl ?_
 try dsimp only [St.put]
 refine ae rfl (dx rfl ?_)
 try dsimp only [St.put]
 refine ae rfl (di rfl rfl rfl zG rfl rfl (by rfl) ?_)
 refine yA rfl rfl ?_
 refine yN ?_
 dsimp only [St.put]
 refine K5 _ ?_
 refine yS fun _ K6 => ?_
 refine yS fun _ K7 => ?_
 refine yR ?_
 refine yM rfl rfl ?_
 refine aa rfl (ei rfl rfl) ?_
 refine yN ?_
 dsimp only [St.put]
 refine K7 _ ?_
 refine aq rfl (fun hc => ?_) (fun hc => ?_)
 ·have hTB : j6 p = false := by simpa using hc
  have hE : gm p 0 = 8 := by rw [u7, hTB]; rfl
  refine yS fun _ K8 => ?_
  refine yR ?_
  refine aa rfl (iz rfl rfl) ?_
  try dsimp only [St.put]
  refine ae rfl (di rfl rfl rfl zG rfl rfl (by rfl) ?_)
  refine yA rfl rfl ?_
  refine yN ?_
  dsimp only [St.put]
  refine K8 _ ?_
  refine ar ?_
  refine i7 rfl (ky rfl zG (by rfl) zC rfl) (ey (by constructor)) zN zS ?_ ?_
  ·rw [hE]; exact zW
  rw [hE]; exact zW
 have hTB : j6 p = true := by simpa using hc
 have hE : gm p 0 = 0 := by rw [u7, hTB]; rfl
 refine ax ?_
 refine K6 _ ?_
 refine yS fun _ K9 => ?_
 refine yR ?_
 try dsimp only [St.put]
 refine bk rfl (jf rfl rfl zG trivial (by rfl)) ?_
 try dsimp only [St.put]
 refine ae rfl (di rfl rfl rfl zG rfl rfl (by rfl) ?_)
 refine yA rfl rfl ?_
 refine yN ?_
 dsimp only [St.put]
 refine K9 _ ?_
 refine ar ?_
 refine i7 rfl (ky rfl zG (by rfl) zC rfl) (ey (by constructor)) zN zS ?_ ?_
 ·rw [hE]; exact zW
 rw [hE]; exact zW
end Go.Proofs.YtgffhbbcpgdjjaaGreatDoor
namespace Go.AB
open Go Go.RowKit
open Go.AB.Enc (cells)
open Go.PB (ay aj PlaceD bg bi bh bn ak ah cr bq dr dt)
/-- what may remain ahead of a page, by the worst truth -/
noncomputable def rmR (p : ah) (i : Nat) : Nat → Int := ((bx p).room (dh p) (d9 p) i).1
noncomputable def rmC (p : ah) (i : Nat) : Nat → Int := ((bx p).room (dh p) (d9 p) i).2
theorem uod (p : ah) (i : Nat) : rmR p (i + 1) = (bx p).lessR (rmR p i) i (kp p i) := rfl
theorem uoe (p : ah) (i : Nat) : rmC p (i + 1) = fk (rmC p i) i := rfl
theorem udx {p : ah} (h : et p) (ht : j6 p = true) {i : Nat} (hi : i < p.pages.length) : (bx p).Pick (rmR p i) (rmC p i) i ((bx p).pick (rmR p i) (rmC p i) i) :=
 Net.worst_pick (uck h) (uee ht) (fun j _ => udh h j) hi
theorem udy (p : ah) (i : Nat) : kp p i = (bx p).pick (rmR p i) (rmC p i) i := rfl
theorem ufj {p : ah} (h : et p) (ht : j6 p = true) : ∀ {i : Nat}, i ≤ p.pages.length → Bd p (rmR p i) (rmC p i)
 | 0, _ => yh h
 | i + 1, hi => by
  have hp := udx h ht (i := i) (by omega)
  rw [uod, uoe, udy]
  exact udl (ufj h ht (by omega)) hp.nn hp.le
theorem uuf {p : ah} {R C : Nat → Int} (hB : Bd p R C) (j : Nat) : (bx p).alone R C j ≤ 1000000 := Int.le_trans (Net.le_alone.1 (Int.le_refl _)).1 (hB.c j).2
end Go.AB
namespace Go.Proofs.YtgffhbbcpgdjjaaGreatDoor
set_option maxRecDepth 10000
open Go.RowKit Go.AB
open Go.AB.Enc (cells)
open Go.PB (ay aj PlaceD bg bi bh bn ak ah cr bq dr dt)
end Go.Proofs.YtgffhbbcpgdjjaaGreatDoor
namespace Go.AB
open Go Go.RowKit
open Go.AB.Enc (cells)
open Go.PB (ay aj PlaceD bg bi bh bn ak ah cr bq dr dt)
theorem u9 {p : ah} {e : Int} (h : gm p e = 0) : e = 0 ∧ j6 p = true := by
 by_cases h0 : e = 0
 ·subst h0
  rw [u7] at h
  cases ht : j6 p
  ·rw [ht] at h; cases h
  exact ⟨rfl, rfl⟩
 rw [uhq h0] at h; exact absurd h h0
end Go.AB
namespace Go.Proofs.YtgffhbbcpgdjjaaGreatDoor
set_option maxRecDepth 10000
open Go Go.RowKit Go.AB
open Go.AB.Enc (cells)
open Go.PB (ay aj PlaceD bg bi bh bn ak ah cr bq dr dt)
theorem uka {p : ah} {n : Int} (h : fe p n = 0) : et p ∧ pgC p n = .elem (mh p) := ⟨(nk (uc h).1).1, w5 h⟩
theorem su {p : ah} (h : dc p = 0) : et p ∧ k7 p = .elem (mh p) := ⟨(nk h).1, zr h⟩
theorem w7 (n : Nat) (p : ah) (c : C) (e : Int) (h : e = 0 → et p ∧ c = .elem (mh p)) (hE : gm p e = 0) : gd n f8 Tryz.prog 41 [c, .v (.int .i64 e)] (.tup [val (ib p (dh p) (d9 p)), .v (.int .i64 0)]) := by
 have := uga n p c e h
 rwa [hE, decide_eq_true rfl, cond_true] at this
theorem w8 (n : Nat) (p : ah) (c : C) (e : Int) (h : e = 0 → et p ∧ c = .elem (mh p)) (hE : gm p e ≠ 0) : gd n f8 Tryz.prog 41 [c, .v (.int .i64 e)] (.tup [.agg [.list [] .nil, .list [] .nil, .list [] .nil], .v (.int .i64 (gm p e))]) := by
 have := uga n p c e h
 rwa [decide_eq_false hE, cond_false] at this
theorem ugc (n : Nat) (p : ah) (m : Int) : gd n f8 Tryz.prog 14 [val p, .v (.int .i64 m)] (.tup [val (qy p m), .v (.int .i64 (gm p (fe p m)))]) := fun G nx hF hnx => by
 refine jg (G) (nx) Tryz.func14 rfl (.tup (ce (eu _ _) (ce .v dq))) zN (fun hlt => zH) ?_
 simp only [Tryz.ntmps14, List.length_cons, List.length_nil, Nat.reduceAdd, Nat.reduceSub]
 refine cb fun hlt => ?_
 dsimp only at hlt
 refine yS fun _ K1 => ?_
 refine yR ?_
 try dsimp only [St.put]
 refine yB rfl rfl rfl ?_
 try dsimp only [St.put]
 refine ae rfl (dx rfl ?_)
 refine yA rfl rfl ?_
 refine yN ?_
 dsimp only [St.put]
 refine K1 _ ?_
 refine yS fun _ K2 => ?_
 by_cases hL : gm p (fe p m) = 0
 ·refine yR ?_
  refine yE rfl rfl rfl ?_
  refine yM rfl rfl ?_
  try dsimp only [St.put]
  refine ae rfl (fa rfl rfl rfl (ur n p m) zG (by dsimp only [St.put]; omega) ?_)
  refine yX rfl rfl rfl rfl ?_
  refine yX rfl rfl rfl rfl ?_
  try dsimp only [St.put]
  refine ae rfl (fa rfl rfl rfl (w7 n p (pgC p m) (fe p m) uka hL) zG (by dsimp only [St.put]; omega) ?_)
  refine yM rfl rfl ?_
  refine yX rfl rfl rfl rfl ?_
  refine yX rfl rfl rfl rfl ?_
  try dsimp only [St.put]
  refine ae rfl (dx rfl ?_)
  try dsimp only [St.put]
  refine ae rfl (di rfl rfl rfl zG rfl rfl (by rfl) ?_)
  refine yA rfl rfl ?_
  refine yN ?_
  dsimp only [St.put]
  refine K2 _ ?_
  refine yS fun _ K3 => ?_
  refine yS fun _ K4 => ?_
  refine yR ?_
  refine yM rfl rfl ?_
  refine aa rfl (gk rfl rfl rfl) ?_
  refine yN ?_
  dsimp only [St.put]
  refine K4 _ ?_
  refine aq rfl (fun hc => ?_) (fun hc => ?_)
  ·exact absurd hc (by decide)
  obtain ⟨h0, hTB⟩ := u9 hL
  obtain ⟨hc0, j, x, rfl, hx, hpo⟩ := uc h0
  obtain ⟨hok, _⟩ := nk hc0
  have hV : qy p (j : Int) = ⟨0, (bx p).alone (dh p) (d9 p) j⟩ := by unfold qy; rw [hL, s7, Int.toNat_natCast]
  refine ax ?_
  refine K3 _ ?_
  refine yS fun _ K5 => ?_
  refine yR ?_
  try dsimp only [St.put]
  refine bk rfl (jf rfl rfl zG trivial (by rfl)) ?_
  refine yM rfl rfl ?_
  try dsimp only [St.put]
  refine ae rfl (ba rfl rfl rfl (uge p (dh p) (d9 p) j x hok hx) ?_)
  refine aa rfl (iz rfl rfl) ?_
  try dsimp only [St.put]
  refine ae rfl (di rfl rfl rfl zG rfl rfl (by rfl) ?_)
  refine yA rfl rfl ?_
  refine yN ?_
  dsimp only [St.put]
  refine K5 _ ?_
  refine ar ?_
  refine i7 rfl (ky rfl zG (by rfl) zC rfl) (ey (by constructor)) zN zS ?_ ?_
  ·rw [hV]; exact zW
  rw [hL]; exact zW
 refine yR ?_
 refine yE rfl rfl rfl ?_
 refine yM rfl rfl ?_
 try dsimp only [St.put]
 refine ae rfl (fa rfl rfl rfl (ur n p m) zG (by dsimp only [St.put]; omega) ?_)
 refine yX rfl rfl rfl rfl ?_
 refine yX rfl rfl rfl rfl ?_
 try dsimp only [St.put]
 refine ae rfl (fa rfl rfl rfl (w8 n p (pgC p m) (fe p m) uka hL) zG (by dsimp only [St.put]; omega) ?_)
 refine yM rfl rfl ?_
 refine yX rfl rfl rfl rfl ?_
 refine yX rfl rfl rfl rfl ?_
 try dsimp only [St.put]
 refine ae rfl (dx rfl ?_)
 try dsimp only [St.put]
 refine ae rfl (di rfl rfl rfl zG rfl rfl (by rfl) ?_)
 refine yA rfl rfl ?_
 refine yN ?_
 dsimp only [St.put]
 refine K2 _ ?_
 refine yS fun _ K6 => ?_
 refine yS fun _ K7 => ?_
 refine yR ?_
 refine yM rfl rfl ?_
 refine aa rfl (gk rfl rfl rfl) ?_
 refine yN ?_
 dsimp only [St.put]
 refine K7 _ ?_
 refine aq rfl (fun hc => ?_) (fun hc => ?_)
 ·have hV : qy p m = ⟨0, 0⟩ := by unfold qy; rw [nt hL]
  refine yS fun _ K8 => ?_
  refine yR ?_
  refine aa rfl (iz rfl rfl) ?_
  refine yM rfl rfl ?_
  try dsimp only [St.put]
  refine ae rfl (di rfl rfl rfl zG rfl rfl (by rfl) ?_)
  refine yA rfl rfl ?_
  refine yN ?_
  dsimp only [St.put]
  refine K8 _ ?_
  refine ar ?_
  refine i7 rfl (ky rfl zG (by rfl) zC rfl) (ey (by constructor)) zN zS ?_ ?_
  ·rw [hV]; exact zW
  exact zW
 exact absurd (i5 hc) hL
theorem ugb (n : Nat) (p : ah) : gd n f8 Tryz.prog 15 [val p] (.tup [val (r5 p), .v (.int .i64 (gm p (dc p)))]) := fun G nx hF hnx => by
 refine jg (G) (nx) Tryz.func15 rfl (.tup (ce (eu _ _) (ce .v dq))) zN (fun hlt => zH) ?_
 simp only [Tryz.ntmps15, List.length_cons, List.length_nil, Nat.reduceAdd, Nat.reduceSub]
 refine cb fun hlt => ?_
 dsimp only at hlt
 refine yS fun _ K1 => ?_
 refine yR ?_
 try dsimp only [St.put]
 refine yB rfl rfl rfl ?_
 try dsimp only [St.put]
 refine ae rfl (dx rfl ?_)
 refine yA rfl rfl ?_
 refine yN ?_
 dsimp only [St.put]
 refine K1 _ ?_
 refine yS fun _ K2 => ?_
 by_cases hL : gm p (dc p) = 0
 ·refine yR ?_
  refine yE rfl rfl rfl ?_
  try dsimp only [St.put]
  refine ae rfl (fa rfl rfl rfl (qz n p) zG (by dsimp only [St.put]; omega) ?_)
  refine yX rfl rfl rfl rfl ?_
  refine yX rfl rfl rfl rfl ?_
  try dsimp only [St.put]
  refine ae rfl (fa rfl rfl rfl (w7 n p (k7 p) (dc p) su hL) zG (by dsimp only [St.put]; omega) ?_)
  refine yM rfl rfl ?_
  refine yX rfl rfl rfl rfl ?_
  refine yX rfl rfl rfl rfl ?_
  try dsimp only [St.put]
  refine ae rfl (dx rfl ?_)
  try dsimp only [St.put]
  refine ae rfl (di rfl rfl rfl zG rfl rfl (by rfl) ?_)
  refine yA rfl rfl ?_
  refine yN ?_
  dsimp only [St.put]
  refine K2 _ ?_
  refine yS fun _ K3 => ?_
  refine yS fun _ K4 => ?_
  refine yR ?_
  refine yM rfl rfl ?_
  refine aa rfl (gk rfl rfl rfl) ?_
  refine yN ?_
  dsimp only [St.put]
  refine K4 _ ?_
  refine aq rfl (fun hc => ?_) (fun hc => ?_)
  ·exact absurd hc (by decide)
  obtain ⟨h0, hTB⟩ := u9 hL
  obtain ⟨hok, _⟩ := nk h0
  have hV : r5 p = ⟨0, (bx p).most (dh p) (d9 p)⟩ := by unfold r5; rw [hL, s7]; rfl
  refine ax ?_
  refine K3 _ ?_
  refine yS fun _ K5 => ?_
  refine yR ?_
  try dsimp only [St.put]
  refine bk rfl (jf rfl rfl zG trivial (by rfl)) ?_
  try dsimp only [St.put]
  refine ae rfl (ba rfl rfl rfl (w9 p (dh p) (d9 p) hok (yh hok)) ?_)
  refine aa rfl (iz rfl rfl) ?_
  try dsimp only [St.put]
  refine ae rfl (di rfl rfl rfl zG rfl rfl (by rfl) ?_)
  refine yA rfl rfl ?_
  refine yN ?_
  dsimp only [St.put]
  refine K5 _ ?_
  refine ar ?_
  refine i7 rfl (ky rfl zG (by rfl) zC rfl) (ey (by constructor)) zN zS ?_ ?_
  ·rw [hV]; exact zW
  rw [hL]; exact zW
 refine yR ?_
 refine yE rfl rfl rfl ?_
 try dsimp only [St.put]
 refine ae rfl (fa rfl rfl rfl (qz n p) zG (by dsimp only [St.put]; omega) ?_)
 refine yX rfl rfl rfl rfl ?_
 refine yX rfl rfl rfl rfl ?_
 try dsimp only [St.put]
 refine ae rfl (fa rfl rfl rfl (w8 n p (k7 p) (dc p) su hL) zG (by dsimp only [St.put]; omega) ?_)
 refine yM rfl rfl ?_
 refine yX rfl rfl rfl rfl ?_
 refine yX rfl rfl rfl rfl ?_
 try dsimp only [St.put]
 refine ae rfl (dx rfl ?_)
 try dsimp only [St.put]
 refine ae rfl (di rfl rfl rfl zG rfl rfl (by rfl) ?_)
 refine yA rfl rfl ?_
 refine yN ?_
 dsimp only [St.put]
 refine K2 _ ?_
 refine yS fun _ K6 => ?_
 refine yS fun _ K7 => ?_
 refine yR ?_
 refine yM rfl rfl ?_
 refine aa rfl (gk rfl rfl rfl) ?_
 refine yN ?_
 dsimp only [St.put]
 refine K7 _ ?_
 refine aq rfl (fun hc => ?_) (fun hc => ?_)
 ·have hV : r5 p = ⟨0, 0⟩ := by unfold r5; rw [nt hL]
  refine yS fun _ K8 => ?_
  refine yR ?_
  refine aa rfl (iz rfl rfl) ?_
  refine yM rfl rfl ?_
  try dsimp only [St.put]
  refine ae rfl (di rfl rfl rfl zG rfl rfl (by rfl) ?_)
  refine yA rfl rfl ?_
  refine yN ?_
  dsimp only [St.put]
  refine K8 _ ?_
  refine ar ?_
  refine i7 rfl (ky rfl zG (by rfl) zC rfl) (ey (by constructor)) zN zS ?_ ?_
  ·rw [hV]; exact zW
  exact zW
 exact absurd (i5 hc) hL
set_option maxHeartbeats 1000000 in
theorem uph (n0 : Nat) (p : ah) : gd n0 f8 Tryz.prog 25 [val p] (.tup [lst (td p), .v (.int .i64 (gm p (dc p)))]) := fun G nx hF hnx => by
 refine jg (G) (nx) Tryz.func25 rfl (.tup (ce (bv _ _) (ce .v dq))) zN (fun hlt => zH) ?_
 simp only [Tryz.ntmps25, List.length_cons, List.length_nil, Nat.reduceAdd, Nat.reduceSub]
 refine cb fun hlt => ?_
 dsimp only at hlt
 refine yS fun _ K1 => ?_
 refine yR ?_
 try dsimp only [St.put]
 refine yB rfl rfl rfl ?_
 refine yA rfl rfl ?_
 refine yA rfl rfl ?_
 refine yN ?_
 dsimp only [St.put]
 refine K1 _ ?_
 refine yS fun _ K2 => ?_
 by_cases hL : gm p (dc p) = 0
 ·refine yR ?_
  refine yE rfl rfl rfl ?_
  try dsimp only [St.put]
  refine ae rfl (fa rfl rfl rfl (qz n0 p) zG (by dsimp only [St.put]; omega) ?_)
  refine yX rfl rfl rfl rfl ?_
  refine yX rfl rfl rfl rfl ?_
  try dsimp only [St.put]
  refine ae rfl (fa rfl rfl rfl (w7 n0 p (k7 p) (dc p) su hL) zG (by dsimp only [St.put]; omega) ?_)
  refine yM rfl rfl ?_
  refine yX rfl rfl rfl rfl ?_
  refine yX rfl rfl rfl rfl ?_
  try dsimp only [St.put]
  refine ae rfl (dx rfl ?_)
  try dsimp only [St.put]
  refine ae rfl (di rfl rfl rfl zG rfl rfl (by rfl) ?_)
  refine yA rfl rfl ?_
  refine yN ?_
  dsimp only [St.put]
  refine K2 _ ?_
  refine yS fun _ K3 => ?_
  refine yS fun _ K4 => ?_
  refine yR ?_
  refine yM rfl rfl ?_
  refine aa rfl (gk rfl rfl rfl) ?_
  refine yN ?_
  dsimp only [St.put]
  refine K4 _ ?_
  refine aq rfl (fun hc => ?_) (fun hc => ?_)
  ·exact absurd hc (by decide)
  obtain ⟨h0, hTB⟩ := u9 hL
  obtain ⟨hok, _⟩ := nk h0
  have hnp := hok.np
  have hV : td p = cc p.pages.length (kp p) := by unfold td; rw [hL, s7]
  refine ax ?_
  refine K3 _ ?_
  refine yS fun _ K5 => ?_
  refine yR ?_
  refine yA rfl rfl ?_
  refine yN ?_
  dsimp only [St.put]
  refine K5 _ ?_
  refine qh 6 3 1 rfl (by decide) ?_
  dsimp only [List.set_cons_zero, List.set_cons_succ]
  refine yS fun _ K6 => ?_
  refine yS fun _ K7 => ?_
  refine yR ?_
  refine yF rfl rfl rfl rfl ?_
  refine yL rfl rfl rfl ?_
  refine aa rfl (bp rfl rfl (List.length_map _)) ?_
  refine yM rfl rfl ?_
  refine yN ?_
  dsimp only [St.put]
  refine K7 _ ?_
  refine bf ?_
  refine cm 25 ?_
  refine zQ ?_
  refine dm ((ai (ai G nx (.box (0 + 1) (cells (ib p (rmR p 0) (rmC p 0))))) (nx + 1) (.tip (cc 0 (kp p)).length 3 1))) zX ?_
  dsimp only
  refine dj (X := Nat) (fun i => i ≤ p.pages.length) (fun i => p.pages.length - i) (fun i => [(6, .list ((cc i (kp p)).map cells) (.tip (nx + 1))), (7, .any), (8, .any), (9, .any), (24, .v (.int .i64 (i : Int)))]) (fun i G' => (ai (ai G nx (.box (i + 1) (cells (ib p (rmR p i) (rmC p i))))) (nx + 1) (.tip (cc i (kp p)).length 3 1))) 0 rfl ?_ ?_ ?_ ?_ ?_ ?_
  ·exact Nat.zero_le _
  ·exact zF
  ·exact zX
  ·rintro i hI
   exact zL
  ·rintro i hI
   exact zH
  rintro i hI
  dsimp only at hI ⊢
  refine yS fun _ K8 => ?_
  refine yR ?_
  refine aa rfl (ck rfl rfl rfl) ?_
  refine yN ?_
  dsimp only [St.put]
  refine K8 _ ?_
  refine yS fun _ K9 => ?_
  refine aq rfl (fun hc => ?_) (fun hc => ?_)
  ·replace hc := of_decide_eq_true hc
   have hi : i < p.pages.length := by omega
   obtain ⟨x, hx⟩ : ∃ x, p.pages[i]? = some x := dl hi
   have hB := ufj hok hTB (Nat.le_of_lt hi)
   have hP := udx hok hTB hi
   have hab := uuf hB i
   have hmb := ug4 hB
   have hln := jq i (kp p)
   have hPn := hP.nn
   refine ax ?_
   refine K9 _ ?_
   refine yS fun _ K10 => ?_
   refine bf ?_
   refine yS fun _ K11 => ?_
   refine yR ?_
   refine yM rfl rfl ?_
   refine yA rfl rfl ?_
   refine yN ?_
   dsimp only [St.put]
   refine K11 _ ?_
   refine yS fun _ K12 => ?_
   refine fw [(0, none), (2, none), (3, none), (1, none), (4, none), (5, none), (6, none)] (fun i => [4].contains i) (fun i => [1, 4].contains i) (fun i => [3, 5, 6].contains i) [nx] (by kernel_rfl) (by kernel_rfl) ?_
   try dsimp only [St.put]
   refine aw rfl rfl rfl rfl (jf rfl rfl zG (by simp) (by rfl)) ?_
   try dsimp only [St.put]
   refine aw rfl rfl rfl rfl (jf rfl rfl zG (by simp) (by rfl)) ?_
   refine xM rfl rfl rfl rfl rfl ?_
   refine gu ?_
   try dsimp only [St.put]
   refine ij rfl rfl rfl (ba rfl rfl rfl (w9 p _ _ hok hB) ⟨zD, ?_⟩)
   try dsimp only [St.put]
   refine f4 rfl rfl rfl rfl (ba rfl rfl rfl (uge p (rmR p i) (rmC p i) i x hok hx) ?_)
   refine ec rfl rfl rfl rfl (dp rfl (by constructor)) ?_
   refine ec rfl rfl rfl rfl (dp rfl (by constructor)) ?_
   refine gt ?_
   dsimp only [St.put]
   refine K12 _ ?_
   refine yS fun _ K13 => ?_
   refine bf ?_
   refine cm 25 ?_
   refine zQ ?_
   refine dj (X := Int) (fun n => FromTop p (rmR p i) (rmC p i) i n) (fun n => n.toNat) (fun n => [(9, .v (.int .i64 n))]) (fun n G' => G') ((bx p).alone (rmR p i) (rmC p i) i) rfl ?_ ?_ (fun _ _ h => h) ?_ ?_ ?_
   ·exact FromTop.start hP
   ·exact zF
   ·rintro n hI
    exact zL
   ·exact fun _ _ _ _ h => .inl h
   rintro n hF2
   dsimp only at hF2 ⊢
   have hF1 := hF2.1
   have hF3 := hF2.2.1
   have hBl := udl hB (by omega) hF2.2.1
   have hmb2 := ug4 hBl
   refine yS fun _ K14 => ?_
   refine yS fun _ K15 => ?_
   refine yR ?_
   refine yM rfl rfl ?_
   try dsimp only [St.put]
   refine bk rfl (jf rfl rfl zG trivial (by rfl)) ?_
   refine yM rfl rfl ?_
   refine yM rfl rfl ?_
   try dsimp only [St.put]
   refine ae rfl (ba rfl rfl rfl (ub9 p (rmR p i) (rmC p i) i x n hok hx (by have := hF2.1; have := hF2.2.1; omega) hB.r) ?_)
   try dsimp only [St.put]
   refine ae rfl (ba rfl rfl rfl (w9 p _ _ hok (udl hB (by have := hF2.1; omega) hF2.2.1)) ?_)
   refine aa rfl (br rfl rfl rfl (by omega)) ?_
   refine yM rfl rfl ?_
   refine aa rfl (ck rfl rfl rfl) ?_
   refine yN ?_
   dsimp only [St.put]
   refine K15 _ ?_
   refine aq rfl (fun hc => ?_) (fun hc => ?_)
   ·replace hc := of_decide_eq_true hc
    have hnot : ¬ (bx p).most (rmR p i) (rmC p i) ≤ n + (bx p).most ((bx p).lessR (rmR p i) i n) (fk (rmC p i) i) := by omega
    refine ax ?_
    refine K14 _ ?_
    refine bf ?_
    refine yR ?_
    refine yM rfl rfl ?_
    refine aa rfl (gr rfl rfl rfl (by omega)) ?_
    refine yA rfl rfl ?_
    refine yN ?_
    dsimp only [St.put]
    have hd := FromTop.down hP hF2 hnot
    have hd1 := hd.1
    exact ⟨n - 1, by omega, hd, ⟨⟨rfl, rfl⟩, zF, zB, zN, zX⟩⟩
   replace hc := of_decide_eq_false hc
   have hnw := FromTop.stop hP hF2 (by omega)
   rw [← udy] at hnw
   subst hnw
   refine c6 ?_
   refine K13 _ ?_
   refine yS fun _ K16 => ?_
   refine yR ?_
   try dsimp only [St.put]
   refine bk rfl (jf rfl rfl zG trivial (by rfl)) ?_
   refine yM rfl rfl ?_
   refine yM rfl rfl ?_
   try dsimp only [St.put]
   refine ae rfl (ba rfl rfl rfl (ub9 p (rmR p i) (rmC p i) i x (kp p i) hok hx (by have := hF2.1; have := hF2.2.1; omega) hB.r) ?_)
   try dsimp only [St.put]
   refine ae rfl (di rfl rfl rfl zG rfl rfl (by rfl) ?_)
   refine yN ?_
   dsimp only [St.put]
   refine K16 _ ?_
   refine yR ?_
   refine yM rfl rfl ?_
   refine yM rfl rfl ?_
   try dsimp only [St.put]
   refine ae rfl (ef rfl rfl rfl (by decide) (by decide) zR (by decide) ?_)
   try dsimp only [St.put]
   refine ae rfl (jz ([kp p i]) rfl rfl zG zE rfl rfl zA ?_ zA)
   refine yA rfl rfl ?_
   refine yN ?_
   dsimp only [St.put]
   refine K10 _ ?_
   refine yR ?_
   refine aa rfl (br rfl rfl rfl (by omega)) ?_
   refine yM rfl rfl ?_
   refine yN ?_
   dsimp only [St.put]
   have e := yz i (kp p)
   rw [← e]
   exact ⟨i + 1, by omega, by omega, ⟨⟨rfl, rfl⟩, zF, zB, zN, zX⟩⟩
  replace hc := of_decide_eq_false hc
  obtain rfl : i = p.pages.length := by omega
  refine c6 ?_
  refine K6 _ ?_
  refine yS fun _ K17 => ?_
  refine yR ?_
  refine yM rfl rfl ?_
  refine yA rfl rfl ?_
  refine yA rfl rfl ?_
  refine yN ?_
  dsimp only [St.put]
  refine K17 _ ?_
  refine ar ?_
  refine i7 rfl (ey (by constructor)) (ey (by constructor)) zN zS ?_ ?_
  ·rw [hV]; exact zW
  rw [hL]; exact zW
 refine yR ?_
 refine yE rfl rfl rfl ?_
 try dsimp only [St.put]
 refine ae rfl (fa rfl rfl rfl (qz n0 p) zG (by dsimp only [St.put]; omega) ?_)
 refine yX rfl rfl rfl rfl ?_
 refine yX rfl rfl rfl rfl ?_
 try dsimp only [St.put]
 refine ae rfl (fa rfl rfl rfl (w8 n0 p (k7 p) (dc p) su hL) zG (by dsimp only [St.put]; omega) ?_)
 refine yM rfl rfl ?_
 refine yX rfl rfl rfl rfl ?_
 refine yX rfl rfl rfl rfl ?_
 try dsimp only [St.put]
 refine ae rfl (dx rfl ?_)
 try dsimp only [St.put]
 refine ae rfl (di rfl rfl rfl zG rfl rfl (by rfl) ?_)
 refine yA rfl rfl ?_
 refine yN ?_
 dsimp only [St.put]
 refine K2 _ ?_
 refine yS fun _ K18 => ?_
 refine yS fun _ K19 => ?_
 refine yR ?_
 refine yM rfl rfl ?_
 refine aa rfl (gk rfl rfl rfl) ?_
 refine yN ?_
 dsimp only [St.put]
 refine K19 _ ?_
 refine aq rfl (fun hc => ?_) (fun hc => ?_)
 ·have hV : td p = [] := by unfold td; rw [nt hL]
  refine yS fun _ K20 => ?_
  refine yR ?_
  refine yM rfl rfl ?_
  refine yA rfl rfl ?_
  refine yA rfl rfl ?_
  refine yN ?_
  dsimp only [St.put]
  refine K20 _ ?_
  refine ar ?_
  refine i7 rfl (ey (by constructor)) (ey (by constructor)) zN zS ?_ ?_
  ·rw [hV]; exact zW
  exact zW
 exact absurd (i5 hc) hL
end Go.Proofs.YtgffhbbcpgdjjaaGreatDoor
namespace Go.Proofs.YtgffhbbcpgdjjaaGreatDoor
set_option maxRecDepth 10000
open Go Go.RowKit Go.AB
open Go.AB.Enc (cells)
open Go.PB (ay aj PlaceD bg bi bh bn ak ah cr bq dr dt)
set_option maxHeartbeats 1000000 in
theorem uni (nF : Nat) (n : Nat) (hb : n ≤ 8) : ua7 nF f8 Tryz.prog 73 [.elem [.v (.int .i64 (n : Int))]] (2 ^ n) (fun s => [.v (.int .i64 (s : Int)), lst (ga n s)]) := by
 refine uhz Tryz.func73 rfl rfl fun I hN hcl ok hG hn => ?_
 simp only [Tryz.ntmps73, List.length_cons, List.length_nil, Nat.reduceAdd, Nat.reduceSub]
 have h256 : 2 ^ n ≤ 2 ^ 8 := Nat.pow_le_pow_right (by omega) hb
 refine mq 2 ?_
 refine zQ ?_
 refine sl ?_
 dsimp only [FC.st]
 refine cb fun hlt => ?_
 dsimp only at hlt
 refine cx ?_
 try dsimp only [St.put]
 first | refine bk rfl (ca rfl rfl) ?_ | refine bk rfl (dz rfl rfl (Enc.len _)) ?_ | refine bk rfl (dz rfl rfl rfl) ?_ | refine bk rfl (ez rfl rfl zG trivial (by first | rfl | assumption)) ?_ | refine bk rfl (jf rfl rfl zG trivial (by rfl)) ?_ | refine bk rfl (qu rfl rfl zG trivial (by simp)) ?_ | refine bk rfl (gy rfl rfl zG trivial (o1 (by assumption) rfl)) ?_ | refine bk rfl (gy rfl rfl zG trivial (by assumption)) ?_ | refine bk rfl (po rfl rfl zG trivial rfl (by assumption) rfl (by decide)) ?_ | refine bk rfl (pp rfl rfl zG (by rfl)) ?_
 refine aa rfl (ugy (n := n) rfl rfl rfl (by omega)) ?_
 refine aa rfl (bl rfl (by constructor)) ?_
 refine cv ?_
 dsimp only [St.put]
 show lu _ _ _ _ _ _ _
 refine sn ok rfl ⟨rfl, rfl, zK, zN, zS, zK⟩ ?_
 refine vg ?_
 refine mq 9 ?_
 refine zQ ?_
 refine uc3 (X := Nat) (fun s => s ≤ 2 ^ n) (fun s => 2 ^ n - s) (fun s => [(3, .any), (4, .any), (5, .any), (8, .v (.int .i64 (s : Int)))]) (fun s => s) 0 rfl ?_ ?_ ?_ ?_ ?_
 ·exact Nat.zero_le _
 ·exact zF
 ·rfl
 ·rintro s hI
  exact zL
 ·rintro s hI
  dsimp only at hI ⊢
  refine mq 9 ?_
  refine zQ ?_
  refine sl ?_
  dsimp only [FC.st]
  refine cb fun hlt => ?_
  dsimp only at hlt
  refine cx ?_
  refine aa rfl (ck rfl rfl rfl) ?_
  refine cv ?_
  dsimp only [St.put]
  show lu _ _ _ _ _ _ _
  refine sn ok rfl ⟨rfl, rfl, zK, zN, zS, zK⟩ ?_
  refine sk fun K1 hK1 => ?_
  refine x5 rfl (fun hc => ?_) (fun hc => ?_)
  ·replace hc := of_decide_eq_true hc
   have hs : s < 2 ^ n := by omega
   refine x4 ?_
   refine hK1 _ _ ?_
   refine sk fun K2 hK2 => ?_
   refine vg ?_
   refine mq 9 ?_
   refine zQ ?_
   refine sl ?_
   dsimp only [FC.st]
   refine cb fun hlt => ?_
   dsimp only at hlt
   refine cx ?_
   refine aa rfl (bl rfl (by constructor)) ?_
   refine aa rfl (dp rfl (by constructor)) ?_
   refine cv ?_
   dsimp only [St.put]
   show lu _ _ _ _ _ _ _
   refine uam ?_
   refine cx ?_
   refine aa rfl (dp rfl (by constructor)) ?_
   refine cv ?_
   dsimp only [St.put]
   show lu _ _ _ _ _ _ _
   refine uam ?_
   refine qh 4 3 1 rfl (by decide) ?_
   dsimp only [List.set_cons_zero, List.set_cons_succ]
   refine cj fun K3 hK3 => ?_
   refine cx ?_
   try dsimp only [St.put]
   first | refine bk rfl (ca rfl rfl) ?_ | refine bk rfl (dz rfl rfl (Enc.len _)) ?_ | refine bk rfl (dz rfl rfl rfl) ?_ | refine bk rfl (ez rfl rfl zG trivial (by first | rfl | assumption)) ?_ | refine bk rfl (jf rfl rfl zG trivial (by rfl)) ?_ | refine bk rfl (qu rfl rfl zG trivial (by simp)) ?_ | refine bk rfl (gy rfl rfl zG trivial (o1 (by assumption) rfl)) ?_ | refine bk rfl (gy rfl rfl zG trivial (by assumption)) ?_ | refine bk rfl (po rfl rfl zG trivial rfl (by assumption) rfl (by decide)) ?_ | refine bk rfl (pp rfl rfl zG (by rfl)) ?_
   refine aa rfl (bl rfl (by constructor)) ?_
   refine cv ?_
   dsimp only [St.put]
   refine hK3 _ ?_
   refine bf ?_
   refine cm 13 ?_
   refine zQ ?_
   refine dm ((ai (I.G s) I.nx (.tip (ga 0 s).length 3 1))) zX ?_
   dsimp only
   refine dj (X := Nat) (fun k => k ≤ n) (fun k => n - k) (fun k => [(4, .list ((ga k s).map cells) (.tip I.nx)), (5, .any), (12, .v (.int .i64 (k : Int)))]) (fun k G' => (ai (I.G s) I.nx (.tip (ga k s).length 3 1))) 0 rfl ?_ ?_ ?_ ?_ ?_ ?_
   ·exact Nat.zero_le _
   ·exact zF
   ·exact zX
   ·rintro k hI
    exact zL
   ·rintro k hI
    exact zH
   ·rintro k hK
    dsimp only at hK ⊢
    refine cj fun K4 hK4 => ?_
    refine cx ?_
    refine aa rfl (ck rfl rfl rfl) ?_
    refine cv ?_
    dsimp only [St.put]
    refine hK4 _ ?_
    refine cj fun K5 hK5 => ?_
    refine aq rfl (fun hc => ?_) (fun hc => ?_)
    ·replace hc := of_decide_eq_true hc
     have hml := xl k s
     refine ax ?_
     refine hK5 _ ?_
     refine cj fun K6 hK6 => ?_
     refine bf ?_
     refine cj fun K7 hK7 => ?_
     refine cx ?_
     refine aa rfl (bl rfl (by constructor)) ?_
     refine aa rfl (dp rfl (by constructor)) ?_
     refine cv ?_
     dsimp only [St.put]
     refine hK7 _ ?_
     refine cj fun K8 hK8 => ?_
     refine cx ?_
     refine aa rfl (bl rfl (by constructor)) ?_
     refine aa rfl (bl rfl (by constructor)) ?_
     refine aa rfl (ucl (m := s) (n := k) rfl rfl rfl (by show k ≤ 64; omega) (by show (s : Int) ≤ 9223372036854775807; omega) (by decide)) ?_
     refine aa rfl (ucm (m := s / 2 ^ k) rfl rfl rfl (Nat.lt_of_le_of_lt (Nat.div_le_self _ _) (by show s < 2 ^ 64; omega)) (by decide)) ?_
     refine aa rfl (gl rfl rfl rfl) ?_
     refine cv ?_
     dsimp only [St.put]
     refine hK8 _ ?_
     refine aq rfl (fun hc => ?_) (fun hc => ?_)
     ·have hb1 : s.testBit k = true := bit_eq.1 (of_decide_eq_true hc)
      refine cx ?_
      refine aa rfl (bl rfl (by constructor)) ?_
      refine aa rfl (bl rfl (by constructor)) ?_
      try dsimp only [St.put]
      refine ae rfl (ef rfl rfl rfl (by decide) (by decide) zR (by decide) ?_)
      try dsimp only [St.put]
      refine ae rfl (jz ([(k : Int)]) rfl rfl zG zE rfl rfl zA ?_ zA)
      refine aa rfl (dp rfl (by constructor)) ?_
      refine cv ?_
      dsimp only [St.put]
      refine hK6 _ ?_
      refine cx ?_
      first | refine aa rfl (br rfl rfl rfl (by omega)) ?_ | refine aa rfl (xk rfl rfl rfl) ?_
      refine aa rfl (bl rfl (by constructor)) ?_
      refine cv ?_
      dsimp only [St.put]
      have e := uhf k s
      first
      | (have q : s.testBit k = true := hb1
         rw [q, cond_true] at e
         rw [← e]
         exact ⟨k + 1, by omega, by omega, ⟨⟨rfl, rfl⟩, zF, zB, zN, zX⟩⟩)
      | (have q : s.testBit k = false := hb0
         rw [q, cond_false, List.append_nil] at e
         rw [← e]
         exact ⟨k + 1, by omega, by omega, ⟨⟨rfl, rfl⟩, zF, zB, zN, zX⟩⟩)
     ·have hb0 : s.testBit k = false := by
       have := of_decide_eq_false hc
       rw [bit_eq, Bool.not_eq_true] at this
       exact this
      refine ax ?_
      refine hK6 _ ?_
      refine cx ?_
      first | refine aa rfl (br rfl rfl rfl (by omega)) ?_ | refine aa rfl (xk rfl rfl rfl) ?_
      refine aa rfl (bl rfl (by constructor)) ?_
      refine cv ?_
      dsimp only [St.put]
      have e := uhf k s
      first
      | (have q : s.testBit k = true := hb1
         rw [q, cond_true] at e
         rw [← e]
         exact ⟨k + 1, by omega, by omega, ⟨⟨rfl, rfl⟩, zF, zB, zN, zX⟩⟩)
      | (have q : s.testBit k = false := hb0
         rw [q, cond_false, List.append_nil] at e
         rw [← e]
         exact ⟨k + 1, by omega, by omega, ⟨⟨rfl, rfl⟩, zF, zB, zN, zX⟩⟩)
    ·replace hc := of_decide_eq_false hc
     obtain rfl : k = n := by omega
     refine ua0 4 (lst (ga k s)) rfl Wk.tok ?_
     refine c6 ?_
     show lu _ _ _ _ _ _ _
     refine sn ok rfl ⟨rfl, rfl, zK, zN, zS, zK⟩ ?_
     refine sk fun K9 hK9 => ?_
     refine uia ?_
     refine tx rfl (bl rfl (by constructor)) ?_
     refine tx rfl (bl rfl (by constructor)) ?_
     refine tx rfl (bl rfl (by constructor)) ?_
     try dsimp only [St.put]
     refine uie ok (by rw [hN]; exact hs) rfl rfl rfl rfl (by rw [hcl]; rfl) ?_
     refine tx rfl (ei rfl rfl) ?_
     refine uif ?_
     dsimp only [St.put]
     refine hK9 _ _ ?_
     refine x5 rfl (fun h => by cases h) (fun _ => ?_)
     refine x4 ?_
     refine hK2 _ _ ?_
     refine mq 9 ?_
     refine zQ ?_
     refine uc2 ok rfl ?_
     dsimp only [FC.st]
     refine cb fun hlt => ?_
     dsimp only at hlt
     refine cx ?_
     first | refine aa rfl (br rfl rfl rfl (by omega)) ?_ | refine aa rfl (xk rfl rfl rfl) ?_
     refine aa rfl (bl rfl (by constructor)) ?_
     refine cv ?_
     dsimp only [St.put]
     refine ⟨⟨rfl, rfl, zK, zN, zS, zK⟩, ?_⟩
     exact ⟨s + 1, by omega, by omega, rfl, ⟨⟨rfl, rfl⟩, zF, zB, zN, zX⟩⟩
  ·replace hc := of_decide_eq_false hc
   obtain rfl : s = 2 ^ n := by omega
   refine uc4 ?_
   exact ⟨.inl rfl, rfl⟩
end Go.Proofs.YtgffhbbcpgdjjaaGreatDoor
namespace Go.AB
open Go Go.RowKit
open Go.AB.Enc (cells)
open Go.PB (ay aj PlaceD bg bi bh bn ak ah cr bq dr dt)
theorem ut5 {so : Nat → Bool} {n k : Nat} : ((ge so n k).getD []).length ≤ n := by
 rcases uaz so n k with ⟨h, _⟩ | ⟨b, h, k⟩
 ·rw [h]; exact Nat.zero_le _
 rw [h]
 obtain ⟨s, _, _, rfl⟩ := k.get
 exact xl n s
theorem ut3 {so : Nat → Bool} {n k : Nat} (h : so k = false) : ge so n (k + 1) = ge so n k := by
 cases hb : ge so n k with
 | none => rw [ujw hb, h]; rfl
 | some b => rw [udj hb, h]; rfl
theorem ut6 {so : Nat → Bool} {n k : Nat} (hb : ge so n k = none) (h : so k = true) : ge so n (k + 1) = some (ga n k) := by rw [ujw hb, h]; rfl
theorem ut4 {so : Nat → Bool} {n k : Nat} {b : List Int} (hb : ge so n k = some b) (h : so k = true) : ge so n (k + 1) = bif jo (ga n k) b then some (ga n k) else some b := by rw [udj hb, h]; rfl
theorem uek {α : Type} {l : List α} {k : Nat} {x : α} (h : l[k]? = some x) : l.take (k + 1) = l.take k ++ [x] := by rw [List.take_add_one, h]; rfl
theorem uli (p : ah) (l : List Int) (z : Int) : qn p (l ++ [z]) = qn p l ++ bif decide (z < (p.firsts.length : Int)) then [z] else [] := by
 unfold qn
 rw [List.filter_append]
 cases h : decide (z < (p.firsts.length : Int)) <;> simp [h]
theorem ulf (p : ah) (l : List Int) (z : Int) : pj p (l ++ [z]) = pj p l ++ bif decide (z < (p.firsts.length : Int)) then [] else [z - (p.firsts.length : Int)] := by
 unfold pj
 rw [List.filter_append, List.map_append]
 cases h : decide (z < (p.firsts.length : Int)) <;> simp [h]
theorem ulj (p : ah) (l : List Int) : (qn p l).length ≤ l.length := List.length_filter_le _ _
theorem ulg (p : ah) (l : List Int) : (pj p l).length ≤ l.length := by
 unfold pj
 rw [List.length_map]
 exact List.length_filter_le _ _
theorem ulh {p : ah} {z : Int} (h : z ∈ ja p) : 0 ≤ z ∧ z < (co p : Int) := by
 unfold ja qg at h
 rcases uaz (ug p) (co p) (2 ^ co p) with ⟨q, _⟩ | ⟨b, q, k⟩
 ·rw [q] at h; cases h
 rw [q] at h
 obtain ⟨s, _, _, rfl⟩ := k.get
 obtain ⟨i, rfl, hi, _⟩ := membersL_mem.1 h
 omega
end Go.AB
namespace Go.Proofs.YtgffhbbcpgdjjaaGreatDoor
set_option maxRecDepth 10000
open Go.RowKit Go.AB
open Go.AB.Enc (cells)
open Go.PB (ay aj PlaceD bg bi bh bn ak ah cr bq dr dt)
end Go.Proofs.YtgffhbbcpgdjjaaGreatDoor
namespace Go.AB
open Go Go.RowKit
open Go.AB.Enc (cells)
open Go.PB (ay aj PlaceD bg bi bh bn ak ah cr bq dr dt)
theorem ut2 {so : Nat → Bool} {n k : Nat} {b : List Int} (hb : ge so n k = some b) (h : jo (ga n k) b = false) : ge so n (k + 1) = some b := by rw [udj hb, h, Bool.and_false]; rfl
theorem uj1 {p : ah} {R C : Nat → Int} (h : Bd p R C) (l : List Int) : Bd p R (ms C l) := ⟨h.r, fun j => by
 have := h.c j
 unfold ms
 cases decide ((j : Int) ∈ l)
 ·exact this
 exact ⟨Int.le_refl _, by show (0 : Int) ≤ 1000000; omega⟩, h.nr, h.np⟩
theorem uto {p : ah} {m : Int} (h : dc p ≠ 0) : j0 p m = dc p := by unfold j0; rw [decide_eq_false h]; rfl
theorem utn {p : ah} {m : Int} (h : dc p = 0) (hm : m < 0) : j0 p m = 2 := by unfold j0; rw [decide_eq_true h, decide_eq_true hm]; rfl
theorem utp {p : ah} {m : Int} (h : dc p = 0) (hm : ¬ m < 0) (ht : j6 p = false) : j0 p m = 8 := by unfold j0; rw [decide_eq_true h, decide_eq_false hm, ht]; rfl
theorem utm {p : ah} {m : Int} (h : dc p = 0) (hm : ¬ m < 0) (ht : j6 p = true) : j0 p m = 0 := by unfold j0; rw [decide_eq_true h, decide_eq_false hm, ht]; rfl
end Go.AB
namespace Go.Proofs.YtgffhbbcpgdjjaaGreatDoor
set_option maxRecDepth 10000
open Go.RowKit Go.AB
open Go.AB.Enc (cells)
open Go.PB (ay aj PlaceD bg bi bh bn ak ah cr bq dr dt)
end Go.Proofs.YtgffhbbcpgdjjaaGreatDoor
namespace Go.AB
open Go Go.RowKit
open Go.AB.Enc (cells)
open Go.PB (ay aj PlaceD bg bi bh bn ak ah cr bq dr dt)
/-- whether a set is taken, and how often one was -/
def my (so : Nat → Bool) (n k : Nat) : Bool := so k && match ge so n k with
 | none => true
 | some b => jo (ga n k) b
def oq (so : Nat → Bool) (n : Nat) : Nat → Nat
 | 0 => 0
 | k + 1 => oq so n k + (my so n k).toNat
theorem ubi {so : Nat → Bool} {n k : Nat} (h : my so n k = true) : ge so n (k + 1) = some (ga n k) ∧ oq so n (k + 1) = oq so n k + 1 := by
 refine ⟨?_, by show oq so n k + (my so n k).toNat = _; rw [h]; rfl⟩
 unfold my at h
 rw [Bool.and_eq_true] at h
 cases hb : ge so n k with
 | none => exact ut6 hb h.1
 | some b =>
  have h2 := h.2
  rw [hb] at h2
  have h3 : jo (ga n k) b = true := h2
  rw [ut4 hb h.1, h3]; rfl
theorem ubj {so : Nat → Bool} {n k : Nat} (h : my so n k = false) : ge so n (k + 1) = ge so n k ∧ oq so n (k + 1) = oq so n k := by
 refine ⟨?_, by show oq so n k + (my so n k).toNat = _; rw [h]; rfl⟩
 unfold my at h
 cases hs : so k
 ·exact ut3 hs
 rw [hs, Bool.true_and] at h
 cases hb : ge so n k with
 | none => rw [hb] at h; cases h
 | some b =>
  rw [hb] at h
  have h3 : jo (ga n k) b = false := h
  rw [ut2 hb h3]
theorem umm {so : Nat → Bool} {n k : Nat} (h : so k = false) : my so n k = false := by unfold my; rw [h]; rfl
theorem umn {so : Nat → Bool} {n k : Nat} (h : so k = true) (hb : ge so n k = none) : my so n k = true := by unfold my; rw [h, hb]; rfl
theorem yy {so : Nat → Bool} {n k : Nat} {b : List Int} (h : so k = true) (hb : ge so n k = some b) : my so n k = jo (ga n k) b := by unfold my; rw [h, hb]; rfl
end Go.AB
namespace Go.Proofs.YtgffhbbcpgdjjaaGreatDoor
set_option maxRecDepth 10000
open Go Go.RowKit Go.AB
open Go.AB.Enc (cells)
open Go.PB (ay aj PlaceD bg bi bh bn ak ah cr bq dr dt)
theorem ue4 (m : Nat) : Pure Tryz.prog 54 [.v (.int .i64 (m : Int))] (.fn (.func 73) [.elem [.v (.int .i64 (m : Int))]]) := by
 refine dg Tryz.func54 rfl (fun m => (.fn (ce (.elem (ce .v dq)) dq))) fun G nx => ?_
 simp only [Tryz.ntmps54, List.length_cons, List.length_nil, Nat.reduceAdd, Nat.reduceSub]
 refine cb fun hlt => ?_
 dsimp only at hlt
 refine yS fun _ K1 => ?_
 refine yR ?_
 try dsimp only [St.put]
 refine yB rfl rfl rfl ?_
 refine yA rfl rfl ?_
 refine yN ?_
 dsimp only [St.put]
 refine K1 _ ?_
 refine yS fun _ K2 => ?_
 refine yR ?_
 refine aa rfl (tn rfl rfl) ?_
 refine yA rfl rfl ?_
 refine yN ?_
 dsimp only [St.put]
 refine K2 _ ?_
 refine ar ?_
 refine bj rfl (by constructor) zN zS ?_
 rfl
set_option maxHeartbeats 1000000 in
theorem uio (n : Nat) (m : Nat) (so : Nat → Bool) (k0 : FuncId) (caps : List C) [Fun Tryz.prog k0] (hm : m ≤ 8) (hcl : ∀ N, ∀ c ∈ caps, C.low N c) (hso : ∀ s : Nat, s < 2 ^ m → AB.Pure Tryz.prog k0 (.v (.int .i64 (s : Int)) :: lst (ga m s) :: caps) (.v (.bool (so s)))) : gd n f8 Tryz.prog 53 [.fn (.func 73) [.elem [.v (.int .i64 (m : Int))]], .fn (.func k0) caps, .fn (.func 57) []] (lst (qg so m)) := fun G nx hF hnx => by
 refine jg (G) (nx) Tryz.func53 rfl ((bv _ _)) zN (fun hlt => zH) ?_
 simp only [Tryz.ntmps53, List.length_cons, List.length_nil, Nat.reduceAdd, Nat.reduceSub]
 refine cb fun hlt => ?_
 dsimp only at hlt
 refine yS fun _ K1 => ?_
 refine yR ?_
 try dsimp only [St.put]
 refine yB rfl rfl rfl ?_
 try dsimp only [St.put]
 refine yB rfl rfl rfl ?_
 refine yA rfl rfl ?_
 refine yN ?_
 dsimp only [St.put]
 refine K1 _ ?_
 refine yS fun _ K2 => ?_
 refine yR ?_
 try dsimp only [St.put]
 refine ae rfl (dx rfl ?_)
 refine yN ?_
 dsimp only [St.put]
 refine K2 _ ?_
 refine yS fun _ K3 => ?_
 refine yR ?_
 try dsimp only [St.put]
 refine ae rfl (dx rfl ?_)
 try dsimp only [St.put]
 refine ae rfl (di rfl rfl rfl zG rfl rfl (by rfl) ?_)
 refine yN ?_
 dsimp only [St.put]
 refine K3 _ ?_
 refine yS fun _ K4 => ?_
 refine yS fun _ K5 => ?_
 refine ua1 nx 0 [lst ([] : List Int)] zG zW ?_
 refine yR ?_
 refine yM rfl rfl ?_
 refine yN ?_
 dsimp only [St.put]
 refine K5 _ ?_
 refine bf ?_
 refine cm 12 ?_
 refine zQ ?_
 refine dm ((ai (ai G nx (.box (oq so m 0) [lst ((ge so m 0).getD [])])) (nx + 1) (.box (1 + oq so m 0) [.v (.bool (ge so m 0).isSome)]))) zX ?_
 dsimp only
 refine uj3 [12, 13] (fun k => (ai (ai G nx (.box (oq so m k) [lst ((ge so m k).getD [])])) (nx + 1) (.box (1 + oq so m k) [.v (.bool (ge so m k).isSome)]))) (fun k => [(13, lst (ga m k)), (12, .v (.int .i64 (k : Int)))]) (uni n m hm) (fun k => zG) (by (try dsimp only); omega) rfl rfl (fun _ => rfl) ?_ ?_ ?_ (fun lr k hrk => ?_) ?_
 ·intro k
  rfl
 ·exact zX
 ·intro k
  exact zH
 ·have hbl := ut5 (so := so) (n := m) (k := k)
  have hml := xl m k
  refine yS fun _ K6 => ?_
  refine yR ?_
  refine yA rfl rfl ?_
  refine yN ?_
  dsimp only [St.put]
  refine K6 _ ?_
  refine yR ?_
  refine yA rfl rfl ?_
  refine yN ?_
  dsimp only [St.put]
  show AW _ _ _ _ _
  refine bf ?_
  refine yS fun _ K7 => ?_
  refine yR ?_
  refine yL rfl rfl rfl ?_
  refine yM rfl rfl ?_
  refine yM rfl rfl ?_
  try dsimp only [St.put]
  refine ae rfl (ba rfl rfl rfl (hso k hrk) ?_)
  refine yM rfl rfl ?_
  refine ff (fun hs => ?_) (fun hs => ?_)
  ·have hw : so k = true := hs
   try dsimp only [St.put]
   refine bk rfl (ez rfl rfl zG trivial (by first | rfl | assumption)) ?_
   refine aa rfl (ei rfl rfl) ?_
   refine yM rfl rfl ?_
   refine ff (fun hs => ?_) (fun hs => ?_)
   ·have hb0 : ge so m k = none := by simpa using hs
    have htk := ubi (umn hw hb0)
    refine yK rfl ?_
    refine yK rfl ?_
    refine yK rfl ?_
    refine yK rfl ?_
    refine yK rfl ?_
    refine aa rfl (ci rfl rfl (by constructor)) ?_
    refine aa rfl (ci rfl rfl (by constructor)) ?_
    refine yN ?_
    dsimp only [St.put]
    refine K7 _ ?_
    refine aq rfl (fun _ => ?_) (fun h => by cases h)
    first
    | (have hbf : jo (ga m k) b = true := (zc _ _).symm.trans hc
       have htk := ubi ((yy hw hb0).trans hbf))
    | skip
    refine yR ?_
    refine yM rfl rfl ?_
    try dsimp only [St.put]
    refine ae rfl (di rfl rfl rfl zG rfl rfl (by rfl) ?_)
    try dsimp only [St.put]
    refine ae rfl (di rfl rfl rfl zG rfl rfl (by rfl) ?_)
    refine yN ?_
    dsimp only [St.put]
    dsimp only [vz, yl]
    first
    | (rw [htk.1, htk.2]
       exact zX)
    | (rw [hke.1, hke.2]
       try rw [hb0]
       exact zX)
   obtain ⟨b, hb0⟩ : ∃ b, ge so m k = some b := by
     cases hb : ge so m k with
     | none => rw [hb] at hs; cases hs
     | some b => exact ⟨b, rfl⟩
   rw [hb0] at hbl
   rw [hb0]
   have hbl2 : b.length ≤ m := hbl
   refine yL rfl rfl rfl ?_
   refine yM rfl rfl ?_
   try dsimp only [St.put]
   refine bk rfl (ez rfl rfl zG trivial (by first | rfl | assumption)) ?_
   try dsimp only [St.put]
   refine ae rfl (ba rfl rfl rfl (upo (ga m k) b (by omega) (by omega)) ?_)
   refine aa rfl (ck rfl rfl rfl) ?_
   refine aa rfl (cz rfl rfl (by constructor)) ?_
   refine aa rfl (ci rfl rfl (by constructor)) ?_
   refine yN ?_
   dsimp only [St.put]
   refine K7 _ ?_
   refine aq rfl (fun hc => ?_) (fun hc => ?_)
   ·first
    | (have hbf : jo (ga m k) b = true := (zc _ _).symm.trans hc
       have htk := ubi ((yy hw hb0).trans hbf))
    | skip
    refine yR ?_
    refine yM rfl rfl ?_
    try dsimp only [St.put]
    refine ae rfl (di rfl rfl rfl zG rfl rfl (by rfl) ?_)
    try dsimp only [St.put]
    refine ae rfl (di rfl rfl rfl zG rfl rfl (by rfl) ?_)
    refine yN ?_
    dsimp only [St.put]
    dsimp only [vz, yl]
    first
    | (rw [htk.1, htk.2]
       exact zX)
    | (rw [hke.1, hke.2]
       try rw [hb0]
       exact zX)
   first
   | (have hbf : jo (ga m k) b = false := (zc _ _).symm.trans hc
      have hke := ubj ((yy hw hb0).trans hbf))
   | skip
   refine ax ?_
   dsimp only [vz, yl]
   first
   | (rw [htk.1, htk.2]
      exact zX)
   | (rw [hke.1, hke.2]
      try rw [hb0]
      exact zX)
  have hw : so k = false := hs
  have hke := ubj (umm (n := m) hw)
  refine yK rfl ?_
  refine yK rfl ?_
  refine yK rfl ?_
  refine yK rfl ?_
  refine yK rfl ?_
  refine yK rfl ?_
  refine yK rfl ?_
  refine yK rfl ?_
  refine yK rfl ?_
  refine aa rfl (cz rfl rfl (by constructor)) ?_
  refine yN ?_
  dsimp only [St.put]
  refine K7 _ ?_
  refine aq rfl (fun h => by cases h) (fun _ => ?_)
  first
  | (have hbf : jo (ga m k) b = false := (zc _ _).symm.trans hc
     have hke := ubj ((yy hw hb0).trans hbf))
  | skip
  refine ax ?_
  dsimp only [vz, yl]
  first
  | (rw [htk.1, htk.2]
     exact zX)
  | (rw [hke.1, hke.2]
     try rw [hb0]
     exact zX)
 dsimp only
 refine K4 _ ?_
 refine yS fun _ K8 => ?_
 refine yR ?_
 try dsimp only [St.put]
 refine bk rfl (ez rfl rfl zG trivial (by first | rfl | assumption)) ?_
 refine yA rfl rfl ?_
 refine yN ?_
 dsimp only [St.put]
 refine K8 _ ?_
 refine ar ?_
 refine bj rfl (by constructor) zN zS ?_
 rfl
theorem upm (p : ah) (R C : Nat → Int) (a : Int) (s : Nat) (l : List Int) (h : et p) (hB : Bd p R C) (hs : s ≤ 1000) : Pure Tryz.prog 55 [.v (.int .i64 (s : Int)), lst l, .elem (cells (ib p R C)), .elem [.v (.int .i64 a)]] (.v (.bool (decide ((bx p).f R C (fun i => s.testBit i) = a)))) := by
 refine dg Tryz.func55 rfl (fun m => .v) fun G nx => ?_
 simp only [Tryz.ntmps55, List.length_cons, List.length_nil, Nat.reduceAdd, Nat.reduceSub]
 refine cb fun hlt => ?_
 dsimp only at hlt
 refine yS fun _ K1 => ?_
 refine yR ?_
 refine yA rfl rfl ?_
 refine yN ?_
 dsimp only [St.put]
 refine K1 _ ?_
 refine yS fun _ K2 => ?_
 refine fw [(0, none), (1, none), (3, none), (2, none), (4, none), (5, none)] (fun i => [].contains i) (fun i => [2].contains i) (fun i => [1, 4, 5].contains i) [] (by kernel_rfl) (by kernel_rfl) ?_
 try dsimp only [St.put]
 refine aw rfl rfl rfl rfl (dz rfl rfl (Enc.len _)) ?_
 refine xM rfl rfl rfl rfl rfl ?_
 try dsimp only [St.put]
 refine aw rfl rfl rfl rfl (ca rfl rfl) ?_
 refine gu ?_
 try dsimp only [St.put]
 refine ij rfl rfl rfl (ba rfl rfl rfl (ugd p R C s h hB hs) ⟨zD, ?_⟩)
 refine ec rfl rfl rfl rfl (gl rfl rfl rfl) ?_
 refine ec rfl rfl rfl rfl (dp rfl (by constructor)) ?_
 refine gt ?_
 dsimp only [St.put]
 refine K2 _ ?_
 refine ar ?_
 refine bj rfl (by constructor) zN zS ?_
 rfl
theorem upv (p : ah) (m : Int) (s : Int) (l : List Int) (h : et p) (hl : l.length ≤ 1000) (hm : ∀ z ∈ l, 0 ≤ z ∧ z < (p.pages.length : Int)) : Pure Tryz.prog 77 [.v (.int .i64 s), lst l, .elem (cells (ib p (dh p) (d9 p))), .elem [.v (.int .i64 m)]] (.v (.bool (decide (uko p l ≤ m)))) := by
 refine dg Tryz.func77 rfl (fun m => .v) fun G nx => ?_
 simp only [Tryz.ntmps77, List.length_cons, List.length_nil, Nat.reduceAdd, Nat.reduceSub]
 refine cb fun hlt => ?_
 dsimp only at hlt
 refine yS fun _ K1 => ?_
 refine yR ?_
 refine yA rfl rfl ?_
 refine yN ?_
 dsimp only [St.put]
 refine K1 _ ?_
 refine yS fun _ K2 => ?_
 refine yR ?_
 refine yE rfl rfl rfl ?_
 try dsimp only [St.put]
 refine ae rfl (dx rfl ?_)
 try dsimp only [St.put]
 refine ae rfl (di rfl rfl rfl zG rfl rfl (by rfl) ?_)
 refine yN ?_
 dsimp only [St.put]
 rw [show cells (ib p (dh p) (d9 p)) = cells (ib p (dh p) (ms (d9 p) (l.take 0))) by rw [List.take_zero, ukz]]
 refine K2 _ ?_
 refine yS fun _ K3 => ?_
 refine yS fun _ K4 => ?_
 refine yR ?_
 refine yM rfl rfl ?_
 refine aa rfl (bp rfl rfl (List.length_map _)) ?_
 refine yM rfl rfl ?_
 refine yN ?_
 dsimp only [St.put]
 refine K4 _ ?_
 refine bf ?_
 refine cm 14 ?_
 refine zQ ?_
 refine dm ((ai G nx (.box (0 + 1) (cells (ib p (dh p) (ms (d9 p) (l.take 0))))))) zX ?_
 dsimp only
 refine dj (X := Nat) (fun k => k ≤ l.length) (fun k => l.length - k) (fun k => [(8, .any), (9, .any), (13, .v (.int .i64 (k : Int)))]) (fun k G' => (ai G nx (.box (k + 1) (cells (ib p (dh p) (ms (d9 p) (l.take k))))))) 0 rfl ?_ ?_ ?_ ?_ ?_ ?_
 ·exact Nat.zero_le _
 ·exact zF
 ·exact zX
 ·rintro k hI
  exact zL
 ·rintro k hI
  exact zH
 rintro k hI
 dsimp only at hI ⊢
 refine yS fun _ K5 => ?_
 refine yR ?_
 refine aa rfl (ck rfl rfl rfl) ?_
 refine yN ?_
 dsimp only [St.put]
 refine K5 _ ?_
 refine yS fun _ K6 => ?_
 refine aq rfl (fun hc => ?_) (fun hc => ?_)
 ·replace hc := of_decide_eq_true hc
  obtain ⟨z0, hz0⟩ : ∃ z, l[k]? = some z := dl (by omega)
  have hzb := hm z0 (gh hz0)
  obtain ⟨j, rfl⟩ : ∃ j : Nat, z0 = (j : Int) := ⟨z0.toNat, by omega⟩
  have hz := hz0
  obtain ⟨x, hx⟩ : ∃ x, p.pages[j]? = some x := dl (by omega)
  have hB := uj1 (yh h) (l.take k)
  refine ax ?_
  refine K6 _ ?_
  refine yS fun _ K7 => ?_
  refine bf ?_
  refine yS fun _ K8 => ?_
  refine yR ?_
  refine aa rfl (bw rfl rfl rfl rfl (bu (by assumption)) (Enc.len _)) ?_
  refine yL rfl rfl rfl ?_
  refine yA rfl rfl ?_
  refine yN ?_
  dsimp only [St.put]
  refine K8 _ ?_
  refine yR ?_
  try dsimp only [St.put]
  refine bk rfl (jf rfl rfl zG trivial (by rfl)) ?_
  refine yM rfl rfl ?_
  try dsimp only [St.put]
  refine ae rfl (ba rfl rfl rfl (ub9 p (dh p) (ms (d9 p) (l.take k)) j x 0 h hx (by omega) hB.r) ?_)
  try dsimp only [St.put]
  refine ae rfl (di rfl rfl rfl zG rfl rfl (by rfl) ?_)
  refine yN ?_
  dsimp only [St.put]
  refine K7 _ ?_
  refine yR ?_
  refine aa rfl (br rfl rfl rfl (by omega)) ?_
  refine yM rfl rfl ?_
  refine yN ?_
  dsimp only [St.put]
  rw [urb, ← uky, ← uek hz]
  exact ⟨k + 1, by omega, by omega, ⟨⟨rfl, rfl⟩, zF, zB, zN, zX⟩⟩
 replace hc := of_decide_eq_false hc
 rw [ia (show l.length ≤ k by omega)]
 refine c6 ?_
 refine K3 _ ?_
 refine yS fun _ K9 => ?_
 refine fw [(0, none), (2, none), (1, none), (3, none), (4, none)] (fun i => [].contains i) (fun i => [1].contains i) (fun i => [3, 4].contains i) [nx] (by kernel_rfl) (by kernel_rfl) ?_
 try dsimp only [St.put]
 refine aw rfl rfl rfl rfl (jf rfl rfl zG (by simp) (by rfl)) ?_
 try dsimp only [St.put]
 refine aw rfl rfl rfl rfl (ca rfl rfl) ?_
 refine gu ?_
 try dsimp only [St.put]
 refine ij rfl rfl rfl (ba rfl rfl rfl (w9 p (dh p) (ms (d9 p) l) h (uj1 (yh h) l)) ⟨zD, ?_⟩)
 refine ec rfl rfl rfl rfl (uw rfl rfl rfl) ?_
 refine ec rfl rfl rfl rfl (dp rfl (by constructor)) ?_
 refine gt ?_
 dsimp only [St.put]
 refine K9 _ ?_
 refine ar ?_
 refine bj rfl (by constructor) zN zS ?_
 rfl
theorem ufl (p : ah) (R Q : Nat → Int) (a : Int) (N : Nat) : ∀ c ∈ [C.elem (cells (ib p R Q)), C.elem [C.v (.int .i64 a)]], C.low N c := ce (fy _ _) (ce (.elem (ce .v dq)) dq)
set_option maxHeartbeats 1000000 in
theorem upl (n : Nat) (p : ah) : gd n f8 Tryz.prog 26 [val p] (.tup [lst (atE (gm p (dc p)) [] (qn p (ja p))), lst (atE (gm p (dc p)) [] (pj p (ja p))), .v (.int .i64 (gm p (dc p)))]) := fun G nx hF hnx => by
 refine jg (G) (nx) Tryz.func26 rfl (.tup (ce (bv _ _) (ce (bv _ _) (ce .v dq)))) zN (fun hlt => zH) ?_
 simp only [Tryz.ntmps26, List.length_cons, List.length_nil, Nat.reduceAdd, Nat.reduceSub]
 refine cb fun hlt => ?_
 dsimp only at hlt
 refine yS fun _ K1 => ?_
 refine yR ?_
 try dsimp only [St.put]
 refine yB rfl rfl rfl ?_
 refine yA rfl rfl ?_
 refine yA rfl rfl ?_
 refine yA rfl rfl ?_
 refine yN ?_
 dsimp only [St.put]
 refine K1 _ ?_
 refine yS fun _ K2 => ?_
 by_cases hL : gm p (dc p) = 0
 ·refine yR ?_
  refine yE rfl rfl rfl ?_
  try dsimp only [St.put]
  refine ae rfl (fa rfl rfl rfl (qz n p) zG (by dsimp only [St.put]; omega) ?_)
  refine yX rfl rfl rfl rfl ?_
  refine yX rfl rfl rfl rfl ?_
  try dsimp only [St.put]
  refine ae rfl (fa rfl rfl rfl (w7 n p (k7 p) (dc p) su hL) zG (by dsimp only [St.put]; omega) ?_)
  refine yM rfl rfl ?_
  refine yX rfl rfl rfl rfl ?_
  refine yX rfl rfl rfl rfl ?_
  try dsimp only [St.put]
  refine ae rfl (dx rfl ?_)
  try dsimp only [St.put]
  refine ae rfl (di rfl rfl rfl zG rfl rfl (by rfl) ?_)
  refine yA rfl rfl ?_
  refine yN ?_
  dsimp only [St.put]
  refine K2 _ ?_
  refine yS fun _ K3 => ?_
  refine yS fun _ K4 => ?_
  refine yR ?_
  refine yM rfl rfl ?_
  refine aa rfl (gk rfl rfl rfl) ?_
  refine yN ?_
  dsimp only [St.put]
  refine K4 _ ?_
  refine aq rfl (fun hc => ?_) (fun hc => ?_)
  ·exact absurd hc (by decide)
  obtain ⟨h0, hTB⟩ := u9 hL
  obtain ⟨hok, _⟩ := nk h0
  have hn1 := hok.nf
  have hn2 := hok.ns
  have hnr : co p = p.firsts.length + p.seconds.length := rfl
  have hl1 := jq (co p) (dh p)
  have hB := yh hok
  have h64 : 2 ^ co p ≤ 2 ^ 6 := Nat.pow_le_pow_right (by omega) (by omega)
  have hwl : (ja p).length ≤ 6 := by
   have := ujx (ug p) (co p)
   show (qg (ug p) (co p)).length ≤ 6
   omega
  refine ax ?_
  refine K3 _ ?_
  refine yS fun _ K5 => ?_
  refine yR ?_
  try dsimp only [St.put]
  refine bk rfl (jf rfl rfl zG trivial (by rfl)) ?_
  try dsimp only [St.put]
  refine ae rfl (ba rfl rfl rfl (w9 p (dh p) (d9 p) hok hB) ?_)
  try dsimp only [St.put]
  refine ae rfl (dx rfl ?_)
  try dsimp only [St.put]
  refine ae rfl (di rfl rfl rfl zG rfl rfl (by rfl) ?_)
  refine yN ?_
  dsimp only [St.put]
  refine K5 _ ?_
  refine gg (i := 5) rfl zG zC ?_
  refine gg (i := 6) rfl zG zC ?_
  dsimp only
  refine yS fun _ K6 => ?_
  refine yS fun _ K7 => ?_
  refine yR ?_
  refine yF rfl rfl rfl rfl ?_
  refine yL rfl rfl rfl ?_
  refine aa rfl (bp rfl rfl (List.length_map _)) ?_
  try dsimp only [St.put]
  refine ae rfl (ba rfl rfl rfl (ue4 (cc (co p) (dh p)).length) ?_)
  refine aa rfl (tn rfl rfl) ?_
  try dsimp only [St.put]
  refine ae rfl (fa rfl rfl rfl (uio n (cc (co p) (dh p)).length (ug p) 55 [.elem (cells (ib p (dh p) (d9 p))), .elem [.v (.int .i64 ((bx p).most (dh p) (d9 p)))]] (by rw [hl1]; omega) (ufl p _ _ _) (fun s hs => upm p (dh p) (d9 p) _ s _ hok hB (by rw [hl1] at hs; omega))) zG (by dsimp only [St.put]; omega) ?_)
  refine aa rfl (bp rfl rfl (List.length_map _)) ?_
  refine yM rfl rfl ?_
  refine yN ?_
  dsimp only [St.put]
  rw [hl1, show qg (ug p) (co p) = ja p from rfl]
  refine K7 _ ?_
  refine qh 2 3 1 rfl (by decide) ?_
  refine qh 3 3 1 rfl (by decide) ?_
  dsimp only [List.set_cons_zero, List.set_cons_succ]
  refine bf ?_
  refine cm 30 ?_
  refine zQ ?_
  refine dm ((ai (ai G (nx + 1 + 1) (.tip (qn p ((ja p).take 0)).length 3 1)) (nx + 1 + 1 + 1) (.tip (pj p ((ja p).take 0)).length 3 1))) zX ?_
  dsimp only
  refine dj (X := Nat) (fun k => k ≤ (ja p).length) (fun k => (ja p).length - k) (fun k => [(2, .list ((qn p ((ja p).take k)).map cells) (.tip (nx + 1 + 1))), (3, .list ((pj p ((ja p).take k)).map cells) (.tip (nx + 1 + 1 + 1))), (8, .any), (29, .v (.int .i64 (k : Int)))]) (fun k G' => (ai (ai G (nx + 1 + 1) (.tip (qn p ((ja p).take k)).length 3 1)) (nx + 1 + 1 + 1) (.tip (pj p ((ja p).take k)).length 3 1))) 0 rfl ?_ ?_ ?_ ?_ ?_ ?_
  ·exact Nat.zero_le _
  ·exact zF
  ·exact zX
  ·rintro k hI
   exact zL
  ·rintro k hI
   exact zH
  rintro k hK
  dsimp only at hK ⊢
  refine yS fun _ K8 => ?_
  refine yR ?_
  refine aa rfl (ck rfl rfl rfl) ?_
  refine yN ?_
  dsimp only [St.put]
  refine K8 _ ?_
  refine yS fun _ K9 => ?_
  refine aq rfl (fun hc => ?_) (fun hc => ?_)
  ·replace hc := of_decide_eq_true hc
   obtain ⟨z, hz⟩ : ∃ z, (ja p)[k]? = some z := dl (by omega)
   have hzb := ulh (gh hz)
   have hF3 := uli p ((ja p).take k) z
   have hS3 := ulf p ((ja p).take k) z
   rw [← uek hz] at hF3 hS3
   have hlF := ulj p ((ja p).take k)
   have hlS := ulg p ((ja p).take k)
   have hlt2 : ((ja p).take k).length ≤ 6 := by rw [List.length_take]; omega
   refine ax ?_
   refine K9 _ ?_
   refine yS fun _ K10 => ?_
   refine bf ?_
   refine yS fun _ K11 => ?_
   refine yR ?_
   refine aa rfl (bw rfl rfl rfl rfl (bu (by assumption)) (Enc.len _)) ?_
   refine yL rfl rfl rfl ?_
   refine yA rfl rfl ?_
   refine yN ?_
   dsimp only [St.put]
   refine K11 _ ?_
   refine yS fun _ K12 => ?_
   refine yR ?_
   refine yM rfl rfl ?_
   refine yF rfl rfl rfl rfl ?_
   refine yL rfl rfl rfl ?_
   refine aa rfl (bp rfl rfl (List.length_map _)) ?_
   refine aa rfl (ck rfl rfl rfl) ?_
   refine yN ?_
   dsimp only [St.put]
   refine K12 _ ?_
   refine aq rfl (fun hc => ?_) (fun hc => ?_)
   ·have hyes := of_decide_eq_true hc
    refine yR ?_
    refine yM rfl rfl ?_
    refine yM rfl rfl ?_
    try dsimp only [St.put]
    refine ae rfl (ef rfl rfl rfl (by decide) (by decide) zR (by decide) ?_)
    try dsimp only [St.put]
    refine ae rfl (jz ([z]) rfl rfl zG zE rfl rfl zA ?_ zA)
    refine yA rfl rfl ?_
    refine yN ?_
    dsimp only [St.put]
    refine K10 _ ?_
    refine yR ?_
    refine aa rfl (br rfl rfl rfl (by omega)) ?_
    refine yM rfl rfl ?_
    refine yN ?_
    dsimp only [St.put]
    first
    | (have hy2 : z < (p.firsts.length : Int) := hyes
       rw [decide_eq_true hy2, cond_true] at hF3 hS3
       rw [List.append_nil] at hS3
       simp only [← hF3]
       rw [← hS3]
       exact ⟨k + 1, by omega, by omega, ⟨⟨rfl, rfl⟩, zF, zB, zN, zX⟩⟩)
    | (have hy2 : ¬ z < (p.firsts.length : Int) := hno
       rw [decide_eq_false hy2, cond_false] at hF3 hS3
       rw [List.append_nil] at hF3
       simp only [← hS3]
       rw [← hF3]
       exact ⟨k + 1, by omega, by omega, ⟨⟨rfl, rfl⟩, zF, zB, zN, zX⟩⟩)
   have hno := of_decide_eq_false hc
   refine yR ?_
   refine yM rfl rfl ?_
   refine yM rfl rfl ?_
   refine yF rfl rfl rfl rfl ?_
   refine yL rfl rfl rfl ?_
   refine aa rfl (bp rfl rfl (List.length_map _)) ?_
   refine aa rfl (gr rfl rfl rfl (by omega)) ?_
   try dsimp only [St.put]
   refine ae rfl (ef rfl rfl rfl (by decide) (by decide) zR (by decide) ?_)
   try dsimp only [St.put]
   refine ae rfl (jz ([z - (p.firsts.length : Int)]) rfl rfl zG zE rfl rfl zA ?_ zA)
   refine yA rfl rfl ?_
   refine yN ?_
   dsimp only [St.put]
   refine K10 _ ?_
   refine yR ?_
   refine aa rfl (br rfl rfl rfl (by omega)) ?_
   refine yM rfl rfl ?_
   refine yN ?_
   dsimp only [St.put]
   first
   | (have hy2 : z < (p.firsts.length : Int) := hyes
      rw [decide_eq_true hy2, cond_true] at hF3 hS3
      rw [List.append_nil] at hS3
      simp only [← hF3]
      rw [← hS3]
      exact ⟨k + 1, by omega, by omega, ⟨⟨rfl, rfl⟩, zF, zB, zN, zX⟩⟩)
   | (have hy2 : ¬ z < (p.firsts.length : Int) := hno
      rw [decide_eq_false hy2, cond_false] at hF3 hS3
      rw [List.append_nil] at hF3
      simp only [← hS3]
      rw [← hF3]
      exact ⟨k + 1, by omega, by omega, ⟨⟨rfl, rfl⟩, zF, zB, zN, zX⟩⟩)
  replace hc := of_decide_eq_false hc
  refine c6 ?_
  refine K6 _ ?_
  refine yS fun _ K13 => ?_
  refine yR ?_
  refine yM rfl rfl ?_
  refine yM rfl rfl ?_
  refine yA rfl rfl ?_
  refine yA rfl rfl ?_
  refine yA rfl rfl ?_
  refine yN ?_
  dsimp only [St.put]
  refine K13 _ ?_
  refine ar ?_
  refine ui4 rfl (ey (by constructor)) (ey (by constructor)) (ey (by constructor)) zN zS ?_ ?_ ?_
  ·rw [hL, s7, ia (show (ja p).length ≤ k by omega)]; exact zW
  ·rw [hL, s7, ia (show (ja p).length ≤ k by omega)]; exact zW
  rw [hL]; exact zW
 refine yR ?_
 refine yE rfl rfl rfl ?_
 try dsimp only [St.put]
 refine ae rfl (fa rfl rfl rfl (qz n p) zG (by dsimp only [St.put]; omega) ?_)
 refine yX rfl rfl rfl rfl ?_
 refine yX rfl rfl rfl rfl ?_
 try dsimp only [St.put]
 refine ae rfl (fa rfl rfl rfl (w8 n p (k7 p) (dc p) su hL) zG (by dsimp only [St.put]; omega) ?_)
 refine yM rfl rfl ?_
 refine yX rfl rfl rfl rfl ?_
 refine yX rfl rfl rfl rfl ?_
 try dsimp only [St.put]
 refine ae rfl (dx rfl ?_)
 try dsimp only [St.put]
 refine ae rfl (di rfl rfl rfl zG rfl rfl (by rfl) ?_)
 refine yA rfl rfl ?_
 refine yN ?_
 dsimp only [St.put]
 refine K2 _ ?_
 refine yS fun _ K14 => ?_
 refine yS fun _ K15 => ?_
 refine yR ?_
 refine yM rfl rfl ?_
 refine aa rfl (gk rfl rfl rfl) ?_
 refine yN ?_
 dsimp only [St.put]
 refine K15 _ ?_
 refine aq rfl (fun hc => ?_) (fun hc => ?_)
 ·try replace hc := of_decide_eq_true hc
  refine yS fun _ K16 => ?_
  refine yR ?_
  refine yM rfl rfl ?_
  refine yA rfl rfl ?_
  refine yA rfl rfl ?_
  refine yA rfl rfl ?_
  refine yN ?_
  dsimp only [St.put]
  refine K16 _ ?_
  refine ar ?_
  refine ui4 rfl (ey (by constructor)) (ey (by constructor)) (ey (by constructor)) zN zS ?_ ?_ ?_
  ·rw [nt hL]; exact zW
  ·rw [nt hL]; exact zW
  exact zW
 exact absurd (i5 hc) hL
set_option maxHeartbeats 1000000 in
theorem upu (n : Nat) (p : ah) (m : Int) : gd n f8 Tryz.prog 58 [val p, .v (.int .i64 m)] (.tup [lst (l6 p m), .v (.int .i64 (j0 p m))]) := fun G nx hF hnx => by
 refine jg (G) (nx) Tryz.func58 rfl (.tup (ce (bv _ _) (ce .v dq))) zN (fun hlt => zH) ?_
 simp only [Tryz.ntmps58, List.length_cons, List.length_nil, Nat.reduceAdd, Nat.reduceSub]
 refine cb fun hlt => ?_
 dsimp only at hlt
 refine yS fun _ K1 => ?_
 refine yR ?_
 try dsimp only [St.put]
 refine yB rfl rfl rfl ?_
 try dsimp only [St.put]
 refine yB rfl rfl rfl ?_
 refine yA rfl rfl ?_
 refine yA rfl rfl ?_
 refine yN ?_
 dsimp only [St.put]
 refine K1 _ ?_
 refine yS fun _ K2 => ?_
 refine yR ?_
 refine yE rfl rfl rfl ?_
 try dsimp only [St.put]
 refine ae rfl (fa rfl rfl rfl (qz n p) zG (by dsimp only [St.put]; omega) ?_)
 refine yM rfl rfl ?_
 refine yX rfl rfl rfl rfl ?_
 refine yX rfl rfl rfl rfl ?_
 refine yA rfl rfl ?_
 refine yA rfl rfl ?_
 refine yN ?_
 dsimp only [St.put]
 refine K2 _ ?_
 refine yS fun _ K3 => ?_
 refine yS fun _ K4 => ?_
 refine yR ?_
 refine yM rfl rfl ?_
 refine aa rfl (gk rfl rfl rfl) ?_
 refine yN ?_
 dsimp only [St.put]
 refine K4 _ ?_
 refine aq rfl (fun hc => ?_) (fun hc => ?_)
 ·have h0 : dc p ≠ 0 := ke hc
  have hE : j0 p m = dc p := uto h0
  have hV : l6 p m = [] := by unfold l6; rw [hE, nt h0]
  refine yS fun _ K5 => ?_
  refine yR ?_
  refine yM rfl rfl ?_
  refine yA rfl rfl ?_
  refine yA rfl rfl ?_
  refine yN ?_
  dsimp only [St.put]
  refine K5 _ ?_
  refine ar ?_
  refine i7 rfl (ey (by constructor)) (ey (by constructor)) zN zS ?_ ?_
  ·rw [hV]; exact zW
  rw [hE]; exact zW
 have h0 : dc p = 0 := i5 hc
 obtain ⟨hok, _⟩ := nk h0
 have hnp := hok.np
 refine ax ?_
 refine K3 _ ?_
 refine yS fun _ K6 => ?_
 refine yS fun _ K7 => ?_
 refine yR ?_
 refine yL rfl rfl rfl ?_
 refine aa rfl (ck rfl rfl rfl) ?_
 refine yN ?_
 dsimp only [St.put]
 refine K7 _ ?_
 refine aq rfl (fun hc => ?_) (fun hc => ?_)
 ·have hm : m < 0 := of_decide_eq_true hc
  have hE : j0 p m = 2 := utn h0 hm
  have hV : l6 p m = [] := by unfold l6; rw [hE, nt (by decide)]
  refine yS fun _ K8 => ?_
  refine yR ?_
  refine yA rfl rfl ?_
  refine yA rfl rfl ?_
  refine yN ?_
  dsimp only [St.put]
  refine K8 _ ?_
  refine ar ?_
  refine i7 rfl (ey (by constructor)) (ey (by constructor)) zN zS ?_ ?_
  ·rw [hV]; exact zW
  rw [hE]; exact zW
 have hm : ¬ m < 0 := of_decide_eq_false hc
 refine ax ?_
 refine K6 _ ?_
 refine yS fun _ K9 => ?_
 by_cases hL : gm p (dc p) = 0
 ·refine yR ?_
  refine yM rfl rfl ?_
  refine yM rfl rfl ?_
  try dsimp only [St.put]
  refine ae rfl (fa rfl rfl rfl (w7 n p (k7 p) (dc p) su hL) zG (by dsimp only [St.put]; omega) ?_)
  refine yM rfl rfl ?_
  refine yX rfl rfl rfl rfl ?_
  refine yX rfl rfl rfl rfl ?_
  try dsimp only [St.put]
  refine ae rfl (dx rfl ?_)
  try dsimp only [St.put]
  refine ae rfl (di rfl rfl rfl zG rfl rfl (by rfl) ?_)
  refine yA rfl rfl ?_
  refine yN ?_
  dsimp only [St.put]
  refine K9 _ ?_
  refine gg (i := 8) rfl zG zC ?_
  dsimp only
  refine yS fun _ K10 => ?_
  refine yS fun _ K11 => ?_
  refine yR ?_
  refine yM rfl rfl ?_
  refine aa rfl (gk rfl rfl rfl) ?_
  refine yN ?_
  dsimp only [St.put]
  refine K11 _ ?_
  refine aq rfl (fun hc => ?_) (fun hc => ?_)
  ·exact absurd hc (by decide)
  have hTB := (u9 hL).2
  have hE : j0 p m = 0 := utm h0 hm hTB
  have hV : l6 p m = qg (yf p m) p.pages.length := by unfold l6; rw [hE, s7]
  refine ax ?_
  refine K10 _ ?_
  refine yS fun _ K12 => ?_
  refine yR ?_
  refine yF rfl rfl rfl rfl ?_
  refine yL rfl rfl rfl ?_
  refine aa rfl (bp rfl rfl (List.length_map _)) ?_
  try dsimp only [St.put]
  refine ae rfl (ba rfl rfl rfl (ue4 p.pages.length) ?_)
  refine aa rfl (tn rfl rfl) ?_
  try dsimp only [St.put]
  refine ae rfl (fa rfl rfl rfl (uio n p.pages.length (yf p m) 77 [.elem (cells (ib p (dh p) (d9 p))), .elem [.v (.int .i64 m)]] hnp (ufl p _ _ _) (fun s _ => upv p m s _ hok (by have := xl p.pages.length s; omega) (fun z hz => by obtain ⟨i, rfl, hi, _⟩ := membersL_mem.1 hz; omega))) zG (by dsimp only [St.put]; omega) ?_)
  refine yA rfl rfl ?_
  refine yA rfl rfl ?_
  refine yN ?_
  dsimp only [St.put]
  refine K12 _ ?_
  refine ar ?_
  refine i7 rfl (ey (by constructor)) (ey (by constructor)) zN zS ?_ ?_
  ·rw [hV]; exact zW
  rw [hE]; exact zW
 refine yR ?_
 refine yM rfl rfl ?_
 refine yM rfl rfl ?_
 try dsimp only [St.put]
 refine ae rfl (fa rfl rfl rfl (w8 n p (k7 p) (dc p) su hL) zG (by dsimp only [St.put]; omega) ?_)
 refine yM rfl rfl ?_
 refine yX rfl rfl rfl rfl ?_
 refine yX rfl rfl rfl rfl ?_
 try dsimp only [St.put]
 refine ae rfl (dx rfl ?_)
 try dsimp only [St.put]
 refine ae rfl (di rfl rfl rfl zG rfl rfl (by rfl) ?_)
 refine yA rfl rfl ?_
 refine yN ?_
 dsimp only [St.put]
 refine K9 _ ?_
 refine gg (i := 8) rfl zG zC ?_
 dsimp only
 refine yS fun _ K13 => ?_
 refine yS fun _ K14 => ?_
 refine yR ?_
 refine yM rfl rfl ?_
 refine aa rfl (gk rfl rfl rfl) ?_
 refine yN ?_
 dsimp only [St.put]
 refine K14 _ ?_
 refine aq rfl (fun hc => ?_) (fun hc => ?_)
 ·have hTB : j6 p = false := by
   cases h : j6 p
   ·rfl
   exact absurd (by rw [h0, u7, h]; rfl) hL
  have hE : j0 p m = 8 := utp h0 hm hTB
  have hV : l6 p m = [] := by unfold l6; rw [hE, nt (by decide)]
  have hL8 : gm p (dc p) = 8 := by rw [h0, u7, hTB]; rfl
  refine yS fun _ K15 => ?_
  refine yR ?_
  refine yM rfl rfl ?_
  refine yA rfl rfl ?_
  refine yA rfl rfl ?_
  refine yN ?_
  dsimp only [St.put]
  refine K15 _ ?_
  refine ar ?_
  refine i7 rfl (ey (by constructor)) (ey (by constructor)) zN zS ?_ ?_
  ·rw [hV]; exact zW
  rw [hE, hL8]; exact zW
 exact absurd (i5 hc) hL
end Go.Proofs.YtgffhbbcpgdjjaaGreatDoor
namespace Go.AB
open Go Go.RowKit
open Go.AB.Enc (cells)
open Go.PB (ay aj PlaceD bg bi bh bn ak ah cr bq dr dt)
def th (p : ah) : Bool := !nh p && decide (dc p = 0)
section
variable {P : Program} {o : Oper} {st : St} {K : St → Prop}
/-- What stands in a slot is known less well, ahead of an operation. -/
theorem e_wk (i : Nat) {c : C} (c' : C) (h0 : st.at i = c) (hw : Wk c c') (h : EStep P o { st with r := (i, c') :: st.r } K) : EStep P o st K := by
 intro E w a hs
 have hp := hs.at i
 rw [h0] at hp
 refine h E w a ⟨hs.d, hs.sz, fun j v hj => ?_, hs.g⟩
 simp only [bz]
 cases hb : Nat.beq i j
 ·exact hs.t j v hj
 have hij := Nat.eq_of_beq_eq_true hb
 subst hij
 have hv : a.tmps.getD i undef = v := by rw [Array.getD_eq_getD_getElem?, hj]; rfl
 rw [hv] at hp
 exact hw.2 _ _ _ hp
end
theorem n3 {α : Type} [Enc α] (l : List α) : ∀ r ∈ l.map cells, r.length = Enc.n α := fun r hr => by
 obtain ⟨y, _, rfl⟩ := List.mem_map.1 hr
 exact Enc.len y
theorem readyP_true {p : ah} : th p = true ↔ nh p = false ∧ dc p = 0 := by simp [th]
end Go.AB
namespace Go.Proofs.YtgffhbbcpgdjjaaGreatDoor
set_option maxRecDepth 10000
open Go Go.RowKit Go.AB
open Go.AB.Enc (cells)
open Go.PB (ay aj PlaceD bg bi bh bn ak ah cr bq dr dt)
theorem uht (a : List PlaceD) : Pure Tryz.prog 27 [lst a, lst a] (.v (.bool true)) := by
 have := uu1 a a
 rwa [decide_eq_true rfl] at this
theorem uhu (a : List Int) (ha : a.length ≤ 1000) : Pure Tryz.prog 31 [lst a, lst a] (.v (.bool true)) := by
 have := ufr a a ha
 rwa [decide_eq_true rfl] at this
theorem tu (a b c : Int) : Pure Tryz.prog 29 [.v (.int .i64 a), .v (.int .i64 b), .v (.int .i64 c)] (val (⟨a, b, c⟩ : PlaceD)) := by
 refine dg Tryz.func29 rfl (fun m => (eu _ _)) fun G nx => ?_
 simp only [Tryz.ntmps29, List.length_cons, List.length_nil, Nat.reduceAdd, Nat.reduceSub]
 refine cb fun hlt => ?_
 dsimp only at hlt
 refine yS fun _ K1 => ?_
 refine yR ?_
 try dsimp only [St.put]
 refine ae rfl (dx rfl ?_)
 refine yN ?_
 dsimp only [St.put]
 refine K1 _ ?_
 refine yS fun _ K2 => ?_
 refine yR ?_
 refine yM rfl rfl ?_
 refine yM rfl rfl ?_
 refine yM rfl rfl ?_
 refine aa rfl (iz rfl rfl) ?_
 try dsimp only [St.put]
 refine ae rfl (di rfl rfl rfl zG rfl rfl (by rfl) ?_)
 refine yN ?_
 dsimp only [St.put]
 refine K2 _ ?_
 refine ar ?_
 refine qd rfl (ky rfl zG (by rfl) zC rfl) zN zS ?_
 exact zW
theorem xv (l : List PlaceD) : Pure Tryz.prog 28 [lst l] (lst l) := by
 refine dg Tryz.func28 rfl (fun m => (bv _ _)) fun G nx => ?_
 simp only [Tryz.ntmps28, List.length_cons, List.length_nil, Nat.reduceAdd, Nat.reduceSub]
 refine cb fun hlt => ?_
 dsimp only at hlt
 refine yS fun _ K1 => ?_
 refine yR ?_
 refine yA rfl rfl ?_
 refine yN ?_
 dsimp only [St.put]
 refine K1 _ ?_
 refine yS fun _ K2 => ?_
 refine yR ?_
 refine yM rfl rfl ?_
 refine yA rfl rfl ?_
 refine yN ?_
 dsimp only [St.put]
 refine K2 _ ?_
 refine ar ?_
 refine bj rfl (by constructor) zN zS ?_
 rfl
theorem p8 : Pure Tryz.prog 23 [] (val exPr) := by
 refine dg Tryz.func23 rfl (fun m => (eu _ _)) fun G nx => ?_
 simp only [Tryz.ntmps23, List.length_cons, List.length_nil, Nat.reduceAdd, Nat.reduceSub]
 refine cb fun hlt => ?_
 dsimp only at hlt
 refine yS fun _ K1 => ?_
 refine yR ?_
 try dsimp only [St.put]
 refine ae rfl (dx rfl ?_)
 refine yN ?_
 dsimp only [St.put]
 refine K1 _ ?_
 refine yS fun _ K2 => ?_
 refine yR ?_
 try dsimp only [St.put]
 refine ae rfl (ef (rows := ([pg, jr, xIs, ph] : List ByteArray).map cells) rfl rfl rfl (by decide) (by decide) (n3 _) (by decide) ?_)
 try dsimp only [St.put]
 refine ae rfl (ef (rows := ([ph, pg, jr] : List ByteArray).map cells) rfl rfl rfl (by decide) (by decide) (n3 _) (by decide) ?_)
 try dsimp only [St.put]
 refine ae rfl (ef (rows := ([[pg, jr, xIs, ph], [ph, pg, jr]] : List (List ByteArray)).map cells) rfl rfl rfl (by decide) (by decide) (n3 _) (by decide) ?_)
 refine aa rfl (iz (cs := cells (⟨7, [[pg, jr, xIs, ph], [ph, pg, jr]]⟩ : ay)) rfl rfl) ?_
 try dsimp only [St.put]
 refine ae rfl (ef (rows := ([jr, v6, jr] : List ByteArray).map cells) rfl rfl rfl (by decide) (by decide) (n3 _) (by decide) ?_)
 try dsimp only [St.put]
 refine ae rfl (ef (rows := ([[jr, v6, jr]] : List (List ByteArray)).map cells) rfl rfl rfl (by decide) (by decide) (n3 _) (by decide) ?_)
 refine aa rfl (iz (cs := cells (⟨3, [[jr, v6, jr]]⟩ : ay)) rfl rfl) ?_
 try dsimp only [St.put]
 refine ae rfl (ef (rows := ([⟨7, [[pg, jr, xIs, ph], [ph, pg, jr]]⟩, ⟨3, [[jr, v6, jr]]⟩] : List ay).map cells) rfl rfl rfl (by decide) (by decide) (n3 _) (by decide) ?_)
 refine aa rfl (iz (cs := [lst exTx]) rfl rfl) ?_
 refine aa rfl (iz (cs := cells (⟨1, 50⟩ : bn)) rfl rfl) ?_
 refine aa rfl (iz (cs := cells (⟨2, 0⟩ : bn)) rfl rfl) ?_
 try dsimp only [St.put]
 refine ae rfl (ef (rows := ([⟨1, 50⟩, ⟨2, 0⟩] : List bn).map cells) rfl rfl rfl (by decide) (by decide) (n3 _) (by decide) ?_)
 refine aa rfl (iz (cs := cells (⟨3, 60⟩ : bn)) rfl rfl) ?_
 try dsimp only [St.put]
 refine ae rfl (ef (rows := ([⟨3, 60⟩] : List bn).map cells) rfl rfl rfl (by decide) (by decide) (n3 _) (by decide) ?_)
 try dsimp only [St.put]
 refine ae rfl (ba rfl rfl rfl (tu _ _ _) ?_)
 try dsimp only [St.put]
 refine ae rfl (ef (rows := ([⟨0, 0, 0⟩] : List PlaceD).map cells) rfl rfl rfl (by decide) (by decide) (n3 _) (by decide) ?_)
 try dsimp only [St.put]
 refine ae rfl (ba rfl rfl rfl (xv [⟨0, 0, 0⟩]) ?_)
 try dsimp only [St.put]
 refine ae rfl (ba rfl rfl rfl (tu _ _ _) ?_)
 try dsimp only [St.put]
 refine ae rfl (ba rfl rfl rfl (tu _ _ _) ?_)
 try dsimp only [St.put]
 refine ae rfl (ef (rows := ([⟨0, 0, 0⟩, ⟨0, 0, 3⟩] : List PlaceD).map cells) rfl rfl rfl (by decide) (by decide) (n3 _) (by decide) ?_)
 try dsimp only [St.put]
 refine ae rfl (ba rfl rfl rfl (xv [⟨0, 0, 0⟩, ⟨0, 0, 3⟩]) ?_)
 refine aa rfl (iz (cs := cells (⟨0, 0, 0, 0, [⟨0, 0, 0⟩], [⟨0, 0, 0⟩, ⟨0, 0, 3⟩]⟩ : ak)) rfl rfl) ?_
 try dsimp only [St.put]
 refine ae rfl (ba rfl rfl rfl (tu _ _ _) ?_)
 try dsimp only [St.put]
 refine ae rfl (ef (rows := ([⟨0, 1, 1⟩] : List PlaceD).map cells) rfl rfl rfl (by decide) (by decide) (n3 _) (by decide) ?_)
 try dsimp only [St.put]
 refine ae rfl (ba rfl rfl rfl (xv [⟨0, 1, 1⟩]) ?_)
 refine aa rfl (iz (cs := [.v (.int .i64 1), .v (.int .i64 2), .v (.int .i64 0), .v (.int .i64 (-1)), lst ([⟨0, 1, 1⟩] : List PlaceD), .list [] .nil]) rfl rfl) ?_
 try dsimp only [St.put]
 refine ae rfl (e_wk 26 (val (⟨1, 2, 0, -1, [⟨0, 1, 1⟩], []⟩ : ak)) rfl (by show Wk _ (.agg _); exact zW) ?_)
 dsimp only
 refine ef (rows := ([⟨0, 0, 0, 0, [⟨0, 0, 0⟩], [⟨0, 0, 0⟩, ⟨0, 0, 3⟩]⟩, ⟨1, 2, 0, -1, [⟨0, 1, 1⟩], []⟩] : List ak).map cells) rfl rfl rfl (by decide) (by decide) (n3 _) (by decide) ?_
 refine aa rfl (iz (cs := [lst exTx, lst exPr.firsts, lst exPr.seconds, lst exPr.pages]) rfl rfl) ?_
 try dsimp only [St.put]
 refine ae rfl (di rfl rfl rfl zG rfl rfl (by rfl) ?_)
 refine yN ?_
 dsimp only [St.put]
 refine K2 _ ?_
 refine ar ?_
 refine qd rfl (ky rfl zG (by rfl) zC rfl) zN zS ?_
 exact zW
theorem urt (n : Nat) (b : Bool) (r want : Int) : gd n f8 Tryz.prog 30 [.v (.bool b), .v (.int .i64 r), .v (.int .i64 want)] (.v (.bool (decide (lh exPr b r = 0) && decide (pa exPr b r = want)))) := fun G nx hF hnx => by
 refine jg (G) (nx) Tryz.func30 rfl (.v) zN (fun hlt => zH) ?_
 simp only [Tryz.ntmps30, List.length_cons, List.length_nil, Nat.reduceAdd, Nat.reduceSub]
 refine cb fun hlt => ?_
 dsimp only at hlt
 refine yS fun _ K1 => ?_
 refine yR ?_
 refine yA rfl rfl ?_
 refine yN ?_
 dsimp only [St.put]
 refine K1 _ ?_
 refine yS fun _ K2 => ?_
 refine yR ?_
 try dsimp only [St.put]
 refine ae rfl (ba rfl rfl rfl (p8) ?_)
 refine yM rfl rfl ?_
 refine yM rfl rfl ?_
 try dsimp only [St.put]
 refine ae rfl (fa rfl rfl rfl (ugh n exPr b r) zG (by dsimp only [St.put]; omega) ?_)
 refine yM rfl rfl ?_
 refine yX rfl rfl rfl rfl ?_
 refine yX rfl rfl rfl rfl ?_
 refine yA rfl rfl ?_
 refine yA rfl rfl ?_
 refine yN ?_
 dsimp only [St.put]
 refine K2 _ ?_
 refine yS fun _ K3 => ?_
 refine yR ?_
 refine yM rfl rfl ?_
 refine aa rfl (gl rfl rfl rfl) ?_
 refine ff (fun hs => ?_) (fun hs => ?_)
 ·have h1 : decide (lh exPr b r = 0) = true := hs
  refine yM rfl rfl ?_
  refine yM rfl rfl ?_
  refine yM rfl rfl ?_
  refine aa rfl (gl rfl rfl rfl) ?_
  refine aa rfl (ci rfl rfl (by constructor)) ?_
  refine yA rfl rfl ?_
  refine yN ?_
  dsimp only [St.put]
  refine K3 _ ?_
  refine ar ?_
  refine bj rfl (by constructor) zN zS ?_
  exact vb (by rw [h1]; rfl)
 have h1 : decide (lh exPr b r = 0) = false := hs
 refine yM rfl rfl ?_
 refine yK rfl ?_
 refine yK rfl ?_
 refine yK rfl ?_
 refine aa rfl (cz rfl rfl (by constructor)) ?_
 refine yA rfl rfl ?_
 refine yN ?_
 dsimp only [St.put]
 refine K3 _ ?_
 refine ar ?_
 refine bj rfl (by constructor) zN zS ?_
 exact vb (by rw [h1]; rfl)
theorem urs (n : Nat) (m : Int) (want : List Int) : gd n f8 Tryz.prog 32 [.v (.int .i64 m), lst want] (.v (.bool (decide (j0 exPr m = 0) && decide (l6 exPr m = want)))) := fun G nx hF hnx => by
 refine jg (G) (nx) Tryz.func32 rfl (.v) zN (fun hlt => zH) ?_
 simp only [Tryz.ntmps32, List.length_cons, List.length_nil, Nat.reduceAdd, Nat.reduceSub]
 refine cb fun hlt => ?_
 dsimp only at hlt
 have hcl : (l6 exPr m).length ≤ 1000 := by
  unfold l6 atE
  cases decide (j0 exPr m = 0)
  ·exact Nat.zero_le _
  have := ujx (yf exPr m) exPr.pages.length
  have e : exPr.pages.length = 2 := rfl
  show (qg (yf exPr m) exPr.pages.length).length ≤ 1000
  omega
 refine yS fun _ K1 => ?_
 refine yR ?_
 refine yA rfl rfl ?_
 refine yN ?_
 dsimp only [St.put]
 refine K1 _ ?_
 refine yS fun _ K2 => ?_
 refine yR ?_
 try dsimp only [St.put]
 refine ae rfl (ba rfl rfl rfl (p8) ?_)
 refine yM rfl rfl ?_
 try dsimp only [St.put]
 refine ae rfl (fa rfl rfl rfl (upu n exPr m) zG (by dsimp only [St.put]; omega) ?_)
 refine yM rfl rfl ?_
 refine yX rfl rfl rfl rfl ?_
 refine yX rfl rfl rfl rfl ?_
 refine yA rfl rfl ?_
 refine yA rfl rfl ?_
 refine yN ?_
 dsimp only [St.put]
 refine K2 _ ?_
 refine yS fun _ K3 => ?_
 refine yR ?_
 refine yM rfl rfl ?_
 refine aa rfl (gl rfl rfl rfl) ?_
 refine ff (fun hs => ?_) (fun hs => ?_)
 ·have h1 : decide (j0 exPr m = 0) = true := hs
  refine yM rfl rfl ?_
  refine yM rfl rfl ?_
  refine yM rfl rfl ?_
  try dsimp only [St.put]
  refine ae rfl (ba rfl rfl rfl (ufr (l6 exPr m) want hcl) ?_)
  refine aa rfl (ci rfl rfl (by constructor)) ?_
  refine yA rfl rfl ?_
  refine yN ?_
  dsimp only [St.put]
  refine K3 _ ?_
  refine ar ?_
  refine bj rfl (by constructor) zN zS ?_
  exact vb (by rw [h1]; rfl)
 have h1 : decide (j0 exPr m = 0) = false := hs
 refine yM rfl rfl ?_
 refine yK rfl ?_
 refine yK rfl ?_
 refine yK rfl ?_
 refine aa rfl (cz rfl rfl (by constructor)) ?_
 refine yA rfl rfl ?_
 refine yN ?_
 dsimp only [St.put]
 refine K3 _ ?_
 refine ar ?_
 refine bj rfl (by constructor) zN zS ?_
 exact vb (by rw [h1]; rfl)
theorem uun (n : Nat) : gd n f8 Tryz.prog 17 [val exPr, .v (.int .i64 1)] (.tup [.v (.int .i64 6), .v (.int .i64 0)]) := by
 have := upi n exPr 1
 rwa [xp_words.1, xp_words.2.1] at this
theorem uur (n : Nat) : gd n f8 Tryz.prog 18 [val exPr, .v (.int .i64 0)] (.tup [lst ([⟨0, 0, 0⟩, ⟨0, 0, 3⟩] : List PlaceD), .v (.int .i64 0)]) := by
 have := ugg n exPr 0
 rwa [xp_found.1, xp_words.2.2.2] at this
theorem uuu (n : Nat) : gd n f8 Tryz.prog 19 [val exPr, .v (.int .i64 0)] (.tup [lst ([⟨0, 0, 0⟩] : List PlaceD), .v (.int .i64 0)]) := by
 have := upw n exPr 0
 rwa [xp_found.2, xp_words.2.2.2] at this
theorem uuq (n : Nat) : gd n f8 Tryz.prog 24 [val exPr, .v (.int .i64 0)] (.tup [val (⟨2, 2⟩ : bq), .v (.int .i64 0)]) := by
 have := upt n exPr 0
 rwa [xp_guess.1, xp_guess.2] at this
theorem uup (n : Nat) : gd n f8 Tryz.prog 14 [val exPr, .v (.int .i64 1)] (.tup [val (⟨0, 1⟩ : bq), .v (.int .i64 0)]) := by
 have := ugc n exPr 1
 rwa [xp_remain.1, xp_remain.2.1] at this
theorem uuo (n : Nat) : gd n f8 Tryz.prog 15 [val exPr] (.tup [val (⟨0, 1⟩ : bq), .v (.int .i64 0)]) := by
 have := ugb n exPr
 rwa [uk1, yn] at this
theorem uum (n : Nat) : gd n f8 Tryz.prog 25 [val exPr] (.tup [lst ([1, 0] : List Int), .v (.int .i64 0)]) := by
 have := uph n exPr
 rwa [uk0, yn] at this
theorem alWhy (n : Nat) : gd n f8 Tryz.prog 26 [val exPr] (.tup [lst ([0] : List Int), lst ([] : List Int), .v (.int .i64 0)]) := by
 have := upl n exPr
 rwa [yn, s7, s7, xp_why.1, xp_why.2] at this
theorem uut (n : Nat) : gd n f8 Tryz.prog 30 [.v (.bool false), .v (.int .i64 0), .v (.int .i64 4)] (.v (.bool true)) := by
 have := urt n false 0 4
 rwa [xp_bound.1, xp_bound.2.1] at this
theorem uus (n : Nat) : gd n f8 Tryz.prog 32 [.v (.int .i64 0), lst ([0, 1] : List Int)] (.v (.bool true)) := by
 have := urs n 0 [0, 1]
 rwa [xp_chief.1, xp_chief.2.1] at this
set_option maxHeartbeats 4000000 in
theorem uul (n : Nat) : gd n f8 Tryz.prog 5 [] (.v (.bool true)) := fun G nx hF hnx => by
 refine jg (G) (nx) Tryz.func5 rfl (.v) zN (fun hlt => zH) ?_
 simp only [Tryz.ntmps5, List.length_cons, List.length_nil, Nat.reduceAdd, Nat.reduceSub]
 refine cb fun hlt => ?_
 dsimp only at hlt
 refine yS fun _ K1 => ?_
 refine yR ?_
 refine yA rfl rfl ?_
 refine yN ?_
 dsimp only [St.put]
 refine K1 _ ?_
 refine yS fun _ K2 => ?_
 refine yR ?_
 try dsimp only [St.put]
 refine ae rfl (ba rfl rfl rfl (p8) ?_)
 try dsimp only [St.put]
 refine ae rfl ((fa rfl rfl rfl ((uun n)) zG (by dsimp only [St.put]; omega) ?_))
 refine yM rfl rfl ?_
 refine yX rfl rfl rfl rfl ?_
 refine yX rfl rfl rfl rfl ?_
 refine yA rfl rfl ?_
 refine yA rfl rfl ?_
 refine yN ?_
 dsimp only [St.put]
 refine K2 _ ?_
 refine yS fun _ K3 => ?_
 refine yR ?_
 try dsimp only [St.put]
 refine ae rfl (ba rfl rfl rfl (p8) ?_)
 try dsimp only [St.put]
 refine ae rfl ((fa rfl rfl rfl ((uur n)) zG (by dsimp only [St.put]; omega) ?_))
 refine yM rfl rfl ?_
 refine yX rfl rfl rfl rfl ?_
 refine yX rfl rfl rfl rfl ?_
 refine yA rfl rfl ?_
 refine yA rfl rfl ?_
 refine yN ?_
 dsimp only [St.put]
 refine K3 _ ?_
 refine yS fun _ K4 => ?_
 refine yR ?_
 try dsimp only [St.put]
 refine ae rfl (ba rfl rfl rfl (p8) ?_)
 try dsimp only [St.put]
 refine ae rfl ((fa rfl rfl rfl ((uuu n)) zG (by dsimp only [St.put]; omega) ?_))
 refine yM rfl rfl ?_
 refine yX rfl rfl rfl rfl ?_
 refine yX rfl rfl rfl rfl ?_
 refine yA rfl rfl ?_
 refine yA rfl rfl ?_
 refine yN ?_
 dsimp only [St.put]
 refine K4 _ ?_
 refine yS fun _ K5 => ?_
 refine yR ?_
 try dsimp only [St.put]
 refine ae rfl (ba rfl rfl rfl (p8) ?_)
 try dsimp only [St.put]
 refine ae rfl ((fa rfl rfl rfl ((uuq n)) zG (by dsimp only [St.put]; omega) ?_))
 refine yM rfl rfl ?_
 refine yX rfl rfl rfl rfl ?_
 refine yX rfl rfl rfl rfl ?_
 try dsimp only [St.put]
 refine ae rfl (dx rfl ?_)
 try dsimp only [St.put]
 refine ae rfl (di rfl rfl rfl zG rfl rfl (by rfl) ?_)
 refine yA rfl rfl ?_
 refine yN ?_
 dsimp only [St.put]
 refine K5 _ ?_
 refine gg (i := 7) rfl zG zC ?_
 dsimp only
 refine yS fun _ K6 => ?_
 refine yR ?_
 try dsimp only [St.put]
 refine ae rfl (ba rfl rfl rfl (p8) ?_)
 try dsimp only [St.put]
 refine ae rfl ((fa rfl rfl rfl ((uup n)) zG (by dsimp only [St.put]; omega) ?_))
 refine yM rfl rfl ?_
 refine yX rfl rfl rfl rfl ?_
 refine yX rfl rfl rfl rfl ?_
 try dsimp only [St.put]
 refine ae rfl (dx rfl ?_)
 try dsimp only [St.put]
 refine ae rfl (di rfl rfl rfl zG rfl rfl (by rfl) ?_)
 refine yA rfl rfl ?_
 refine yN ?_
 dsimp only [St.put]
 refine K6 _ ?_
 refine gg (i := 9) rfl zG zC ?_
 dsimp only
 refine yS fun _ K7 => ?_
 refine yR ?_
 try dsimp only [St.put]
 refine ae rfl (ba rfl rfl rfl (p8) ?_)
 try dsimp only [St.put]
 refine ae rfl ((fa rfl rfl rfl ((uuo n)) zG (by dsimp only [St.put]; omega) ?_))
 refine yM rfl rfl ?_
 refine yX rfl rfl rfl rfl ?_
 refine yX rfl rfl rfl rfl ?_
 try dsimp only [St.put]
 refine ae rfl (dx rfl ?_)
 try dsimp only [St.put]
 refine ae rfl (di rfl rfl rfl zG rfl rfl (by rfl) ?_)
 refine yA rfl rfl ?_
 refine yN ?_
 dsimp only [St.put]
 refine K7 _ ?_
 refine gg (i := 11) rfl zG zC ?_
 dsimp only
 refine yS fun _ K8 => ?_
 refine yR ?_
 try dsimp only [St.put]
 refine ae rfl (ba rfl rfl rfl (p8) ?_)
 try dsimp only [St.put]
 refine ae rfl ((fa rfl rfl rfl ((uum n)) zG (by dsimp only [St.put]; omega) ?_))
 refine yM rfl rfl ?_
 refine yX rfl rfl rfl rfl ?_
 refine yX rfl rfl rfl rfl ?_
 refine yA rfl rfl ?_
 refine yA rfl rfl ?_
 refine yN ?_
 dsimp only [St.put]
 refine K8 _ ?_
 refine yS fun _ K9 => ?_
 refine yR ?_
 try dsimp only [St.put]
 refine ae rfl (ba rfl rfl rfl (p8) ?_)
 try dsimp only [St.put]
 refine ae rfl ((fa rfl rfl rfl ((alWhy n)) zG (by dsimp only [St.put]; omega) ?_))
 refine yM rfl rfl ?_
 refine yX rfl rfl rfl rfl ?_
 refine yX rfl rfl rfl rfl ?_
 refine yX rfl rfl rfl rfl ?_
 refine yA rfl rfl ?_
 refine yA rfl rfl ?_
 refine yA rfl rfl ?_
 refine yN ?_
 dsimp only [St.put]
 refine K9 _ ?_
 refine yS fun _ K10 => ?_
 refine cm 18 ?_
 refine zQ ?_
 refine dm G zX ?_
 dsimp only
 refine yR ?_
 refine yM rfl rfl ?_
 refine aa rfl (fu (gl rfl rfl rfl) (decide_eq_true (by omega))) ?_
 refine yM rfl rfl ?_
 refine yM rfl rfl ?_
 ((first | refine aa rfl ((fu (c := true) (gl rfl rfl rfl) (decide_eq_true rfl))) ?_ | refine af rfl rfl rfl rfl ((fu (c := true) (gl rfl rfl rfl) (decide_eq_true rfl))) ?_ | refine ec rfl rfl rfl rfl ((fu (c := true) (gl rfl rfl rfl) (decide_eq_true rfl))) ?_ | refine yj rfl rfl rfl ((fu (c := true) (gl rfl rfl rfl) (decide_eq_true rfl))) ?_))
 refine aa rfl (ci rfl rfl (by constructor)) ?_
 refine yM rfl rfl ?_
 refine yM rfl rfl ?_
 refine aa rfl (fu (gl rfl rfl rfl) (decide_eq_true (by omega))) ?_
 refine aa rfl (ci rfl rfl (by constructor)) ?_
 refine yM rfl rfl ?_
 refine yM rfl rfl ?_
 try dsimp only [St.put]
 refine ae rfl (ba rfl rfl rfl (tu _ _ _) ?_)
 try dsimp only [St.put]
 refine ae rfl (ba rfl rfl rfl (tu _ _ _) ?_)
 try dsimp only [St.put]
 refine ae rfl (ef rfl rfl rfl (by decide) (by decide) zR (by decide) ?_)
 try dsimp only [St.put]
 refine ae rfl (ba rfl rfl rfl (xv [⟨0, 0, 0⟩, ⟨0, 0, 3⟩]) ?_)
 try dsimp only [St.put]
 refine ae rfl (ba rfl rfl rfl (uht [⟨0, 0, 0⟩, ⟨0, 0, 3⟩]) ?_)
 refine aa rfl (ci rfl rfl (by constructor)) ?_
 refine yM rfl rfl ?_
 refine yM rfl rfl ?_
 refine aa rfl (fu (gl rfl rfl rfl) (decide_eq_true (by omega))) ?_
 refine aa rfl (ci rfl rfl (by constructor)) ?_
 refine yM rfl rfl ?_
 refine yM rfl rfl ?_
 try dsimp only [St.put]
 refine ae rfl (ba rfl rfl rfl (tu _ _ _) ?_)
 try dsimp only [St.put]
 refine ae rfl (ef rfl rfl rfl (by decide) (by decide) zR (by decide) ?_)
 try dsimp only [St.put]
 refine ae rfl (ba rfl rfl rfl (xv [⟨0, 0, 0⟩]) ?_)
 try dsimp only [St.put]
 refine ae rfl (ba rfl rfl rfl (uht [⟨0, 0, 0⟩]) ?_)
 refine aa rfl (ci rfl rfl (by constructor)) ?_
 refine yM rfl rfl ?_
 try dsimp only [St.put]
 refine ae rfl ((fa rfl rfl rfl ((uut n)) zG (by dsimp only [St.put]; omega) ?_))
 refine aa rfl (ci rfl rfl (by constructor)) ?_
 refine yM rfl rfl ?_
 refine yM rfl rfl ?_
 refine aa rfl (fu (gl rfl rfl rfl) (decide_eq_true (by omega))) ?_
 refine aa rfl (ci rfl rfl (by constructor)) ?_
 refine yM rfl rfl ?_
 refine yE rfl rfl rfl ?_
 refine aa rfl (iz rfl rfl) ?_
 ((first | refine aa rfl ((fu (c := true) (m8 (x := (⟨2, 2⟩ : bq)) (y := (⟨2, 2⟩ : bq)) rfl rfl rfl) (decide_eq_true rfl))) ?_ | refine af rfl rfl rfl rfl ((fu (c := true) (m8 (x := (⟨2, 2⟩ : bq)) (y := (⟨2, 2⟩ : bq)) rfl rfl rfl) (decide_eq_true rfl))) ?_ | refine ec rfl rfl rfl rfl ((fu (c := true) (m8 (x := (⟨2, 2⟩ : bq)) (y := (⟨2, 2⟩ : bq)) rfl rfl rfl) (decide_eq_true rfl))) ?_ | refine yj rfl rfl rfl ((fu (c := true) (m8 (x := (⟨2, 2⟩ : bq)) (y := (⟨2, 2⟩ : bq)) rfl rfl rfl) (decide_eq_true rfl))) ?_))
 refine aa rfl (ci rfl rfl (by constructor)) ?_
 refine yM rfl rfl ?_
 refine yM rfl rfl ?_
 refine aa rfl (fu (gl rfl rfl rfl) (decide_eq_true (by omega))) ?_
 refine aa rfl (ci rfl rfl (by constructor)) ?_
 refine yM rfl rfl ?_
 refine yE rfl rfl rfl ?_
 refine aa rfl (iz rfl rfl) ?_
 ((first | refine aa rfl ((fu (c := true) (m8 (x := (⟨0, 1⟩ : bq)) (y := (⟨0, 1⟩ : bq)) rfl rfl rfl) (decide_eq_true rfl))) ?_ | refine af rfl rfl rfl rfl ((fu (c := true) (m8 (x := (⟨0, 1⟩ : bq)) (y := (⟨0, 1⟩ : bq)) rfl rfl rfl) (decide_eq_true rfl))) ?_ | refine ec rfl rfl rfl rfl ((fu (c := true) (m8 (x := (⟨0, 1⟩ : bq)) (y := (⟨0, 1⟩ : bq)) rfl rfl rfl) (decide_eq_true rfl))) ?_ | refine yj rfl rfl rfl ((fu (c := true) (m8 (x := (⟨0, 1⟩ : bq)) (y := (⟨0, 1⟩ : bq)) rfl rfl rfl) (decide_eq_true rfl))) ?_))
 refine aa rfl (ci rfl rfl (by constructor)) ?_
 refine yM rfl rfl ?_
 refine yM rfl rfl ?_
 refine aa rfl (fu (gl rfl rfl rfl) (decide_eq_true (by omega))) ?_
 refine aa rfl (ci rfl rfl (by constructor)) ?_
 refine yM rfl rfl ?_
 refine yE rfl rfl rfl ?_
 refine aa rfl (iz rfl rfl) ?_
 ((first | refine aa rfl ((fu (c := true) (m8 (x := (⟨0, 1⟩ : bq)) (y := (⟨0, 1⟩ : bq)) rfl rfl rfl) (decide_eq_true rfl))) ?_ | refine af rfl rfl rfl rfl ((fu (c := true) (m8 (x := (⟨0, 1⟩ : bq)) (y := (⟨0, 1⟩ : bq)) rfl rfl rfl) (decide_eq_true rfl))) ?_ | refine ec rfl rfl rfl rfl ((fu (c := true) (m8 (x := (⟨0, 1⟩ : bq)) (y := (⟨0, 1⟩ : bq)) rfl rfl rfl) (decide_eq_true rfl))) ?_ | refine yj rfl rfl rfl ((fu (c := true) (m8 (x := (⟨0, 1⟩ : bq)) (y := (⟨0, 1⟩ : bq)) rfl rfl rfl) (decide_eq_true rfl))) ?_))
 refine aa rfl (ci rfl rfl (by constructor)) ?_
 refine yM rfl rfl ?_
 refine yM rfl rfl ?_
 refine aa rfl (fu (gl rfl rfl rfl) (decide_eq_true (by omega))) ?_
 refine aa rfl (ci rfl rfl (by constructor)) ?_
 refine yM rfl rfl ?_
 refine yM rfl rfl ?_
 try dsimp only [St.put]
 refine ae rfl (ef rfl rfl rfl (by decide) (by decide) zR (by decide) ?_)
 try dsimp only [St.put]
 refine ae rfl (ba rfl rfl rfl (uhu [1, 0] (by decide)) ?_)
 refine aa rfl (ci rfl rfl (by constructor)) ?_
 refine yM rfl rfl ?_
 refine yM rfl rfl ?_
 refine aa rfl (fu (gl rfl rfl rfl) (decide_eq_true (by omega))) ?_
 refine aa rfl (ci rfl rfl (by constructor)) ?_
 refine yM rfl rfl ?_
 refine yM rfl rfl ?_
 try dsimp only [St.put]
 refine ae rfl (ef rfl rfl rfl (by decide) (by decide) zR (by decide) ?_)
 try dsimp only [St.put]
 refine ae rfl (ba rfl rfl rfl (uhu [0] (by decide)) ?_)
 refine aa rfl (ci rfl rfl (by constructor)) ?_
 refine yM rfl rfl ?_
 refine yM rfl rfl ?_
 refine aa rfl (bp rfl rfl (List.length_map _)) ?_
 ((first | refine aa rfl ((fu (c := true) (gl rfl rfl rfl) (decide_eq_true rfl))) ?_ | refine af rfl rfl rfl rfl ((fu (c := true) (gl rfl rfl rfl) (decide_eq_true rfl))) ?_ | refine ec rfl rfl rfl rfl ((fu (c := true) (gl rfl rfl rfl) (decide_eq_true rfl))) ?_ | refine yj rfl rfl rfl ((fu (c := true) (gl rfl rfl rfl) (decide_eq_true rfl))) ?_))
 refine aa rfl (ci rfl rfl (by constructor)) ?_
 refine yM rfl rfl ?_
 try dsimp only [St.put]
 refine ae rfl (ef rfl rfl rfl (by decide) (by decide) zR (by decide) ?_)
 try dsimp only [St.put]
 refine ae rfl ((fa rfl rfl rfl ((uus n)) zG (by dsimp only [St.put]; omega) ?_))
 refine aa rfl (ci rfl rfl (by constructor)) ?_
 refine yA rfl rfl ?_
 refine yN ?_
 dsimp only [St.put]
 refine K10 _ ?_
 refine ar ?_
 refine bj rfl (by constructor) zN zS ?_
 rfl
theorem uhv (p : ah) : Pure Tryz.prog 6 [val p] (.v (.bool (th p))) := by
 refine dg Tryz.func6 rfl (fun m => .v) fun G nx => ?_
 simp only [Tryz.ntmps6, List.length_cons, List.length_nil, Nat.reduceAdd, Nat.reduceSub]
 refine cb fun hlt => ?_
 dsimp only at hlt
 refine yS fun _ K1 => ?_
 refine yR ?_
 try dsimp only [St.put]
 refine yB rfl rfl rfl ?_
 refine yA rfl rfl ?_
 refine yN ?_
 dsimp only [St.put]
 refine K1 _ ?_
 refine yS fun _ K2 => ?_
 refine yR ?_
 refine yE rfl rfl rfl ?_
 try dsimp only [St.put]
 refine ae rfl (ba rfl rfl rfl (uo2 p) ?_)
 refine aa rfl (ei rfl rfl) ?_
 refine yM rfl rfl ?_
 refine ff (fun hs => ?_) (fun hs => ?_)
 ·have h1 : nh p = false := by simpa using hs
  refine yE rfl rfl rfl ?_
  try dsimp only [St.put]
  refine ae rfl (ba rfl rfl rfl (uo3 p) ?_)
  refine aa rfl (gl rfl rfl rfl) ?_
  refine aa rfl (ci rfl rfl (by constructor)) ?_
  refine yA rfl rfl ?_
  refine yN ?_
  dsimp only [St.put]
  refine K2 _ ?_
  refine ar ?_
  refine bj rfl (by constructor) zN zS ?_
  exact vb (by simp [th, h1])
 have h1 : nh p = true := by simpa using hs
 refine yK rfl ?_
 refine yK rfl ?_
 refine yK rfl ?_
 refine aa rfl (cz rfl rfl (by constructor)) ?_
 refine yA rfl rfl ?_
 refine yN ?_
 dsimp only [St.put]
 refine K2 _ ?_
 refine ar ?_
 refine bj rfl (by constructor) zN zS ?_
 exact vb (by simp [th, h1])
end Go.Proofs.YtgffhbbcpgdjjaaGreatDoor
namespace Go.AB
open Go Go.RowKit
open Go.AB.Enc (cells)
open Go.PB (ay aj PlaceD bg bi bh bn ak ah cr bq dr dt)
theorem xi {P : Program} {o : Oper} {st : St} {xt yt : TypeId} {x y : Operand} {m n r : Int} (hr : m % n = r) (ho : o.op = .binOp .rem xt x y yt) (hx : evC st x = .v (.int .i64 m)) (hy : evC st y = .v (.int .i64 n)) (hm : 0 ≤ m ∧ m ≤ 9223372036854775807) (hn : 0 < n) : NStep P o st (.v (.int .i64 r)) := hr ▸ n_rem ho hx hy hm hn
section
variable {p : ah} {i : Nat} {x : ak}
theorem udo (h : dc p = 0) (hx : p.pages[i]? = some x) : fe p (i : Int) = 0 := by
 have := (List.getElem?_eq_some_iff.1 hx).1
 unfold fe
 rw [decide_eq_true h, cond_true, inB_true.2 (by omega)]
 rfl
theorem upg (hx : p.pages[i]? = some x) : ov p (i : Int) = x := by
 unfold ov
 rw [Int.toNat_natCast, hx]; rfl
end
end Go.AB
namespace Go.Proofs.YtgffhbbcpgdjjaaGreatDoor
set_option maxRecDepth 10000
open Go Go.RowKit Go.AB
open Go.AB.Enc (cells)
open Go.PB (ay aj PlaceD bg bi bh bn ak ah cr bq dr dt)
section
variable {p : ah} {i : Nat} {x : ak}
theorem urr (n : Nat) (h : dc p = 0) (hx : p.pages[i]? = some x) : gd n f8 Tryz.prog 18 [val p, .v (.int .i64 (i : Int))] (.tup [lst (d7 p.text x), .v (.int .i64 0)]) := by
 have := ugg n p (i : Int)
 rwa [udo h hx, show sq p (i : Int) = d7 p.text x by unfold sq; rw [udo h hx, upg hx]; rfl] at this
end
end Go.Proofs.YtgffhbbcpgdjjaaGreatDoor
namespace Go.AB
open Go Go.RowKit
open Go.AB.Enc (cells)
open Go.PB (ay aj PlaceD bg bi bh bn ak ah cr bq dr dt)
theorem umd {p : ah} (h : et p) (j : Nat) : 0 ≤ fb p j ∧ fb p j ≤ 600 := by
 refine ⟨ubf p j, ?_⟩
 have hq := mr h.text
 unfold fb pt
 cases p.pages[j]? with
 | none => show (0 : Int) ≤ 600; omega
 | some x => have := vj p.text x; show ((d7 p.text x).length : Int) ≤ 600; omega
theorem uij {n i : Nat} {g : Nat → Int} (h : i < n) : (az (cc n g))[i * 1]? = some (.v (.int .i64 (g i))) := uil (by rw [Nat.mul_one]; exact lv g h)
end Go.AB
namespace Go.Proofs.YtgffhbbcpgdjjaaGreatDoor
set_option maxRecDepth 10000
open Go Go.RowKit Go.AB
open Go.AB.Enc (cells)
open Go.PB (ay aj PlaceD bg bi bh bn ak ah cr bq dr dt)
theorem urq (n : Nat) (p : ah) (h : dc p = 0) : gd n f8 Tryz.prog 12 [val p] (.tup [lst (cc p.pages.length (fb p)), .v (.bool true)]) := fun G nx hF hnx => by
 refine jg (G) (nx) Tryz.func12 rfl (.tup (ce (bv _ _) (ce .v dq))) zN (fun hlt => zH) ?_
 simp only [Tryz.ntmps12, List.length_cons, List.length_nil, Nat.reduceAdd, Nat.reduceSub]
 refine cb fun hlt => ?_
 dsimp only at hlt
 have hnp := (nk h).1.np
 refine yS fun _ K1 => ?_
 refine yR ?_
 try dsimp only [St.put]
 refine yB rfl rfl rfl ?_
 refine yA rfl rfl ?_
 refine yA rfl rfl ?_
 refine yN ?_
 dsimp only [St.put]
 refine K1 _ ?_
 refine yS fun _ K2 => ?_
 refine yR ?_
 refine yA rfl rfl ?_
 refine yN ?_
 dsimp only [St.put]
 refine K2 _ ?_
 refine qh 4 3 1 rfl (by decide) ?_
 dsimp only [List.set_cons_zero, List.set_cons_succ]
 refine yS fun _ K3 => ?_
 refine yS fun _ K4 => ?_
 refine yR ?_
 refine yF rfl rfl rfl rfl ?_
 refine yL rfl rfl rfl ?_
 refine aa rfl (bp rfl rfl (List.length_map _)) ?_
 refine yM rfl rfl ?_
 refine yN ?_
 dsimp only [St.put]
 refine K4 _ ?_
 refine bf ?_
 refine cm 12 ?_
 refine zQ ?_
 refine dm ((ai G nx (.tip (cc 0 (fb p)).length 3 1))) zX ?_
 dsimp only
 refine dj (X := Nat) (fun k => k ≤ p.pages.length) (fun k => p.pages.length - k) (fun k => [(4, .list ((cc k (fb p)).map cells) (.tip nx)), (5, .any), (6, .any), (7, .any), (11, .v (.int .i64 (k : Int)))]) (fun k G' => (ai G nx (.tip (cc k (fb p)).length 3 1))) 0 rfl ?_ ?_ ?_ ?_ ?_ ?_
 ·exact Nat.zero_le _
 ·exact zF
 ·exact zX
 ·rintro k hI
  exact zL
 ·rintro k hI
  exact zH
 rintro k hI
 dsimp only at hI ⊢
 refine yS fun _ K5 => ?_
 refine yR ?_
 refine aa rfl (ck rfl rfl rfl) ?_
 refine yN ?_
 dsimp only [St.put]
 refine K5 _ ?_
 refine yS fun _ K6 => ?_
 refine aq rfl (fun hc => ?_) (fun hc => ?_)
 ·replace hc := of_decide_eq_true hc
  obtain ⟨x, hx⟩ : ∃ x, p.pages[k]? = some x := dl (by omega)
  have e := yz k (fb p)
  rw [show fb p k = ((d7 p.text x).length : Int) from pr hx _] at e
  have hll := jq k (fb p)
  refine ax ?_
  refine K6 _ ?_
  refine yS fun _ K7 => ?_
  refine bf ?_
  refine yS fun _ K8 => ?_
  refine yR ?_
  refine yM rfl rfl ?_
  refine yA rfl rfl ?_
  refine yN ?_
  dsimp only [St.put]
  refine K8 _ ?_
  refine yS fun _ K9 => ?_
  refine yR ?_
  refine yE rfl rfl rfl ?_
  refine yM rfl rfl ?_
  try dsimp only [St.put]
  refine ae rfl ((fa rfl rfl rfl ((urr n h hx)) zG (by dsimp only [St.put]; omega) ?_))
  refine yM rfl rfl ?_
  refine yX rfl rfl rfl rfl ?_
  refine yX rfl rfl rfl rfl ?_
  refine yA rfl rfl ?_
  refine yA rfl rfl ?_
  refine yN ?_
  dsimp only [St.put]
  refine K9 _ ?_
  refine yS fun _ K10 => ?_
  refine yS fun _ K11 => ?_
  refine yR ?_
  refine yM rfl rfl ?_
  refine aa rfl (fu (c := false) (gk rfl rfl rfl) (zx rfl)) ?_
  refine yN ?_
  dsimp only [St.put]
  refine K11 _ ?_
  refine aq rfl (fun h => by cases h) (fun _ => ?_)
  refine ax ?_
  refine K10 _ ?_
  refine yR ?_
  refine yM rfl rfl ?_
  refine yM rfl rfl ?_
  refine aa rfl (bp rfl rfl (List.length_map _)) ?_
  try dsimp only [St.put]
  refine ae rfl (ef rfl rfl rfl (by decide) (by decide) zR (by decide) ?_)
  try dsimp only [St.put]
  refine ae rfl (jz ([((d7 p.text x).length : Int)]) rfl rfl zG zE rfl rfl zA ?_ zA)
  refine yA rfl rfl ?_
  refine yN ?_
  dsimp only [St.put]
  refine K7 _ ?_
  refine yR ?_
  refine aa rfl (br rfl rfl rfl (by omega)) ?_
  refine yM rfl rfl ?_
  refine yN ?_
  dsimp only [St.put]
  rw [← e]
  exact ⟨k + 1, by omega, by omega, ⟨⟨rfl, rfl⟩, zF, zB, zN, zX⟩⟩
 replace hc := of_decide_eq_false hc
 obtain rfl : k = p.pages.length := by omega
 refine c6 ?_
 refine K3 _ ?_
 refine yS fun _ K12 => ?_
 refine yR ?_
 refine yM rfl rfl ?_
 refine yA rfl rfl ?_
 refine yA rfl rfl ?_
 refine yN ?_
 dsimp only [St.put]
 refine K12 _ ?_
 refine ar ?_
 refine i7 rfl (ey (by constructor)) (ey (by constructor)) zN zS ?_ ?_
 ·exact zW
 exact zW
theorem urn (p : ah) (h : et p) (es : List Int) (hl : es.length ≤ 100) {b : Bool} (hb : j5 p es = b) : Pure Tryz.prog 13 [val p, lst es] (.v (.bool b)) := hb ▸ uo0 p es h (by omega)
theorem uro (n : Nat) (p : ah) (h : gm p (dc p) = 0) : gd n f8 Tryz.prog 15 [val p] (.tup [val (⟨0, wc p⟩ : bq), .v (.int .i64 0)]) := by
 have := ugb n p
 rwa [h, show r5 p = ⟨0, wc p⟩ by unfold r5; rw [h]; rfl] at this
theorem urp (n : Nat) (p : ah) (h : gm p (dc p) = 0) {i : Nat} {x : ak} (hx : p.pages[i]? = some x) : gd n f8 Tryz.prog 14 [val p, .v (.int .i64 (i : Int))] (.tup [val (⟨0, (bx p).alone (dh p) (d9 p) i⟩ : bq), .v (.int .i64 0)]) := by
 have hC := (u9 h).1
 have hA : gm p (fe p (i : Int)) = 0 := by
  rw [hC] at h
  rw [udo hC hx]
  exact h
 have := ugc n p (i : Int)
 rwa [hA, show qy p (i : Int) = ⟨0, (bx p).alone (dh p) (d9 p) i⟩ by unfold qy; rw [hA, Int.toNat_natCast]; rfl] at this
end Go.Proofs.YtgffhbbcpgdjjaaGreatDoor
namespace Go.AB
open Go Go.RowKit
open Go.AB.Enc (cells)
open Go.PB (ay aj PlaceD bg bi bh bn ak ah cr bq dr dt)
section
/-- what is told, and more -/
noncomputable def m9 (p : ah) (x : Nat → Int) (j : Nat) : Int := fb p j + x j
theorem uqs (p : ah) : m9 p (fun _ => 0) = fb p := by funext j; simp [m9]
/-- .. is a truth, where it may be -/
noncomputable def vv (p : ah) (x : Nat → Int) : Prop := (bx p).Feas (dh p) (d9 p) x
theorem uiq {p : ah} (h : et p) (x : Nat → Int) : j5 p (cc p.pages.length (m9 p x)) = true ↔ vv p x := ued h x
theorem uir {p : ah} (h : et p) {x : Nat → Int} (hx : vv p x) {j : Nat} (hj : j < p.pages.length) : 0 ≤ x j ∧ x j ≤ 600 := by
 have h1 := hx.page j hj
 have h2 := ujn h j
 exact ⟨h1.1, Int.le_trans h1.2 h2.2⟩
theorem umr {p : ah} (h : et p) {x : Nat → Int} (hx : vv p x) : sm p.pages.length x ≤ wc p := Net.feas_most (uck h) hx
end
end Go.AB
namespace Go.AB
open Go Go.RowKit
variable {ρ : Option Nat} {P : Program} {Q : Exit → St → Prop} {st : St}
/-- a nil list in an own slice's cell gets a name -/
theorem uj9 {c : Code} (n off : Nat) {ver wv len esz : Nat} {tt : TypeId} (cs : List C) (e : TypeId) (sz : Nat) (hG : st.G n = some (.arr ver wv tt esz len cs)) (h0 : cs[off]? = some (.list [] .nil)) (hsz : 1 ≤ sz) (h : AW ρ P c Q { st with G := ai (ai st.G st.nx (.tip 0 e sz)) n (.arr ver wv tt esz len (cs.set off (.list [] (.tip st.nx)))), nx := st.nx + 1 }) : AW ρ P c Q st := by
 intro E w a hs
 have hnx := hs.g.nx
 have hev := Ev.name hs.g (.slice none 0 0) (fun b o hb _ => by simp [blk] at hb)
 have hg := SimG.name hs.g (.slice none 0 0) (.tip 0 e sz) (fun b hb => by simp [blk] at hb) ⟨.slice none 0 0, [], by simp [Env.name, hnx], World.ownsRow_nil _ _ _ _, fun b hb => by simp [blk] at hb, hsz⟩
 obtain ⟨val, us, hT, how, hone, hr, hL, hpos⟩ := hs.g.obj n _ hG
 have hn := hs.g.lt n _ hT
 have hg2 : SimG (E.name (.slice none 0 0)) w (ai (ai st.G st.nx (.tip 0 e sz)) n (.arr ver wv tt esz len (cs.set off (.list [] (.tip st.nx))))) (st.nx + 1) := by
  refine ⟨hg.nx, fun k o ho => ?_, hg.lt, hg.tb, hg.ap, hg.fresh, hg.base⟩
  simp only [ai] at ho
  split at ho
  ·rename_i ek
   subst ek
   simp only [Option.some.injEq] at ho
   subst ho
   have hr2 := hr.ev hev
   refine ⟨val, us, by simp only [Env.name]; rw [if_neg (by omega)]; exact hT, how, fun c hc => ?_, ⟨by rw [hr.1]; simp, fun j c v hc hv => ?_⟩, hL, hpos⟩
   ·rcases List.mem_or_eq_of_mem_set hc with hc | rfl
    ·exact hone c hc
    ·rfl
   ·rw [List.getElem?_set] at hc
    split at hc
    ·rename_i ej
     subst ej
     split at hc
     ·simp only [Option.some.injEq] at hc
      subst hc
      have hp := hr2.2 off _ v h0 hv
      obtain ⟨as1, cap, s, us', rfl, h1, h2, _, _, _, _, _, z1, _⟩ := hp.list_inv
      obtain ⟨rfl, rfl⟩ := z1 rfl
      exact R.mk_list (rows := []) (sz := 1) (us := []) (Nat.le_refl _) (Nat.zero_le _) (Nat.le_refl _) (by simp) (by simp) Rs.nil (.inl rfl) (by simp) (by simp) fun n hn => by
       simp only [Tok.tip.injEq] at hn
       subst hn
       refine ⟨by simp [Env.name]; omega, fun ver wv val ht => ?_⟩
       simp only [Env.name] at ht
       rw [if_pos (by omega)] at ht
       simp only [Option.some.injEq, Prod.mk.injEq] at ht
       obtain ⟨rfl, rfl, rfl⟩ := ht
       exact ⟨Nat.le_refl _, fun _ => rfl⟩
     ·cases hc
    ·exact hr2.2 j c v hc hv
  ·rename_i ek
   exact hg.obj k o ho
 exact i0 (fun _ _ _ hq => nd hev hq) (h _ w a ⟨hs.d.ev hev, hs.sz, fun j v hj => (hs.t j v hj).ev hev, hg2⟩)
/-- an own slice's cells are known less well -/
theorem ut8 {c : Code} (n : Nat) {ver wv len esz : Nat} {tt : TypeId} {cs : List C} (ds : List C) (hG : st.G n = some (.arr ver wv tt esz len cs)) (hw : Wks cs ds) (h : AW ρ P c Q { st with G := ai st.G n (.arr ver wv tt esz len ds) }) : AW ρ P c Q st := by
 intro E w a hs
 obtain ⟨val, us, hT, how, hone, hr, hL, hpos⟩ := hs.g.obj n _ hG
 refine h E w a ⟨hs.d, hs.sz, hs.t, ⟨hs.g.nx, fun k o ho => ?_, hs.g.lt, hs.g.tb, hs.g.ap, hs.g.fresh, hs.g.base⟩⟩
 simp only [ai] at ho
 split at ho
 ·rename_i ek
  subst ek
  simp only [Option.some.injEq] at ho
  subst ho
  refine ⟨val, us, hT, how, hw.one hone, ⟨by rw [hr.1, hw.len], fun j c v hc hv => ?_⟩, hL, hpos⟩
  obtain ⟨c', hc', k⟩ := hw.get j c hc
  exact k.2 _ _ _ (hr.2 j c' v hc' hv)
 ·exact hs.g.obj k o ho
end Go.AB
namespace Go.AB
open Go Go.RowKit
open Go.AB.Enc (cells)
open Go.PB (ay aj PlaceD bg bi bh bn ak ah cr bq)
/-- so many named lists behind a name -/
def jb (G0 : Nat → Option GObj) (b n : Nat) (e : TypeId) (sz : Nat) (L : Nat → Nat) : Nat → Option GObj := fun m => bif decide (b ≤ m) && decide (m < b + n) then some (.tip (L (m - b)) e sz) else G0 m
/-- one number put in a place -/
def jw (L : Nat → Nat) (k v : Nat) (i : Nat) : Nat := bif decide (i = k) then v else L i
section
variable {G0 : Nat → Option GObj} {b n : Nat} {e : TypeId} {sz : Nat} {L : Nat → Nat}
theorem umf (G0 : Nat → Option GObj) (b : Nat) (e : TypeId) (sz : Nat) (L : Nat → Nat) : jb G0 b 0 e sz L = G0 := by
 funext m
 unfold jb
 by_cases h : b ≤ m
 ·rw [decide_eq_true h, decide_eq_false (show ¬ m < b + 0 by omega)]; rfl
 ·rw [decide_eq_false h]; rfl
theorem uh {i : Nat} (h : i < n) : jb G0 b n e sz L (b + i) = some (.tip (L i) e sz) := by
 unfold jb
 rw [decide_eq_true (show b ≤ b + i by omega), decide_eq_true (show b + i < b + n by omega), Nat.add_sub_cancel_left]; rfl
theorem nz {m : Nat} (h : m < b ∨ b + n ≤ m) : jb G0 b n e sz L m = G0 m := by
 unfold jb
 rcases h with h | h
 ·rw [decide_eq_false (show ¬ b ≤ m by omega)]; rfl
 ·rw [decide_eq_false (show ¬ m < b + n by omega), Bool.and_false]; rfl
end
/-- a page whose lists are named -/
def n4 (b k : Nat) (x : ak) (f w : List PlaceD) : List C := [.v (.int .i64 x.fr), .v (.int .i64 x.to), .v (.int .i64 x.fst), .v (.int .i64 x.snd), .list (f.map cells) (.tip (b + 2 * k)), .list (w.map cells) (.tip (b + (2 * k + 1)))]
def fq (ps : List ak) (b : Nat) (F W : Nat → List PlaceD) : List (List C) := ps.mapIdx fun k x => n4 b k x (F k) (W k)
def j7 (F : Nat → List PlaceD) (k : Nat) (l : List PlaceD) (i : Nat) : List PlaceD := bif decide (i = k) then l else F i
theorem zh (ps : List ak) (b : Nat) (F W : Nat → List PlaceD) : ∀ r ∈ fq ps b F W, r.length = 6 := fun r hr => by
 unfold fq at hr
 obtain ⟨i, hi, rfl⟩ := List.mem_mapIdx.1 hr
 rfl
theorem wx {ps : List ak} {b : Nat} {F W : Nat → List PlaceD} {k : Nat} {x : ak} (h : ps[k]? = some x) : (fq ps b F W)[k]? = some (n4 b k x (F k) (W k)) := by
 unfold fq
 rw [List.getElem?_mapIdx, h]; rfl
theorem un6 {ps : List ak} {b : Nat} {F W : Nat → List PlaceD} {k : Nat} {x : ak} (h : ps[k]? = some x) (l : List PlaceD) : (fq ps b F W).set k (n4 b k x l (W k)) = fq ps b (j7 F k l) W := by
 apply List.ext_getElem?
 intro j
 rw [List.getElem?_set]
 have hk := (List.getElem?_eq_some_iff.1 h).1
 by_cases e : k = j
 ·subst e
  rw [if_pos rfl, if_pos (by unfold fq; rw [List.length_mapIdx]; exact hk), wx h]
  unfold j7
  rw [decide_eq_true rfl]; rfl
 ·rw [if_neg e]
  unfold fq j7
  rw [List.getElem?_mapIdx, List.getElem?_mapIdx, decide_eq_false (show ¬ j = k by omega)]; rfl
theorem un5 {ps : List ak} {b : Nat} {F W : Nat → List PlaceD} {k : Nat} {x : ak} (h : ps[k]? = some x) (l : List PlaceD) : (fq ps b F W).set k (n4 b k x (F k) l) = fq ps b F (j7 W k l) := by
 apply List.ext_getElem?
 intro j
 rw [List.getElem?_set]
 have hk := (List.getElem?_eq_some_iff.1 h).1
 by_cases e : k = j
 ·subst e
  rw [if_pos rfl, if_pos (by unfold fq; rw [List.length_mapIdx]; exact hk), wx h]
  unfold j7
  rw [decide_eq_true rfl]; rfl
 ·rw [if_neg e]
  unfold fq j7
  rw [List.getElem?_mapIdx, List.getElem?_mapIdx, decide_eq_false (show ¬ j = k by omega)]; rfl
end Go.AB
namespace Go.AB
open Go Go.RowKit
open Go.AB.Enc (cells)
theorem repR (cs : List C) : ∀ (k j : Nat), j < k * cs.length → (List.replicate k cs).flatten[j]? = cs[j % cs.length]?
 | 0, j, h => by omega
 | k + 1, j, h => by
  rw [List.replicate_succ, List.flatten_cons]
  by_cases hj : j < cs.length
  ·rw [List.getElem?_append_left hj, Nat.mod_eq_of_lt hj]
  ·rw [List.getElem?_append_right (by omega), repR cs k (j - cs.length) (by rw [Nat.succ_mul] at h; omega), ← Nat.mod_eq_sub_mod (by omega)]
theorem uon (cs : List C) (k : Nat) : (List.replicate k cs).flatten.length = k * cs.length := by
 induction k with
 | zero => simp
 | succ k ih => rw [List.replicate_succ, List.flatten_cons, List.length_append, ih, Nat.succ_mul]; omega
section
variable {P : Program} {o : Oper} {st : St} {K : St → Prop}
/-- A slice that is made: owned. -/
theorem x9 {α : Type} [Enc α] (x : α) {t e : TypeId} {bytes : Nat} {zs : List C} {l c : Operand} {kl kc : IntKind} {nl nc : Int} {k : Nat} [AppT P t e (Enc.n α) bytes] [ZeroC P e zs] (ho : o.op = .makeSlice t l c) (hl : evC st l = .v (.int kl nl)) (hc : evC st c = .v (.int kc nc)) (hn : nl = (k : Int)) (hnc : nc = nl) (hw : zs = cells x) (hpos : 1 ≤ Enc.n α) (hb : bytes * k ≤ 281474976710656) (hm : k ≤ 9223372036854775807)
  (h : K (St.put { st with G := ai st.G st.nx (.arr 0 0 e (Enc.n α) k (az (List.replicate k x))), nx := st.nx + 1 } o.dst (.own st.nx 0 k))) : EStep P o st K :=
 lp fun E w a hs => by
  subst hn; subst hnc; subst hw
  obtain ⟨ht, i, y, hie, hz, h1, h2, h3⟩ := AppT.spec (P := P) (t := t) (e := e) (sz := Enc.n α) (bytes := bytes)
  obtain ⟨v, hv, hr, hone⟩ := ZeroC.run (P := P) (t := e) E w
  have hvy : v = y := by
   have := hv w
   rw [show (zeroValue e).run P w = .ok y w by simp [zeroValue, typeInfo, hie, hz]] at this
   simpa using this.symm
  subst hvy
  have e1 := (hl ▸ hs.ev l).v_inv
  have e2 := (hc ▸ hs.ev c).v_inv
  have hbi : (i.bytes : Int) * (k : Int) ≤ 281474976710656 := by
   rw [h2, ← Int.natCast_mul]; omega
  have hrun := run_make (P := P) w t e i v ht hie hz kl kc k k (by omega) (Int.le_refl _) hbi (by omega)
  simp only [Int.toNat_natCast] at hrun
  have hsz : v.cells.size = Enc.n α := h3
  obtain ⟨mc, hmc⟩ : ∃ mc, mc = madeCells v.cells (k * i.size) := ⟨_, rfl⟩
  have hmsz : mc.size = k * Enc.n α := by rw [hmc, size_madeCells, h1]
  have hmg : ∀ j u, mc.toList[j]? = some u → v.cells.toList[j % Enc.n α]? = some u := fun j u hu => by
   have hlt := (List.getElem?_eq_some_iff.1 hu).1
   rw [Array.length_toList, hmsz] at hlt
   have hm2 : j % v.cells.size < v.cells.size := Nat.mod_lt _ (by omega)
   rw [hmc] at hu
   simp only [madeCells, Array.getElem?_toList, Array.getElem?_map, Array.getElem?_range, h1, hlt, if_true, Option.map_some, Option.some.injEq] at hu
   rw [← hsz, Array.getElem?_toList, Array.getElem?_eq_getElem hm2, ← hu]
   simp [hm2]
  rw [← hmc] at hrun
  obtain ⟨ob, hob⟩ : ∃ ob, ob = Obj.cells mc e := ⟨_, rfl⟩
  rw [← hob] at hrun
  have hfl : az (List.replicate k x) = (List.replicate k (cells x)).flatten := by unfold az; rw [List.map_replicate]
  have hrs0 : Rs E w (az (List.replicate k x)) mc.toList := by
   rw [hfl]
   refine ⟨by rw [uon, Enc.len, Array.length_toList, hmsz], fun j d u hd hu => ?_⟩
   have hlt := (List.getElem?_eq_some_iff.1 hu).1
   rw [Array.length_toList, hmsz] at hlt
   rw [repR _ _ _ (by rw [Enc.len]; exact hlt), Enc.len] at hd
   exact hr.2 _ d u hd (hmg j u hu)
  have hev := Ev.laid hs.g (o := ob) 0 (.inl rfl) (.inl rfl)
  have hg := SimG.laid hs.g (o := ob) 0 (.inl rfl) (.inl rfl)
  have hnew : (w.alloc ob).heap[w.heap.size]? = some ob := tw w ob
  have hwsz : (w.alloc ob).heap.size = w.heap.size + 1 := by simp
  have hold : ∀ n tt b, (E.lay w.heap.size 0).T n = some tt → blk tt.2.2 = some b → b < w.heap.size := fun n tt b h5 h6 => (hs.g.tb n _ _ _ b h5 h6).2
  have hnx := hs.g.nx
  have hev2 := hev.thenName (.slice (some ⟨w.heap.size, 0, none⟩) k k) fun b o' hbk ho' => by
   simp only [blk, Option.some.injEq] at hbk
   subst hbk
   have := (Array.getElem?_eq_some_iff.1 ho').1
   omega
  have hrs : Rs ((E.lay w.heap.size 0).name (.slice (some ⟨w.heap.size, 0, none⟩) k k)) (w.alloc ob) (az (List.replicate k x)) mc.toList := hrs0.ev hev2
  have hmx : k ≤ maxLen := by unfold maxLen; omega
  have hg2 := SimG.name hg (.slice (some ⟨w.heap.size, 0, none⟩) k k) (.arr 0 0 e (Enc.n α) k (az (List.replicate k x))) (fun b hbk => by
   simp only [blk, Option.some.injEq] at hbk
   subst hbk
   exact ⟨hs.g.base, by rw [hwsz]; omega, fun n tt h5 h6 => absurd (hold n tt _ h5 h6) (by omega)⟩) (by
   refine ⟨.slice (some ⟨w.heap.size, 0, none⟩) k k, mc.toList, ?_, ⟨by rw [Array.length_toList, hmsz], .inr ⟨w.heap.size, k, _, rfl, hs.g.base, hnew.trans (by rw [hob]), Nat.le_refl _, hmx, hmsz, ?_⟩⟩, fun c hc => ?_, hrs, fun b hbk => ?_, hpos⟩
   ·simp [Env.name, Env.lay, hnx]
   ·rw [List.take_of_length_le (by rw [Array.length_toList, hmsz]; exact Nat.le_refl _)]
   ·obtain ⟨r, hr1, hc1⟩ := List.mem_flatten.1 hc
    obtain ⟨y, _, rfl⟩ := List.mem_map.1 hr1
    exact Enc.one y c hc1
   ·simp only [blk, Option.some.injEq] at hbk
    subst hbk
    simp [Env.name, Env.lay])
  refine ⟨.slice (some ⟨w.heap.size, 0, none⟩) k k, w.alloc ob, _, _, _, .own st.nx 0 k, ?_, hev2, ?_, hg2, h⟩
  ·simp only [execOp, ho, Sem.run_bind, e1, e2]
   rw [hrun]; rfl
  ·refine R.own (by simp [Env.name, Env.lay]; omega) (Nat.le_refl _) hmx fun ver wv val htt => ?_
   simp only [Env.name, Env.lay, hnx, if_true, Option.some.injEq, Prod.mk.injEq] at htt
   obtain ⟨rfl, rfl, rfl⟩ := htt
   exact ⟨Nat.le_refl _, fun _ => ⟨_, Nat.le_refl _, rfl⟩⟩
end
/-! ### Rows of cells -/
theorem ubw {rows : List (List C)} {s : Nat} (h : ∀ r ∈ rows, r.length = s) {k j : Nat} {r : List C} (hr : rows[k]? = some r) (hj : j < s) (c : C) : putAt rows.flatten (k * s + j) [c] = (rows.set k (r.set j c)).flatten := by
 show rows.flatten.set (k * s + j) c = _
 have hk := (List.getElem?_eq_some_iff.1 hr).1
 have hrl := h r (List.mem_of_getElem? hr)
 have e : rows = rows.take k ++ (r :: rows.drop (k + 1)) := by
  have h1 := (List.getElem?_eq_some_iff.1 hr).2
  rw [← h1, List.getElem_cons_drop, List.take_append_drop]
 have l1 : (rows.take k).flatten.length = k * s := by
  rw [ni fun x hx => h x (List.mem_of_mem_take hx), List.length_take, Nat.min_eq_left (Nat.le_of_lt hk)]
 have e2 : rows.set k (r.set j c) = rows.take k ++ (r.set j c :: rows.drop (k + 1)) := by
  conv => lhs; rw [e]
  have : (rows.take k).length = k := by rw [List.length_take, Nat.min_eq_left (Nat.le_of_lt hk)]
  rw [List.set_append_right _ _ (by omega), this, Nat.sub_self, List.set_cons_zero]
 rw [e2]
 conv => lhs; rw [e]
 rw [List.flatten_append, List.flatten_append, List.flatten_cons, List.flatten_cons, List.set_append_right _ _ (by omega), l1, Nat.add_sub_cancel_left, List.set_append_left _ _ (by omega)]
/-- two numbers -/
structure nv where
 a : Int
 b : Int
instance : Enc nv := ⟨fun x => [.v (.int .i64 x.a), .v (.int .i64 x.b)], 2, fun _ => rfl, fun m x c h => by
 simp at h; rcases h with rfl | rfl <;> exact .v, fun x c h => by simp at h; rcases h with rfl | rfl <;> rfl⟩
end Go.AB
namespace Go.AB
open Go Go.RowKit
open Go.AB.Enc (cells)
open Go.PB (ay aj PlaceD bg bi bh bn ak ah cr bq)
/-- a page's errors among the first places, their number; what a reader found of them -/
def fm (p : ah) (P : Nat → Bool) (N : Nat → Nat) (j : Nat) : Int := match p.pages[j]? with | some x => ((ii p.text P (N j) x).length : Int) | none => 0
def dv (p : ah) (b : Bool) (P F : Nat → Bool) (N : Nat → Nat) (j : Nat) : List PlaceD := match p.pages[j]? with | some x => gn p.text P F (N j) (cn b x) x | none => []
def rdB (p : ah) (b : Bool) (j r : Nat) : Bool := match p.pages[j]? with | some x => decide (cn b x = (r : Int)) | none => false
def ptE (p : ah) (b : Bool) (P : Nat → Bool) (N : Nat → Nat) (r : Nat) : Int := sm p.pages.length fun j => bif rdB p b j r then fm p P N j else 0
def ptH (p : ah) (b : Bool) (P F : Nat → Bool) (N : Nat → Nat) (r : Nat) : Int := sm p.pages.length fun j => bif rdB p b j r then ((dv p b P F N j).length : Int) else 0
def dd (p : ah) (b : Bool) (P F : Nat → Bool) (N M : Nat → Nat) : List nv := (List.range (cy p b).length).map fun r => ⟨ptE p b P N r, ptH p b P F M r⟩
section
variable {p : ah} {b : Bool} {P F : Nat → Bool} {N M : Nat → Nat} {k i : Nat} {x : ak} {q : PlaceD}
theorem ulv (p : ah) (b : Bool) (P F : Nat → Bool) (N M : Nat → Nat) : (dd p b P F N M).length = (cy p b).length := by simp [dd]
theorem oo {r : Nat} (h : r < (cy p b).length) : (dd p b P F N M)[r]? = some ⟨ptE p b P N r, ptH p b P F M r⟩ := by simp [dd, h]
theorem uec {N' M' : Nat → Nat} (h1 : ∀ r, ptE p b P N r = ptE p b P N' r) (h2 : ∀ r, ptH p b P F M r = ptH p b P F M' r) : dd p b P F N M = dd p b P F N' M' := by
 unfold dd
 refine List.map_congr_left fun r _ => ?_
 rw [h1, h2]
theorem pn (N : Nat → Nat) (k v : Nat) : jw N k v k = v := by unfold jw; rw [decide_eq_true rfl]; rfl
theorem n2 (N : Nat → Nat) {k v j : Nat} (h : j ≠ k) : jw N k v j = N j := by unfold jw; rw [decide_eq_false h]; rfl
theorem uf3 {L : List PlaceD} {R : Nat → Bool} {n : Nat} {q : PlaceD} (h : L[n]? = some q) (hR : R n = false) : li L R (n + 1) = li L R n := by
 rw [w4 h, hR]; simp
theorem uf2 {L : List PlaceD} {R : Nat → Bool} {n : Nat} {q : PlaceD} (h : L[n]? = some q) (hR : R n = true) : li L R (n + 1) = li L R n ++ [q] := by
 rw [w4 h, hR]; rfl
theorem usu (hq : (av p.text)[i]? = some q) (h : (dw p.text x q && P i) = false) : ii p.text P (i + 1) x = ii p.text P i x := uf3 hq (by rw [xf hq]; exact h)
theorem ui2 (hq : (av p.text)[i]? = some q) (h : (dw p.text x q && P i) = true) : ii p.text P (i + 1) x = ii p.text P i x ++ [q] := uf2 hq (by rw [xf hq]; exact h)
theorem ur2 {r : Int} (hq : (av p.text)[i]? = some q) (h : (dw p.text x q && P i && F i) = false) : gn p.text P F (i + 1) r x = gn p.text P F i r x := by
 unfold gn
 rw [uf3 hq (by rw [xf hq]; exact h)]
theorem ur3 {r : Int} (h : ¬ 0 ≤ r) (n m : Nat) : gn p.text P F n r x = gn p.text P F m r x := by
 unfold gn
 rw [decide_eq_false h]; rfl
theorem uh4 {r : Int} (h0 : 0 ≤ r) (hq : (av p.text)[i]? = some q) (h : (dw p.text x q && P i && F i) = true) : gn p.text P F (i + 1) r x = gn p.text P F i r x ++ [q] := by
 unfold gn
 rw [decide_eq_true h0, uf2 hq (by rw [xf hq]; exact h)]; rfl
/-- nothing changes -/
theorem usq (hx : p.pages[k]? = some x) (hN : N k = i) (h : ii p.text P (i + 1) x = ii p.text P i x) : fm p P (jw N k (i + 1)) = fm p P N := by
 funext j
 unfold fm
 by_cases e : j = k
 ·subst e; rw [hx]; dsimp only; rw [pn, h, hN]
 ·rw [n2 _ e]
theorem uh3 (hx : p.pages[k]? = some x) (hN : N k = i) (h : gn p.text P F (i + 1) (cn b x) x = gn p.text P F i (cn b x) x) : dv p b P F (jw N k (i + 1)) = dv p b P F N := by
 funext j
 unfold dv
 by_cases e : j = k
 ·subst e; rw [hx]; dsimp only; rw [pn, h, hN]
 ·rw [n2 _ e]
theorem uo6 (h : fm p P M = fm p P N) (r : Nat) : ptE p b P M r = ptE p b P N r := by unfold ptE; rw [h]
theorem uo4 (h : dv p b P F M = dv p b P F N) (r : Nat) : ptH p b P F M r = ptH p b P F N r := by unfold ptH; rw [h]
/-- one more -/
theorem vm (hx : p.pages[k]? = some x) : fm p P N k = ((ii p.text P (N k) x).length : Int) := by unfold fm; rw [hx]
theorem tv (hx : p.pages[k]? = some x) : dv p b P F N k = gn p.text P F (N k) (cn b x) x := by unfold dv; rw [hx]
theorem usr (hx : p.pages[k]? = some x) (hN : N k = i) (h : ii p.text P (i + 1) x = ii p.text P i x ++ [q]) : (fun j => bif decide (j = k) then fm p P N k + 1 else fm p P N j) = fm p P (jw N k (i + 1)) := by
 funext j
 by_cases e : j = k
 ·subst e
  rw [decide_eq_true rfl, cond_true, vm hx, vm hx, pn, h, hN, List.length_append]; rfl
 ·rw [decide_eq_false e, cond_false]
  unfold fm
  rw [n2 _ e]
theorem ur0 (hx : p.pages[k]? = some x) (hN : N k = i) (h : gn p.text P F (i + 1) (cn b x) x = gn p.text P F i (cn b x) x ++ [q]) : j7 (dv p b P F N) k (dv p b P F N k ++ [q]) = dv p b P F (jw N k (i + 1)) := by
 funext j
 unfold j7
 by_cases e : j = k
 ·subst e
  rw [decide_eq_true rfl, cond_true, tv hx, tv hx, pn, h, hN]
 ·rw [decide_eq_false e, cond_false]
  unfold dv
  rw [n2 _ e]
theorem un (hx : p.pages[k]? = some x) {r : Nat} : rdB p b k r = decide (cn b x = (r : Int)) := by unfold rdB; rw [hx]
theorem ue1 {n k : Nat} {g h : Nat → Int} (hk : k < n) (h1 : h k = g k + 1) (h2 : ∀ j, j ≠ k → h j = g j) : sm n h = sm n g + 1 := by
 have : h = fun j => g j + bif decide (j = k) then 1 else 0 := by
  funext j
  by_cases e : j = k
  ·subst e; rw [decide_eq_true rfl, h1]; rfl
  ·rw [decide_eq_false e, h2 j e]; simp
 rw [this, qs, tg hk]
theorem uo7 (hx : p.pages[k]? = some x) (hN : N k = i) {r : Nat} (hr : cn b x = (r : Int)) (h : ii p.text P (i + 1) x = ii p.text P i x ++ [q]) : ptE p b P (jw N k (i + 1)) r = ptE p b P N r + 1 := by
 refine ue1 (List.getElem?_eq_some_iff.1 hx).1 ?_ fun j e => ?_
 ·rw [un hx, decide_eq_true hr, cond_true, cond_true, vm hx, vm hx, pn, h, hN, List.length_append]; rfl
 ·unfold fm
  rw [n2 _ e]
theorem ufy (hx : p.pages[k]? = some x) {r : Nat} (hr : cn b x ≠ (r : Int)) (v : Nat) : ptE p b P (jw N k v) r = ptE p b P N r := by
 refine jv fun j _ => ?_
 by_cases e : j = k
 ·subst e
  rw [un hx, decide_eq_false hr]; rfl
 ·unfold fm
  rw [n2 _ e]
theorem uo5 (hx : p.pages[k]? = some x) (hN : N k = i) {r : Nat} (hr : cn b x = (r : Int)) (h : gn p.text P F (i + 1) (cn b x) x = gn p.text P F i (cn b x) x ++ [q]) : ptH p b P F (jw N k (i + 1)) r = ptH p b P F N r + 1 := by
 refine ue1 (List.getElem?_eq_some_iff.1 hx).1 ?_ fun j e => ?_
 ·rw [un hx, decide_eq_true hr, cond_true, cond_true, tv hx, tv hx, pn, h, hN, List.length_append]; rfl
 ·unfold dv
  rw [n2 _ e]
theorem ufw (hx : p.pages[k]? = some x) {r : Nat} (hr : cn b x ≠ (r : Int)) (v : Nat) : ptH p b P F (jw N k v) r = ptH p b P F N r := by
 refine jv fun j _ => ?_
 by_cases e : j = k
 ·subst e
  rw [un hx, decide_eq_false hr]; rfl
 ·unfold dv
  rw [n2 _ e]
theorem ueb {r : Nat} {N' M' : Nat → Nat} {z : nv} (hz : z = ⟨ptE p b P N' r, ptH p b P F M' r⟩) (h1 : ∀ s, s ≠ r → ptE p b P N' s = ptE p b P N s) (h2 : ∀ s, s ≠ r → ptH p b P F M' s = ptH p b P F M s) : (dd p b P F N M).set r z = dd p b P F N' M' := by
 apply List.ext_getElem?
 intro s
 rw [List.getElem?_set]
 unfold dd
 simp only [List.length_map, List.length_range, List.getElem?_map]
 by_cases e : r = s
 ·subst e
  rw [if_pos rfl]
  by_cases hs : r < (cy p b).length
  ·rw [if_pos hs, List.getElem?_range hs, hz]; rfl
  ·rw [if_neg hs, List.getElem?_eq_none (by simpa using hs)]; rfl
 ·rw [if_neg e]
  by_cases hs : s < (cy p b).length
  ·rw [List.getElem?_range hs]
   simp only [Option.map_some]
   rw [h1 s (Ne.symm e), h2 s (Ne.symm e)]
  ·rw [List.getElem?_eq_none (by simpa using hs)]; rfl
/-- one more error of a reader's pages -/
theorem ulx (hx : p.pages[k]? = some x) (hN : N k = i) {r : Nat} (hr : cn b x = (r : Int)) (h : ii p.text P (i + 1) x = ii p.text P i x ++ [q]) : (dd p b P F N M).set r ⟨ptE p b P N r + 1, ptH p b P F M r⟩ = dd p b P F (jw N k (i + 1)) M :=
 ueb (by rw [uo7 hx hN hr h]) (fun s hs => ufy hx (by rw [hr]; omega) _) fun _ _ => rfl
/-- .. and one more that is found -/
theorem ulw (hx : p.pages[k]? = some x) (hN : M k = i) {r : Nat} (hr : cn b x = (r : Int)) (h : gn p.text P F (i + 1) (cn b x) x = gn p.text P F i (cn b x) x ++ [q]) : (dd p b P F N M).set r ⟨ptE p b P N r, ptH p b P F M r + 1⟩ = dd p b P F N (jw M k (i + 1)) :=
 ueb (by rw [uo5 hx hN hr h]) (fun _ _ => rfl) fun s hs => ufw hx (by rw [hr]; omega) _
theorem ubd {N' M' : Nat → Nat} (h1 : fm p P N' = fm p P N) (h2 : dv p b P F M' = dv p b P F M) : dd p b P F N' M' = dd p b P F N M := uec (fun r => uo6 h1 r) fun r => uo4 h2 r
/-- .. on a page that the side does not read -/
theorem uly (hx : p.pages[k]? = some x) (h0 : ¬ 0 ≤ cn b x) (v w : Nat) : dd p b P F (jw N k v) (jw M k w) = dd p b P F N M := uec (fun r => ufy hx (by omega) _) fun r => ufw hx (by omega) _
/-! ### Bounds -/
theorem ui1 (p : ah) (P : Nat → Bool) (N : Nat → Nat) {m : Nat} (h : ∀ j, N j ≤ m) (j : Nat) : 0 ≤ fm p P N j ∧ fm p P N j ≤ (m : Int) := by
 unfold fm
 cases p.pages[j]? with
 | none => exact ⟨Int.le_refl _, by show (0 : Int) ≤ (m : Int); omega⟩
 | some x =>
  have := uf5 (av p.text) (fun i => onI p.text x i && P i) (N j)
  have := h j
  show 0 ≤ ((ii p.text P (N j) x).length : Int) ∧ ((ii p.text P (N j) x).length : Int) ≤ (m : Int)
  unfold ii
  omega
theorem ucz (p : ah) (b : Bool) (P F : Nat → Bool) (N : Nat → Nat) {m : Nat} (h : ∀ j, N j ≤ m) (j : Nat) : (dv p b P F N j).length ≤ m := by
 unfold dv
 cases p.pages[j]? with
 | none => exact Nat.zero_le _
 | some x =>
  have h1 := uf5 (av p.text) (fun i => onI p.text x i && P i && F i) (N j)
  have := h j
  show (gn p.text P F (N j) (cn b x) x).length ≤ m
  unfold gn
  cases decide (0 ≤ cn b x)
  ·exact Nat.zero_le _
  ·show (li (av p.text) (fun i => onI p.text x i && P i && F i) (N j)).length ≤ m
   omega
theorem ubo {g : Nat → Int} {m : Int} (h : ∀ i, 0 ≤ g i ∧ g i ≤ m) : ∀ n : Nat, 0 ≤ sm n g ∧ sm n g ≤ n * m
 | 0 => ⟨Int.le_refl _, by simp [sm]⟩
 | n + 1 => by
  have := ubo h n
  have := h n
  have e : ((n + 1 : Nat) : Int) * m = n * m + m := by rw [Int.natCast_add, Int.add_mul]; simp
  rw [e]
  simp only [sm]
  omega
theorem zl (h8 : p.pages.length ≤ 8) (h : ∀ j, N j ≤ 600) (r : Nat) : 0 ≤ ptE p b P N r ∧ ptE p b P N r ≤ 4800 := by
 have h1 := ubo (g := fun j => bif rdB p b j r then fm p P N j else 0) (m := 600) (fun j => by
  have := ui1 p P N h j
  cases rdB p b j r
  ·exact ⟨Int.le_refl _, by show (0 : Int) ≤ 600; omega⟩
  ·exact this) p.pages.length
 have : ((p.pages.length : Nat) : Int) * 600 ≤ 4800 := by omega
 unfold ptE
 omega
theorem ufx (h8 : p.pages.length ≤ 8) (h : ∀ j, N j ≤ 600) (r : Nat) : 0 ≤ ptH p b P F N r ∧ ptH p b P F N r ≤ 4800 := by
 have h1 := ubo (g := fun j => bif rdB p b j r then ((dv p b P F N j).length : Int) else 0) (m := 600) (fun j => by
  have := ucz p b P F N h j
  cases rdB p b j r
  ·exact ⟨Int.le_refl _, by show (0 : Int) ≤ 600; omega⟩
  ·show 0 ≤ ((dv p b P F N j).length : Int) ∧ ((dv p b P F N j).length : Int) ≤ 600
   omega) p.pages.length
 have : ((p.pages.length : Nat) : Int) * 600 ≤ 4800 := by omega
 unfold ptH
 omega
/-! ### The start, and the end -/
theorem uiz (p : ah) (P : Nat → Bool) : fm p P (fun _ => 0) = fun _ => 0 := by
 funext j
 unfold fm
 cases p.pages[j]? with
 | none => rfl
 | some x => rfl
theorem xw (p : ah) (b : Bool) (P F : Nat → Bool) : dv p b P F (fun _ => 0) = fun _ => [] := by
 funext j
 unfold dv
 cases p.pages[j]? with
 | none => rfl
 | some x => show gn p.text P F 0 (cn b x) x = []; unfold gn; cases decide (0 ≤ cn b x) <;> rfl
theorem uom (n : Nat) : List.replicate n (0 : Int) = cc n fun _ => 0 := by
 apply List.ext_getElem?
 intro j
 unfold cc
 rw [List.getElem?_map, List.getElem?_replicate]
 by_cases h : j < n
 ·rw [if_pos h, List.getElem?_range h]; rfl
 ·rw [if_neg h, List.getElem?_eq_none (by simpa using h)]; rfl
theorem ud9 (p : ah) (b : Bool) (P F : Nat → Bool) : List.replicate (cy p b).length (⟨0, 0⟩ : nv) = dd p b P F (fun _ => 0) (fun _ => 0) := by
 apply List.ext_getElem?
 intro j
 rw [List.getElem?_replicate]
 have h1 : ptE p b P (fun _ => 0) j = 0 := by
  unfold ptE
  rw [uiz, show (fun i => bif rdB p b i j then (0 : Int) else 0) = fun _ => 0 by funext i; cases rdB p b i j <;> rfl, pk]
 have h2 : ptH p b P F (fun _ => 0) j = 0 := by
  unfold ptH
  rw [xw, show (fun i => bif rdB p b i j then (([] : List PlaceD).length : Int) else 0) = fun _ => 0 by funext i; cases rdB p b i j <;> rfl, pk]
 by_cases h : j < (cy p b).length
 ·rw [if_pos h, oo h, h1, h2]
 ·rw [if_neg h, List.getElem?_eq_none (by rw [ulv]; omega)]
theorem uss (hN : ∀ j, j < p.pages.length → N j = (av p.text).length) : cc p.pages.length (fm p P N) = mw p P := by
 apply List.ext_getElem?
 intro j
 unfold cc mw
 rw [List.getElem?_map, List.getElem?_map]
 by_cases h : j < p.pages.length
 ·rw [List.getElem?_range h, List.getElem?_eq_getElem h]
  simp only [Option.map_some]
  rw [vm (List.getElem?_eq_getElem h), hN j h]
 ·rw [List.getElem?_eq_none (by simpa using h), List.getElem?_eq_none (by omega)]; rfl
theorem uo (hN : ∀ j, j < p.pages.length → N j = (av p.text).length) (r : Nat) : ptE p b P N r = ((l4 p.text P (av p.text).length p.pages b (r : Int) : Nat) : Int) := by
 unfold ptE l4
 rw [y6]
 refine jv fun j hj => ?_
 have h := List.getElem?_eq_getElem hj
 rw [un h, vm h, hN j hj, h]
 dsimp only
 cases decide (cn b p.pages[j] = (r : Int)) <;> rfl
theorem zk (hN : ∀ j, j < p.pages.length → N j = (av p.text).length) (r : Nat) : ptH p b P F N r = ((l3 p.text P F (av p.text).length p.pages b (r : Int) : Nat) : Int) := by
 unfold ptH l3
 rw [y6]
 refine jv fun j hj => ?_
 have h := List.getElem?_eq_getElem hj
 rw [un h, tv h, hN j hj, h]
 dsimp only
 by_cases e : cn b p.pages[j] = (r : Int)
 ·rw [decide_eq_true e, e]; rfl
 ·rw [decide_eq_false e]; rfl
end
/-! ### The readers, of whom so many are told -/
def kf (p : ah) (b : Bool) (P F : Nat → Bool) (m : Nat) : List bn := (cy p b).mapIdx fun i r => bif decide (i < m) then ⟨r.id, (ll (l4 p.text P (av p.text).length p.pages b i) (l3 p.text P F (av p.text).length p.pages b i) : Int)⟩ else r
theorem uqu (p : ah) (b : Bool) (P F : Nat → Bool) (m : Nat) : (kf p b P F m).length = (cy p b).length := by simp [kf]
theorem ug6 (p : ah) (b : Bool) (P F : Nat → Bool) : kf p b P F 0 = cy p b := by
 apply List.ext_getElem?
 intro j
 unfold kf
 rw [List.getElem?_mapIdx]
 cases (cy p b)[j]? <;> rfl
theorem ug8 {p : ah} {b : Bool} {P F : Nat → Bool} {m : Nat} {r : bn} (h : (cy p b)[m]? = some r) : (kf p b P F m)[m]? = some r := by
 unfold kf
 rw [List.getElem?_mapIdx, h, Option.map_some, decide_eq_false (Nat.lt_irrefl m)]; rfl
theorem ug7 {p : ah} {b : Bool} {P F : Nat → Bool} {m : Nat} {r : bn} (h : (cy p b)[m]? = some r) : (kf p b P F m).set m ⟨r.id, (ll (l4 p.text P (av p.text).length p.pages b m) (l3 p.text P F (av p.text).length p.pages b m) : Int)⟩ = kf p b P F (m + 1) := by
 apply List.ext_getElem?
 intro j
 have hm := (List.getElem?_eq_some_iff.1 h).1
 rw [List.getElem?_set, uqu]
 by_cases e : m = j
 ·subst e
  rw [if_pos rfl, if_pos hm]
  unfold kf
  rw [List.getElem?_mapIdx, h, Option.map_some, decide_eq_true (Nat.lt_succ_self m)]; rfl
 ·rw [if_neg e]
  unfold kf
  rw [List.getElem?_mapIdx, List.getElem?_mapIdx]
  by_cases hj : j < m
  ·rw [decide_eq_true hj, decide_eq_true (show j < m + 1 by omega)]
  ·rw [decide_eq_false hj, decide_eq_false (show ¬ j < m + 1 by omega)]
theorem ug9 (p : ah) (b : Bool) (P F : Nat → Bool) : kf p b P F (cy p b).length = mj p.text P F (av p.text).length p.pages b (cy p b) := by
 apply List.ext_getElem?
 intro j
 unfold kf mj
 rw [List.getElem?_mapIdx, List.getElem?_mapIdx]
 by_cases hj : j < (cy p b).length
 ·rw [decide_eq_true hj]; rfl
 ·rw [List.getElem?_eq_none (by omega)]; rfl
/-! ### What the rest finds -/
theorem uma {q : ah} (h : et q) {es : List Int} (hE : j5 q es = true) (hl : es.length = q.pages.length) : j6 q = true ∧ vv q (fun j => gi es j - fb q j) ∧ es = cc q.pages.length (m9 q fun j => gi es j - fb q j) := by
 have e : es = cc q.pages.length (m9 q fun j => gi es j - fb q j) := by
  apply List.ext_getElem?
  intro j
  by_cases hj : j < q.pages.length
  ·rw [lv _ hj, List.getElem?_eq_getElem (by omega)]
   have h1 : gi es j = es[j] := by unfold gi; rw [List.getElem?_eq_getElem (by omega)]; rfl
   unfold m9
   dsimp only
   rw [h1]
   congr 1
   omega
  ·rw [List.getElem?_eq_none (by omega), List.getElem?_eq_none (by rw [jq]; omega)]
 have hf : vv q (fun j => gi es j - fb q j) := (uiq h _).1 (by rw [← e]; exact hE)
 have h0 : vv q fun _ => 0 := Net.Feas.down hf fun j hj => ⟨Int.le_refl _, (hf.page j hj).1⟩
 have h1 := (uiq h _).2 h0
 rw [uqs, umc h] at h1
 exact ⟨h1, hf, e⟩
end Go.AB
namespace Go.PB
/-- what is told of all pages and readers -/
structure ukt where
 words : List Int
 told : List Int
 firsts : List Int
 seconds : List Int
end Go.PB
namespace Go.AB
open Go Go.RowKit
open Go.AB.Enc (cells)
open Go.PB (ay aj PlaceD bg bi bh bn ak ah cr bq dr dt ukt)
end Go.AB
namespace Go.Proofs.YtgffhbbcpgdjjaaGreatDoor
set_option maxRecDepth 10000
open Go Go.RowKit Go.AB
open Go.AB.Enc (cells)
open Go.PB (ay aj PlaceD bg bi bh bn ak ah cr bq dr dt ukt)
theorem uhx (n : Nat) (p : ah) (b : Bool) (h : dc p = 0) {i : Nat} (hi : i < (cy p b).length) : gd n f8 Tryz.prog 16 [val p, .v (.bool b), .v (.int .i64 (i : Int))] (.tup [.v (.int .i64 (je p b i)), .v (.int .i64 0)]) := by
 have := ugh n p b (i : Int)
 have e : lh p b (i : Int) = 0 := by
  unfold lh
  rw [decide_eq_true h, cond_true, inB_true.2 (by omega)]; rfl
 rwa [e, show pa p b (i : Int) = je p b i by unfold pa; rw [e, Int.toNat_natCast]; rfl] at this
end Go.Proofs.YtgffhbbcpgdjjaaGreatDoor
namespace Go.AB
open Go Go.RowKit Go.ChangeShapes Go.WideShapes
end Go.AB
namespace Go.Proofs.YtgffhbbcpgdjjaaGreatDoor
set_option maxRecDepth 10000
open Go.ChangeShapes Go.WideShapes Go.ChangeAt Go.RowKit Go.AB
open Go.AB.Enc (cells)
open Go.PB (ay aj PlaceD bg bi bh)
instance : OpensE Tryz.prog 3 Int := .int (by kernel_rfl)
instance : OpensE Tryz.prog 9 ByteArray := .str (by kernel_rfl)
instance : OpensE Tryz.prog 85 (List ByteArray) := .slice (e := 9) (by kernel_rfl) (by decide)
instance : OpensE Tryz.prog 82 (List (List ByteArray)) := .slice (e := 85) (by kernel_rfl) (by decide)
instance : OpensE Tryz.prog 84 ay := .chap (tI := 3) (tL := 82) (by kernel_rfl)
instance : OpensE Tryz.prog 22 (List ay) := .slice (e := 84) (by kernel_rfl) (by decide)
theorem umj : ku Tryz.prog 24 [(0, 22, 1)] 1 = true := by kernel_rfl
instance : OpensE Tryz.prog 24 (List ay) := .one (e := 22) umj
theorem uo8 : ku Tryz.prog 41 [(0, 3, 1), (1, 3, 1), (2, 3, 1)] 3 = true := by kernel_rfl
instance : OpensE Tryz.prog 41 PlaceD := .place (tI := 3) uo8
theorem ut0 : Tryz.prog.underlying 4 = some .bool := by kernel_rfl
theorem ownZ : ownKnob Tryz.prog.godebug = none := by kernel_rfl
end Go.Proofs.YtgffhbbcpgdjjaaGreatDoor
namespace Go.AB
open Go Go.RowKit Go.ChangeShapes Go.WideShapes
open Go.AB.Enc (cells)
open Go.PB (ay aj PlaceD bg bi bh bn ak ah cr bq)
theorem OpensE.reader {P : Program} {t tI : TypeId} [oI : OpensE P tI Int] (h : ku P t [(0, tI, 1), (1, tI, 1)] 2 = true) : OpensE P t bn :=
 .struct (α := bn) h fun w cs hl hp => by
  obtain ⟨a, ha⟩ := hp (0, tI, 1) (by simp) Int inferInstance oI
  obtain ⟨b, hb⟩ := hp (1, tI, 1) (by simp) Int inferInstance oI
  match cs, hl with
  | [u, v], _ => exact ⟨⟨a, b⟩, Rs.cons (Rs.single_inv ha) hb⟩
theorem OpensE.page {P : Program} {t tI tL : TypeId} [oI : OpensE P tI Int] [oL : OpensE P tL (List PlaceD)] (h : ku P t [(0, tI, 1), (1, tI, 1), (2, tI, 1), (3, tI, 1), (4, tL, 1), (5, tL, 1)] 6 = true) : OpensE P t ak :=
 .struct (α := ak) h fun w cs hl hp => by
  obtain ⟨a, ha⟩ := hp (0, tI, 1) (by simp) Int inferInstance oI
  obtain ⟨b, hb⟩ := hp (1, tI, 1) (by simp) Int inferInstance oI
  obtain ⟨c, hc⟩ := hp (2, tI, 1) (by simp) Int inferInstance oI
  obtain ⟨d, hd⟩ := hp (3, tI, 1) (by simp) Int inferInstance oI
  obtain ⟨e, he⟩ := hp (4, tL, 1) (by simp) (List PlaceD) inferInstance oL
  obtain ⟨f, hf⟩ := hp (5, tL, 1) (by simp) (List PlaceD) inferInstance oL
  match cs, hl with
  | [u0, u1, u2, u3, u4, u5], _ => exact ⟨⟨a, b, c, d, e, f⟩, Rs.cons (Rs.single_inv ha) (Rs.cons (Rs.single_inv hb) (Rs.cons (Rs.single_inv hc) (Rs.cons (Rs.single_inv hd) (Rs.cons (Rs.single_inv he) hf))))⟩
theorem OpensE.proofs {P : Program} {t tT tR tP : TypeId} [oT : OpensE P tT (List ay)] [oR : OpensE P tR (List bn)] [oP : OpensE P tP (List ak)] (h : ku P t [(0, tT, 1), (1, tR, 1), (2, tR, 1), (3, tP, 1)] 4 = true) : OpensE P t ah :=
 .struct (α := ah) h fun w cs hl hp => by
  obtain ⟨a, ha⟩ := hp (0, tT, 1) (by simp) (List ay) inferInstance oT
  obtain ⟨b, hb⟩ := hp (1, tR, 1) (by simp) (List bn) inferInstance oR
  obtain ⟨c, hc⟩ := hp (2, tR, 1) (by simp) (List bn) inferInstance oR
  obtain ⟨d, hd⟩ := hp (3, tP, 1) (by simp) (List ak) inferInstance oP
  match cs, hl with
  | [u0, u1, u2, u3], _ => exact ⟨⟨a, b, c, d⟩, Rs.cons (Rs.single_inv ha) (Rs.cons (Rs.single_inv hb) (Rs.cons (Rs.single_inv hc) hd))⟩
end Go.AB
namespace Go.AB
open Go Go.RowKit Go.ChangeShapes Go.WideShapes
open Go.AB.Enc (cells)
open Go.PB (ay aj PlaceD bn ak ah cr bq)
def uig (P : Program) (t : TypeId) : Bool := match P.underlying t with | some (.func _ _ _) => true | _ => false
theorem uc5 {P : Program} {t : TypeId} (h : uig P t = true) : ∃ ps rs va, P.underlying t = some (.func ps rs va) := by
 unfold uig at h
 split at h
 ·rename_i ps rs va he; exact ⟨ps, rs, va, he⟩
 ·cases h
/-- Functions that lie in a variable's cells. -/
theorem usy {W : World} {b : Nat} {cs : List C} (hne : cs ≠ []) (hone : ∀ c ∈ cs, c.one = true) (us : Nat → Value) (hc : ∀ j, j < cs.length → W.cell? ⟨b, j, none⟩ = some (us j)) (hr : ∀ j c, cs[j]? = some c → R (jm W) W c (us j)) : R (jm W) W (.elem cs) (.pointer (some ⟨b, 0, none⟩)) := by
 have hl : 0 < cs.length := List.length_pos_iff.2 hne
 refine .elem hne hone (.inr ⟨b, 0, rfl, ?_, fun j hj => by rw [Nat.zero_add]; exact hc j hj⟩) hr
 have := udg (hc (cs.length - 1) (by omega))
 show 0 + cs.length ≤ ro W b
 omega
theorem url {P : Program} {f : FuncId} {cs : List C} {v gv : Value} {gc : C} (hp : gd 0 (.fact gv gc) P f cs (.v v)) {w : World} {args : List Value} (hK : R (jm w) w gc gv) (hr : Rs (jm w) w cs args) :
  Calls P f args.toArray w fun e w' => e = .returned v ∧ Below w.heap.size w w' :=
 urm (fun G nx hG => by
  intro E w' as' hrs hsg
  exact hp G nx hG (by obtain ⟨t, _⟩ := hsg.obj 0 _ hG; have := hsg.lt 0 _ t; rw [hsg.nx] at this; exact this) E w' as' hrs hsg) hK hr
/-- a cell of a function's type, as it reads -/
theorem vh {P : Program} {W : World} {t : TypeId} {ps rs : Array TypeId} {va : Bool} {v : Value} {b : UInt8} {r : List UInt8} {f0 : FuncId} (hu : P.underlying t = some (.func ps rs va)) (hv : IsFunc v) (hd : veil (funcToken P) t v = .held (b :: r))
  (hone : ((List.range P.funcs.size).filter fun f => (P.funcs[f]?).any (·.name.toUTF8.data.toList == b :: r)) = [f0]) : v = .func (.func f0) #[] #[] :=
 Go.func_of_trod (w := W) (base := 0) (sp := fun _ => true) (fuel := 1) (q := []) hu hone (by
  have := trod_func (enc := funcToken P) hu (W := W) (base := 0) (sp := fun _ => true) hv 0
  rw [hd] at this
  exact this)
end Go.AB
namespace Go.Proofs.YtgffhbbcpgdjjaaGreatDoor
set_option maxRecDepth 10000
open Go.ChangeShapes Go.WideShapes Go.ChangeAt Go.RowKit Go.AB
open Go.AB.Enc (cells)
open Go.PB (ay aj PlaceD bn ak ah cr bq)
instance : OpensE Tryz.prog 47 bn := .reader (tI := 3) (by kernel_rfl)
instance : OpensE Tryz.prog 25 (List bn) := .slice (e := 47) (by kernel_rfl) (by decide)
instance : OpensE Tryz.prog 36 (List PlaceD) := .slice (e := 41) (by kernel_rfl) (by decide)
instance : OpensE Tryz.prog 38 ak := .page (tI := 3) (tL := 36) (by kernel_rfl)
instance : OpensE Tryz.prog 26 (List ak) := .slice (e := 38) (by kernel_rfl) (by decide)
theorem ufz : ku Tryz.prog 28 [(0, 24, 1), (1, 25, 1), (2, 25, 1), (3, 26, 1)] 4 = true := by kernel_rfl
instance : OpensE Tryz.prog 28 ah := .proofs (tT := 24) (tR := 25) (tP := 26) ufz
theorem gSides : Tryz.prog.globalNamed "postil/proof.sides" = some 0 := by kernel_rfl
theorem tSides : (Tryz.prog.globals[0]?).map (·.type) = some 108 := by kernel_rfl
theorem ulr : Tryz.prog.underlying 108 = some (.array 2 107) := by kernel_rfl
theorem utx : Tryz.prog.cellsOf 108 = 6 := by kernel_rfl
theorem ujo : Tryz.prog.cellsOf 107 = 3 := by kernel_rfl
theorem ue9 : ku Tryz.prog 107 [(0, 103, 1), (1, 104, 1), (2, 105, 1)] 3 = true := by kernel_rfl
theorem uiu : ∃ ps rs va, Tryz.prog.underlying 103 = some (.func ps rs va) := uc5 (by kernel_rfl)
theorem uiw : ∃ ps rs va, Tryz.prog.underlying 104 = some (.func ps rs va) := uc5 (by kernel_rfl)
theorem uiv : ∃ ps rs va, Tryz.prog.underlying 105 = some (.func ps rs va) := uc5 (by kernel_rfl)
theorem ue3 {W : World} {m : Nat} {cs : List Value} {y : DataW (List UInt8) × List MemPlace} {d0 d1 d2 : DataW (List UInt8)} (hy : y.1 = .agg [d0, d1, d2])
  (h : DataW.trod (funcToken Tryz.prog) Tryz.prog W 0 (fun _ => true) true m 107 cs = some y) : ∃ v0 v1 v2, cs = [v0, v1, v2] ∧ (IsFunc v0 ∧ veil (funcToken Tryz.prog) 103 v0 = d0) ∧ (IsFunc v1 ∧ veil (funcToken Tryz.prog) 104 v1 = d1) ∧ (IsFunc v2 ∧ veil (funcToken Tryz.prog) 105 v2 = d2) := by
 obtain ⟨_, fs, he⟩ := y7 ue9
 obtain ⟨xs, m', _, e1, hl, hlen, hf⟩ := DataW.trod_struct he h
 rw [ujo] at hl
 have hfs : fs.toList.map (fun f => (f.offset, f.type, Tryz.prog.cellsOf f.type)) = [(0, 103, 1), (1, 104, 1), (2, 105, 1)] := by
  have := ue9
  unfold ku at this
  rw [he] at this
  simp only [Bool.and_eq_true, beq_iff_eq] at this
  exact this.1
 obtain ⟨l⟩ := fs
 match l, hfs with
 | [f0, f1, f2], hfs =>
  simp only [List.map_cons, List.map_nil, List.cons.injEq, Prod.mk.injEq, and_true] at hfs
  obtain ⟨⟨a1, a2, a3⟩, ⟨b1, b2, b3⟩, ⟨c1, c2, c3⟩⟩ := hfs
  have h0 := hf 0 f0 rfl
  have h1 := hf 1 f1 rfl
  have h2 := hf 2 f2 rfl
  match cs, hl with
  | [u0, u1, u2], _ =>
   match xs, hlen with
   | [x0, x1, x2], _ =>
    subst e1
    simp only [List.map_cons, List.map_nil, DataW.agg.injEq, List.cons.injEq, and_true] at hy
    rw [a3, a1, a2] at h0
    rw [b3, b1, b2] at h1
    rw [c3, c1, c2] at h2
    obtain ⟨ps, rs, va, hu⟩ := uiu
    obtain ⟨ps', rs', va', hu'⟩ := uiw
    obtain ⟨ps2, rs2, va2, hu2⟩ := uiv
    obtain ⟨v0, q0, q1, q2⟩ := Go.RowKit.func_of_trod hu h0
    obtain ⟨v1, q3, q4, q5⟩ := Go.RowKit.func_of_trod hu' h1
    obtain ⟨v2, q6, q7, q8⟩ := Go.RowKit.func_of_trod hu2 h2
    have e0 : u0 = v0 := by simpa using q0
    have e1 : u1 = v1 := by simpa using q3
    have e2 : u2 = v2 := by simpa using q6
    subst e0; subst e1; subst e2
    have hx0 : x0 = (veil (funcToken Tryz.prog) 103 u0, []) := by simpa using q2
    have hx1 : x1 = (veil (funcToken Tryz.prog) 104 u1, []) := by simpa using q5
    have hx2 : x2 = (veil (funcToken Tryz.prog) 105 u2, []) := by simpa using q8
    subst hx0; subst hx1; subst hx2
    obtain ⟨k0, k1, k2⟩ := hy
    exact ⟨u0, u1, u2, rfl, ⟨q1, k0⟩, ⟨q4, k1⟩, ⟨q7, k2⟩⟩
 | [], hfs => exact absurd hfs (by simp)
 | [_], hfs => exact absurd hfs (by simp)
 | [_, _], hfs => exact absurd hfs (by simp)
 | _ :: _ :: _ :: _ :: _, hfs => exact absurd hfs (by simp)
theorem um7 {W : World} (h : funcsAt Tryz.prog W "postil/proof.sides" (.agg [.agg [.iface "func" (.lit (.string [112, 111, 115, 116, 105, 108, 47, 112, 114, 111, 111, 102, 46, 115, 105, 100, 101, 115, 36, 49])), .iface "func" (.lit (.string [112, 111, 115, 116, 105, 108, 47, 112, 114, 111, 111, 102, 46, 115, 105, 100, 101, 115, 36, 50])), .iface "func" (.lit (.string [112, 111, 115, 116, 105, 108, 47, 112, 114, 111, 111, 102, 46, 115, 105, 100, 101, 115, 36, 51]))], .agg [.iface "func" (.lit (.string [112, 111, 115, 116, 105, 108, 47, 112, 114, 111, 111, 102, 46, 115, 105, 100, 101, 115, 36, 52])), .iface "func" (.lit (.string [112, 111, 115, 116, 105, 108, 47, 112, 114, 111, 111, 102, 46, 115, 105, 100, 101, 115, 36, 53])), .iface "func" (.lit (.string [112, 111, 115, 116, 105, 108, 47, 112, 114, 111, 111, 102, 46, 115, 105, 100, 101, 115, 36, 54]))]])) : R (jm W) W (.elem sidL) (.pointer (some ⟨0, 0, none⟩)) := by
 obtain ⟨g, t, cs, fuel, p, hg, ht, hv, hd⟩ := h
 obtain rfl := Option.some.inj (gSides.symm.trans hg)
 obtain rfl := Option.some.inj (tSides.symm.trans ht)
 obtain ⟨xs, m, _, e1, hl, hn, hel⟩ := DataW.trod_array ulr hd
 rw [utx] at hl
 rw [ujo] at hel
 have hcell := fun i => World.var?_cell hg hv i
 obtain ⟨l⟩ := cs
 dsimp only at hl hel hcell
 match l, hl with
 | [u0, u1, u2, u3, u4, u5], _ =>
  match xs, hn with
  | [x0, x1], _ =>
   simp only [Prod.mk.injEq] at e1
   have e2 : (.agg [.agg [.held [112, 111, 115, 116, 105, 108, 47, 112, 114, 111, 111, 102, 46, 115, 105, 100, 101, 115, 36, 49], .held [112, 111, 115, 116, 105, 108, 47, 112, 114, 111, 111, 102, 46, 115, 105, 100, 101, 115, 36, 50], .held [112, 111, 115, 116, 105, 108, 47, 112, 114, 111, 111, 102, 46, 115, 105, 100, 101, 115, 36, 51]], .agg [.held [112, 111, 115, 116, 105, 108, 47, 112, 114, 111, 111, 102, 46, 115, 105, 100, 101, 115, 36, 52], .held [112, 111, 115, 116, 105, 108, 47, 112, 114, 111, 111, 102, 46, 115, 105, 100, 101, 115, 36, 53], .held [112, 111, 115, 116, 105, 108, 47, 112, 114, 111, 111, 102, 46, 115, 105, 100, 101, 115, 36, 54]]] : DataW (List UInt8)) = .agg [x0.1, x1.1] := e1.1
   simp only [DataW.agg.injEq, List.cons.injEq, and_true] at e2
   obtain ⟨a0, a1, a2, q0, ⟨a3, a4⟩, ⟨a5, a6⟩, ⟨a7, a8⟩⟩ := ue3 e2.1.symm (hel 0 (by omega))
   obtain ⟨b0, b1, b2, q1, ⟨b3, b4⟩, ⟨b5, b6⟩, ⟨b7, b8⟩⟩ := ue3 e2.2.symm (hel 1 (by omega))
   simp only [Nat.zero_mul, Nat.one_mul, List.drop_zero, List.drop_succ_cons, List.take_succ_cons, List.take_zero, List.cons.injEq, and_true] at q0 q1
   obtain ⟨rfl, rfl, rfl⟩ := q0
   obtain ⟨rfl, rfl, rfl⟩ := q1
   obtain ⟨ps, rs, va, hu⟩ := uiu
   obtain ⟨ps', rs', va', hu'⟩ := uiw
   obtain ⟨ps2, rs2, va2, hu2⟩ := uiv
   obtain rfl := vh (W := W) (f0 := 135) hu a3 a4 (by kernel_rfl)
   obtain rfl := vh (W := W) (f0 := 136) hu' a5 a6 (by kernel_rfl)
   obtain rfl := vh (W := W) (f0 := 137) hu2 a7 a8 (by kernel_rfl)
   obtain rfl := vh (W := W) (f0 := 138) hu b3 b4 (by kernel_rfl)
   obtain rfl := vh (W := W) (f0 := 139) hu' b5 b6 (by kernel_rfl)
   obtain rfl := vh (W := W) (f0 := 140) hu2 b7 b8 (by kernel_rfl)
   let L : List Value := [.func (.func 135) #[] #[], .func (.func 136) #[] #[], .func (.func 137) #[] #[], .func (.func 138) #[] #[], .func (.func 139) #[] #[], .func (.func 140) #[] #[]]
   refine usy (by simp [sidL, qt]) (by intro c hc; simp only [sidL, qt, List.cons_append, List.nil_append, List.mem_cons, List.not_mem_nil, or_false] at hc; rcases hc with rfl | rfl | rfl | rfl | rfl | rfl <;> rfl) (fun j => L.getD j undef) (fun j hj => ?_) (fun j c hc => ?_)
   ·have := hcell j
    have hj' : j < 6 := hj
    rw [this]
    show (L.toArray)[j]? = _
    rw [List.getElem?_toArray, List.getD_eq_getElem?_getD, List.getElem?_eq_getElem (show j < L.length from hj')]
    rfl
   ·match j, hc with
    | 0, hc => cases hc; exact Rs.fn (vs := []) Rs.nil
    | 1, hc => cases hc; exact Rs.fn (vs := []) Rs.nil
    | 2, hc => cases hc; exact Rs.fn (vs := []) Rs.nil
    | 3, hc => cases hc; exact Rs.fn (vs := []) Rs.nil
    | 4, hc => cases hc; exact Rs.fn (vs := []) Rs.nil
    | 5, hc => cases hc; exact Rs.fn (vs := []) Rs.nil
abbrev xu : List (String × DataW Unit) := [("postil/proof.sides", Rows.laid_postil_proof_sides)]
set_option maxRecDepth 100000 in
/-- The door's own heap meets the condition. -/
theorem utb (os : Os) (args : Array Value) : laidMetH Tryz.prog xu ((World.doorLaid Tryz.prog 600 os).forCall (fun _ _ => 0) ⟨#[], args, []⟩).memory :=
 laidMetH_of_parts3 (fuel := 8) (laidMet_of_run' 8 (by kernel_rfl) (by kernel_rfl)) (by kernel_rfl) (by kernel_rfl)
theorem um6 {W : World} (h : laidMetH Tryz.prog xu W) : R (jm W) W (.elem sidL) (.pointer (some ⟨0, 0, none⟩)) := um7 (h.funcs (List.mem_cons_self ..))
end Go.Proofs.YtgffhbbcpgdjjaaGreatDoor
namespace Go.AB
open Go Go.RowKit Go.ChangeShapes Go.WideShapes
open Go.AB.Enc (cells)
structure U32 where
 v : Int
instance : Enc U32 := ⟨fun x => [.v (.int .u32 x.v)], 1, fun _ => rfl, fun m x c h => by simp at h; subst h; exact .v, fun x c h => by simp at h; subst h; rfl⟩
theorem OpensE.u32 {P : Program} {t : TypeId} (h : uai P t .u32 = true) : OpensE P t U32 where
 n := (uah h).2
 op hx := by
  obtain ⟨n, rfl, _, h2⟩ := DataW.trod_int (uah h).1 hx
  refine ⟨⟨n⟩, Rs.single (.v ?_)⟩
  simp [Lit.wf, IntKind.min, IntKind.max, IntKind.signed, IntKind.bits] at h2
  exact okV_int.2 ⟨by show (0 : Int) ≤ n; omega, by show n ≤ (4294967295 : Int); omega⟩
theorem OpensE.argList {P : Program} {t e : TypeId} {α : Type} [Enc α] [o : OpensE P t (List α)] (h : wj P t e = true) {H : Type} {enc : TypeId × Value → H} {w : World} {base : Nat} {spare : Nat → Bool} {held : Bool} {r : Reach} {b0 : Nat} {v : Value} {d : DataW H} {ps : List MemPlace}
  (hv : Value.okWide P w r b0 t v) (hd : DataW.Trod enc P w base spare held t v d ps) : ∃ a : List α, R (jm w) w (lst a) v := by
 obtain ⟨a, n, c, rfl⟩ := okWide_slice (ubq h).1 hv
 obtain ⟨fuel, hf⟩ := hd
 obtain ⟨xs, hx⟩ := o.op hf
 exact ⟨xs, Rs.single_inv hx⟩
end Go.AB
namespace Go.Proofs.YtgffhbbcpgdjjaaGreatDoor
set_option maxRecDepth 10000
open Go.ChangeShapes Go.WideShapes Go.ChangeAt Go.RowKit Go.AB
open Go.AB.Enc (cells)
instance : OpensE Tryz.prog 81 U32 := .u32 (by kernel_rfl)
instance : OpensE Tryz.prog 29 (List U32) := .slice (e := 81) (by kernel_rfl) (by decide)
theorem uls : wj Tryz.prog 29 81 = true := by kernel_rfl
end Go.Proofs.YtgffhbbcpgdjjaaGreatDoor
namespace Go.AB
open Go Go.RowKit
open Go.AB.Enc (cells)
open Go.PB (ay aj PlaceD bg bi bh bn ak ah cr bq dr dt)
/-- a number of a list with an index, which goes round -/
def jl (by_ : List U32) (i : Nat) : Int := match by_[i % by_.length]? with | some x => x.v | none => 0
theorem utj {l : List U32} {i : Nat} (h : l.length = 0) : jl l i = 0 := by
 rw [List.length_eq_zero_iff.1 h]; rfl
theorem utk {l : List U32} {i : Nat} {x : U32} (h : l[i % l.length]? = some x) : jl l i = x.v := by unfold jl; rw [h]
theorem utl {l : List U32} (h : ∀ x ∈ l, 0 ≤ x.v ∧ x.v ≤ 4294967295) (i : Nat) : 0 ≤ jl l i ∧ jl l i ≤ 4294967295 := by
 unfold jl
 cases hx : l[i % l.length]? with
 | none => exact ⟨Int.le_refl _, by show (0 : Int) ≤ 4294967295; omega⟩
 | some x => exact h x (List.mem_of_getElem? hx)
theorem ult {l : List U32} (h : (lst l).fit) : ∀ x ∈ l, 0 ≤ x.v ∧ x.v ≤ 4294967295 := fun x hx => by
 have h1 := (fit_lst.1 h).2 x hx (.v (.int .u32 x.v)) (List.mem_cons_self ..)
 exact okV_int.1 (fit_v.1 h1)
end Go.AB
namespace Go.Proofs.YtgffhbbcpgdjjaaGreatDoor
set_option maxRecDepth 10000
open Go Go.RowKit Go.AB
open Go.AB.Enc (cells)
open Go.PB (ay aj PlaceD bg bi bh bn ak ah cr bq dr dt)
theorem uhw (l : List U32) (i : Nat) (hb : ∀ x ∈ l, 0 ≤ x.v ∧ x.v ≤ 4294967295) (hi : i ≤ 1000000) : Pure Tryz.prog 8 [lst l, .v (.int .i64 (i : Int))] (.v (.int .i64 (jl l i))) := by
 refine dg Tryz.func8 rfl (fun m => .v) fun G nx => ?_
 simp only [Tryz.ntmps8, List.length_cons, List.length_nil, Nat.reduceAdd, Nat.reduceSub]
 refine cb fun hlt => ?_
 dsimp only at hlt
 refine l9 0 (fun hf => ?_)
 have hf1 := (fit_lst.1 hf).1
 refine yS fun _ K1 => ?_
 refine yR ?_
 refine yA rfl rfl ?_
 refine yN ?_
 dsimp only [St.put]
 refine K1 _ ?_
 refine yS fun _ K2 => ?_
 refine yS fun _ K3 => ?_
 refine yR ?_
 refine yM rfl rfl ?_
 refine aa rfl (bp rfl rfl (List.length_map _)) ?_
 refine aa rfl (gl rfl rfl rfl) ?_
 refine yN ?_
 dsimp only [St.put]
 refine K3 _ ?_
 refine aq rfl (fun hc => ?_) (fun hc => ?_)
 ·have h0 : l.length = 0 := by have := of_decide_eq_true hc; omega
  refine yS fun _ K4 => ?_
  refine yR ?_
  refine yA rfl rfl ?_
  refine yN ?_
  dsimp only [St.put]
  refine K4 _ ?_
  refine ar ?_
  refine bj rfl (by constructor) zN zS ?_
  exact vi (utj h0).symm
 have h0 : l.length ≠ 0 := by have := of_decide_eq_false hc; omega
 have hlt2 : i % l.length < l.length := Nat.mod_lt _ (by omega)
 obtain ⟨x, hx⟩ : ∃ x, l[i % l.length]? = some x := dl hlt2
 have hxb := hb x (gh hx)
 have hmod : ((i : Int) % (l.length : Int)) = ((i % l.length : Nat) : Int) := (Int.natCast_emod i l.length).symm
 have hpos : (0 : Int) < (l.length : Int) := by omega
 refine ax ?_
 refine K2 _ ?_
 refine yS fun _ K5 => ?_
 refine yR ?_
 refine yM rfl rfl ?_
 refine yM rfl rfl ?_
 refine yM rfl rfl ?_
 refine aa rfl (bp rfl rfl (List.length_map _)) ?_
 refine aa rfl ((xi hmod rfl rfl rfl (by omega) hpos)) ?_
 refine aa rfl (bw rfl rfl rfl rfl (bu (by assumption)) (Enc.len _)) ?_
 refine yL rfl rfl rfl ?_
 refine aa rfl ((uqo rfl rfl rfl rfl (by omega))) ?_
 refine yA rfl rfl ?_
 refine yN ?_
 dsimp only [St.put]
 refine K5 _ ?_
 refine ar ?_
 refine bj rfl (by constructor) zN zS ?_
 exact vi (utk hx).symm
end Go.Proofs.YtgffhbbcpgdjjaaGreatDoor
namespace Go.AB
open Go Go.RowKit
open Go.AB.Enc (cells)
open Go.PB (ay aj PlaceD bg bi bh bn ak ah cr bq)
def twD (i : Nat) : Bool := [3, 5, 6, 7, 8, 9, 10, 11, 12, 13, 14, 15, 16, 17, 18, 19, 20].contains i
structure TwS (p : ah) (eR eP : TypeId) (G0 : Nat → Option GObj) (n0 nn df : Nat) (l0 : List C) (A0 : Nat → C) (b2 b3 b6 b7 b10 b11 b14 b15 b16 b17 : Bool) (st : St) (a b c d va vb vc : Nat) : Prop where
 n : st.n = nn
 df : st.df = df
 l : st.l = l0
 nx : st.nx = n0 + b3.toNat + b7.toNat + b11.toNat + b16.toNat
 s : ∀ i, twD i = false → bz st.l st.r i = A0 i
 x10 : bz st.l st.r 10 = lst p.firsts
 x14 : bz st.l st.r 14 = lst p.seconds
 x18 : bz st.l st.r 18 = lst p.pages
 x6 : bz st.l st.r 6 = gx p.text
 f2 : b2 = true → bz st.l st.r 7 = gx p.text
 f3 : b3 = true → bz st.l st.r 8 = .own a 0 0
 r3 : b3 = true → n0 ≤ a ∧ a < st.nx
 g3 : b3 = true → b6 = false → st.G a = some (.arr 0 0 eR 2 0 [])
 f6 : b6 = true → bz st.l st.r 11 = .own a va p.firsts.length
 g6 : b6 = true → st.G a = some (.arr va 0 eR 2 p.firsts.length (az p.firsts))
 f7 : b7 = true → bz st.l st.r 12 = .own b 0 0
 r7 : b7 = true → n0 ≤ b ∧ b < st.nx
 g7 : b7 = true → b10 = false → st.G b = some (.arr 0 0 eR 2 0 [])
 f10 : b10 = true → bz st.l st.r 15 = .own b vb p.seconds.length
 g10 : b10 = true → st.G b = some (.arr vb 0 eR 2 p.seconds.length (az p.seconds))
 f11 : b11 = true → bz st.l st.r 16 = .own c 0 0
 r11 : b11 = true → n0 ≤ c ∧ c < st.nx
 g11 : b11 = true → b14 = false → st.G c = some (.arr 0 0 eP 6 0 [])
 f14 : b14 = true → bz st.l st.r 19 = .own c vc p.pages.length
 g14 : b14 = true → st.G c = some (.arr vc 0 eP 6 p.pages.length (az p.pages))
 f15 : b15 = true → bz st.l st.r 20 = .agg [lst p.text, .own a va p.firsts.length, .own b vb p.seconds.length, .own c vc p.pages.length]
 f16 : b16 = true → bz st.l st.r 3 = .box d 0 0
 r16 : b16 = true → n0 ≤ d ∧ d < st.nx
 g16 : b16 = true → b17 = false → st.G d = some (.box 0 [.list [] .nil, .list [] .nil, .list [] .nil, .list [] .nil])
 f17 : b17 = true → st.G d = some (.box 1 [lst p.text, .own a va p.firsts.length, .own b vb p.seconds.length, .own c vc p.pages.length])
 ab : b3 = true → b7 = true → a ≠ b
 ac : b3 = true → b11 = true → a ≠ c
 ad : b3 = true → b16 = true → a ≠ d
 bc : b7 = true → b11 = true → b ≠ c
 bd : b7 = true → b16 = true → b ≠ d
 cd : b11 = true → b16 = true → c ≠ d
 G : ∀ m, (b3 = true → m ≠ a) → (b7 = true → m ≠ b) → (b11 = true → m ≠ c) → (b16 = true → m ≠ d) → st.G m = G0 m
 e6 : b6 = true → b3 = true
 e10 : b10 = true → b7 = true
 e14 : b14 = true → b11 = true
 e17 : b17 = true → b16 = true
 e18 : b17 = true → b15 = true
 q2 : b15 = true → b2 = true
 q6 : b15 = true → b6 = true
 q10 : b15 = true → b10 = true
 q14 : b15 = true → b14 = true
section
variable {p : ah} {eR eP : TypeId} {G0 : Nat → Option GObj} {n0 nn df : Nat} {l0 : List C} {A0 : Nat → C} {b2 b3 b6 b7 b10 b11 b14 b15 b16 b17 : Bool} {st : St} {a b c d va vb vc : Nat}
theorem qq {i j : Nat} (h : twD i = false) (k : twD j = true) : Nat.beq j i = false := by
 cases e : Nat.beq j i
 ·rfl
 ·rw [Nat.eq_of_beq_eq_true e, h] at k; cases k
theorem TwS.step2 (h : TwS p eR eP G0 n0 nn df l0 A0 false b3 b6 b7 b10 b11 b14 b15 b16 b17 st a b c d va vb vc) : TwS p eR eP G0 n0 nn df l0 A0 true b3 b6 b7 b10 b11 b14 b15 b16 b17 (st.put (some 7) (gx p.text)) a b c d va vb vc := by
 exact {
  n := h.n
  df := h.df
  l := h.l
  nx := h.nx
  s := fun i hi => by show (bif Nat.beq 7 i then _ else bz st.l st.r i) = _; rw [qq hi rfl]; exact h.s i hi
  x10 := h.x10
  x14 := h.x14
  x18 := h.x18
  x6 := h.x6
  f2 := fun _ => rfl
  f3 := h.f3
  r3 := h.r3
  g3 := h.g3
  f6 := h.f6
  g6 := h.g6
  f7 := h.f7
  r7 := h.r7
  g7 := h.g7
  f10 := h.f10
  g10 := h.g10
  f11 := h.f11
  r11 := h.r11
  g11 := h.g11
  f14 := h.f14
  g14 := h.g14
  f15 := h.f15
  f16 := h.f16
  r16 := h.r16
  g16 := h.g16
  f17 := h.f17
  ab := h.ab
  ac := h.ac
  ad := h.ad
  bc := h.bc
  bd := h.bd
  cd := h.cd
  G := h.G
  e6 := h.e6
  e10 := h.e10
  e14 := h.e14
  e17 := h.e17
  e18 := h.e18
  q2 := fun _ => rfl
  q6 := h.q6
  q10 := h.q10
  q14 := h.q14 }
theorem TwS.step3 (h : TwS p eR eP G0 n0 nn df l0 A0 b2 false b6 b7 b10 b11 b14 b15 b16 b17 st a b c d va vb vc) (k : b6 = false) (k15 : b15 = false) : TwS p eR eP G0 n0 nn df l0 A0 b2 true b6 b7 b10 b11 b14 b15 b16 b17 (St.put { st with G := ai st.G st.nx (.arr 0 0 eR 2 0 []), nx := st.nx + 1 } (some 8) (.own st.nx 0 0)) st.nx b c d va vb vc := by
 have hnx := h.nx
 subst k
 subst k15
 exact {
  n := h.n
  df := h.df
  l := h.l
  nx := by show st.nx + 1 = _; rw [hnx]; simp only [Bool.toNat_true, Bool.toNat_false] <;> omega
  s := fun i hi => by show (bif Nat.beq 8 i then _ else bz st.l st.r i) = _; rw [qq hi rfl]; exact h.s i hi
  x10 := h.x10
  x14 := h.x14
  x18 := h.x18
  x6 := h.x6
  f2 := h.f2
  f3 := fun _ => rfl
  r3 := fun _ => ⟨by omega, Nat.lt_succ_self _⟩
  g3 := fun _ _ => kx _ _ _
  f6 := fun e => nomatch e
  g6 := fun e => nomatch e
  f7 := h.f7
  r7 := fun e => ⟨(h.r7 e).1, Nat.lt_succ_of_lt (h.r7 e).2⟩
  g7 := fun e f => (ct (Nat.ne_of_lt (h.r7 e).2)).trans (h.g7 e f)
  f10 := h.f10
  g10 := fun f => have e := h.e10 f; (ct (Nat.ne_of_lt (h.r7 e).2)).trans (h.g10 f)
  f11 := h.f11
  r11 := fun e => ⟨(h.r11 e).1, Nat.lt_succ_of_lt (h.r11 e).2⟩
  g11 := fun e f => (ct (Nat.ne_of_lt (h.r11 e).2)).trans (h.g11 e f)
  f14 := h.f14
  g14 := fun f => have e := h.e14 f; (ct (Nat.ne_of_lt (h.r11 e).2)).trans (h.g14 f)
  f15 := fun e => nomatch e
  f16 := h.f16
  r16 := fun e => ⟨(h.r16 e).1, Nat.lt_succ_of_lt (h.r16 e).2⟩
  g16 := fun e f => (ct (Nat.ne_of_lt (h.r16 e).2)).trans (h.g16 e f)
  f17 := fun f => nomatch h.e18 f
  ab := fun _ e => (Nat.ne_of_lt (h.r7 e).2).symm
  ac := fun _ e => (Nat.ne_of_lt (h.r11 e).2).symm
  ad := fun _ e => (Nat.ne_of_lt (h.r16 e).2).symm
  bc := h.bc
  bd := h.bd
  cd := h.cd
  G := fun m h1 h2 h3 h4 => (ct (h1 rfl)).trans (h.G m (fun e => nomatch e) h2 h3 h4)
  e6 := fun e => nomatch e
  e10 := h.e10
  e14 := h.e14
  e17 := h.e17
  e18 := h.e18
  q2 := h.q2
  q6 := h.q6
  q10 := h.q10
  q14 := h.q14 }
theorem TwS.step6 (h : TwS p eR eP G0 n0 nn df l0 A0 b2 true false b7 b10 b11 b14 b15 b16 b17 st a b c d va vb vc) (k15 : b15 = false) (w : Nat) : TwS p eR eP G0 n0 nn df l0 A0 b2 true true b7 b10 b11 b14 b15 b16 b17 (St.put { st with G := ai st.G a (.arr w 0 eR 2 p.firsts.length (az p.firsts)) } (some 11) (.own a w p.firsts.length)) a b c d w vb vc := by
 subst k15
 exact {
  n := h.n
  df := h.df
  l := h.l
  nx := h.nx
  s := fun i hi => by show (bif Nat.beq 11 i then _ else bz st.l st.r i) = _; rw [qq hi rfl]; exact h.s i hi
  x10 := h.x10
  x14 := h.x14
  x18 := h.x18
  x6 := h.x6
  f2 := h.f2
  f3 := h.f3
  r3 := h.r3
  g3 := fun _ e => nomatch e
  f6 := fun _ => rfl
  g6 := fun _ => kx _ _ _
  f7 := h.f7
  r7 := h.r7
  g7 := fun e f => (ct (h.ab rfl e).symm).trans (h.g7 e f)
  f10 := h.f10
  g10 := fun f => have e := h.e10 f; (ct (h.ab rfl e).symm).trans (h.g10 f)
  f11 := h.f11
  r11 := h.r11
  g11 := fun e f => (ct (h.ac rfl e).symm).trans (h.g11 e f)
  f14 := h.f14
  g14 := fun f => have e := h.e14 f; (ct (h.ac rfl e).symm).trans (h.g14 f)
  f15 := fun e => nomatch e
  f16 := h.f16
  r16 := h.r16
  g16 := fun e f => (ct (h.ad rfl e).symm).trans (h.g16 e f)
  f17 := fun f => nomatch h.e18 f
  ab := h.ab
  ac := h.ac
  ad := h.ad
  bc := h.bc
  bd := h.bd
  cd := h.cd
  G := fun m h1 h2 h3 h4 => (ct (h1 rfl)).trans (h.G m h1 h2 h3 h4)
  e6 := fun _ => rfl
  e10 := h.e10
  e14 := h.e14
  e17 := h.e17
  e18 := h.e18
  q2 := h.q2
  q6 := fun _ => rfl
  q10 := h.q10
  q14 := h.q14 }
theorem TwS.step7 (h : TwS p eR eP G0 n0 nn df l0 A0 b2 b3 b6 false b10 b11 b14 b15 b16 b17 st a b c d va vb vc) (k : b10 = false) (k15 : b15 = false) : TwS p eR eP G0 n0 nn df l0 A0 b2 b3 b6 true b10 b11 b14 b15 b16 b17 (St.put { st with G := ai st.G st.nx (.arr 0 0 eR 2 0 []), nx := st.nx + 1 } (some 12) (.own st.nx 0 0)) a st.nx c d va vb vc := by
 have hnx := h.nx
 subst k
 subst k15
 exact {
  n := h.n
  df := h.df
  l := h.l
  nx := by show st.nx + 1 = _; rw [hnx]; simp only [Bool.toNat_true, Bool.toNat_false] <;> omega
  s := fun i hi => by show (bif Nat.beq 12 i then _ else bz st.l st.r i) = _; rw [qq hi rfl]; exact h.s i hi
  x10 := h.x10
  x14 := h.x14
  x18 := h.x18
  x6 := h.x6
  f2 := h.f2
  f3 := h.f3
  r3 := fun e => ⟨(h.r3 e).1, Nat.lt_succ_of_lt (h.r3 e).2⟩
  g3 := fun e f => (ct (Nat.ne_of_lt (h.r3 e).2)).trans (h.g3 e f)
  f6 := h.f6
  g6 := fun f => have e := h.e6 f; (ct (Nat.ne_of_lt (h.r3 e).2)).trans (h.g6 f)
  f7 := fun _ => rfl
  r7 := fun _ => ⟨by omega, Nat.lt_succ_self _⟩
  g7 := fun _ _ => kx _ _ _
  f10 := fun e => nomatch e
  g10 := fun e => nomatch e
  f11 := h.f11
  r11 := fun e => ⟨(h.r11 e).1, Nat.lt_succ_of_lt (h.r11 e).2⟩
  g11 := fun e f => (ct (Nat.ne_of_lt (h.r11 e).2)).trans (h.g11 e f)
  f14 := h.f14
  g14 := fun f => have e := h.e14 f; (ct (Nat.ne_of_lt (h.r11 e).2)).trans (h.g14 f)
  f15 := fun e => nomatch e
  f16 := h.f16
  r16 := fun e => ⟨(h.r16 e).1, Nat.lt_succ_of_lt (h.r16 e).2⟩
  g16 := fun e f => (ct (Nat.ne_of_lt (h.r16 e).2)).trans (h.g16 e f)
  f17 := fun f => nomatch h.e18 f
  ab := fun e _ => Nat.ne_of_lt (h.r3 e).2
  ac := h.ac
  ad := h.ad
  bc := fun _ e => (Nat.ne_of_lt (h.r11 e).2).symm
  bd := fun _ e => (Nat.ne_of_lt (h.r16 e).2).symm
  cd := h.cd
  G := fun m h1 h2 h3 h4 => (ct (h2 rfl)).trans (h.G m h1 (fun e => nomatch e) h3 h4)
  e6 := h.e6
  e10 := fun e => nomatch e
  e14 := h.e14
  e17 := h.e17
  e18 := h.e18
  q2 := h.q2
  q6 := h.q6
  q10 := h.q10
  q14 := h.q14 }
theorem TwS.step10 (h : TwS p eR eP G0 n0 nn df l0 A0 b2 b3 b6 true false b11 b14 b15 b16 b17 st a b c d va vb vc) (k15 : b15 = false) (w : Nat) : TwS p eR eP G0 n0 nn df l0 A0 b2 b3 b6 true true b11 b14 b15 b16 b17 (St.put { st with G := ai st.G b (.arr w 0 eR 2 p.seconds.length (az p.seconds)) } (some 15) (.own b w p.seconds.length)) a b c d va w vc := by
 subst k15
 exact {
  n := h.n
  df := h.df
  l := h.l
  nx := h.nx
  s := fun i hi => by show (bif Nat.beq 15 i then _ else bz st.l st.r i) = _; rw [qq hi rfl]; exact h.s i hi
  x10 := h.x10
  x14 := h.x14
  x18 := h.x18
  x6 := h.x6
  f2 := h.f2
  f3 := h.f3
  r3 := h.r3
  g3 := fun e f => (ct (h.ab e rfl)).trans (h.g3 e f)
  f6 := h.f6
  g6 := fun f => have e := h.e6 f; (ct (h.ab e rfl)).trans (h.g6 f)
  f7 := h.f7
  r7 := h.r7
  g7 := fun _ e => nomatch e
  f10 := fun _ => rfl
  g10 := fun _ => kx _ _ _
  f11 := h.f11
  r11 := h.r11
  g11 := fun e f => (ct (h.bc rfl e).symm).trans (h.g11 e f)
  f14 := h.f14
  g14 := fun f => have e := h.e14 f; (ct (h.bc rfl e).symm).trans (h.g14 f)
  f15 := fun e => nomatch e
  f16 := h.f16
  r16 := h.r16
  g16 := fun e f => (ct (h.bd rfl e).symm).trans (h.g16 e f)
  f17 := fun f => nomatch h.e18 f
  ab := h.ab
  ac := h.ac
  ad := h.ad
  bc := h.bc
  bd := h.bd
  cd := h.cd
  G := fun m h1 h2 h3 h4 => (ct (h2 rfl)).trans (h.G m h1 h2 h3 h4)
  e6 := h.e6
  e10 := fun _ => rfl
  e14 := h.e14
  e17 := h.e17
  e18 := h.e18
  q2 := h.q2
  q6 := h.q6
  q10 := fun _ => rfl
  q14 := h.q14 }
theorem TwS.step11 (h : TwS p eR eP G0 n0 nn df l0 A0 b2 b3 b6 b7 b10 false b14 b15 b16 b17 st a b c d va vb vc) (k : b14 = false) (k15 : b15 = false) : TwS p eR eP G0 n0 nn df l0 A0 b2 b3 b6 b7 b10 true b14 b15 b16 b17 (St.put { st with G := ai st.G st.nx (.arr 0 0 eP 6 0 []), nx := st.nx + 1 } (some 16) (.own st.nx 0 0)) a b st.nx d va vb vc := by
 have hnx := h.nx
 subst k
 subst k15
 exact {
  n := h.n
  df := h.df
  l := h.l
  nx := by show st.nx + 1 = _; rw [hnx]; simp only [Bool.toNat_true, Bool.toNat_false] <;> omega
  s := fun i hi => by show (bif Nat.beq 16 i then _ else bz st.l st.r i) = _; rw [qq hi rfl]; exact h.s i hi
  x10 := h.x10
  x14 := h.x14
  x18 := h.x18
  x6 := h.x6
  f2 := h.f2
  f3 := h.f3
  r3 := fun e => ⟨(h.r3 e).1, Nat.lt_succ_of_lt (h.r3 e).2⟩
  g3 := fun e f => (ct (Nat.ne_of_lt (h.r3 e).2)).trans (h.g3 e f)
  f6 := h.f6
  g6 := fun f => have e := h.e6 f; (ct (Nat.ne_of_lt (h.r3 e).2)).trans (h.g6 f)
  f7 := h.f7
  r7 := fun e => ⟨(h.r7 e).1, Nat.lt_succ_of_lt (h.r7 e).2⟩
  g7 := fun e f => (ct (Nat.ne_of_lt (h.r7 e).2)).trans (h.g7 e f)
  f10 := h.f10
  g10 := fun f => have e := h.e10 f; (ct (Nat.ne_of_lt (h.r7 e).2)).trans (h.g10 f)
  f11 := fun _ => rfl
  r11 := fun _ => ⟨by omega, Nat.lt_succ_self _⟩
  g11 := fun _ _ => kx _ _ _
  f14 := fun e => nomatch e
  g14 := fun e => nomatch e
  f15 := fun e => nomatch e
  f16 := h.f16
  r16 := fun e => ⟨(h.r16 e).1, Nat.lt_succ_of_lt (h.r16 e).2⟩
  g16 := fun e f => (ct (Nat.ne_of_lt (h.r16 e).2)).trans (h.g16 e f)
  f17 := fun f => nomatch h.e18 f
  ab := h.ab
  ac := fun e _ => Nat.ne_of_lt (h.r3 e).2
  ad := h.ad
  bc := fun e _ => Nat.ne_of_lt (h.r7 e).2
  bd := h.bd
  cd := fun _ e => (Nat.ne_of_lt (h.r16 e).2).symm
  G := fun m h1 h2 h3 h4 => (ct (h3 rfl)).trans (h.G m h1 h2 (fun e => nomatch e) h4)
  e6 := h.e6
  e10 := h.e10
  e14 := fun e => nomatch e
  e17 := h.e17
  e18 := h.e18
  q2 := h.q2
  q6 := h.q6
  q10 := h.q10
  q14 := h.q14 }
theorem TwS.step14 (h : TwS p eR eP G0 n0 nn df l0 A0 b2 b3 b6 b7 b10 true false b15 b16 b17 st a b c d va vb vc) (k15 : b15 = false) (w : Nat) : TwS p eR eP G0 n0 nn df l0 A0 b2 b3 b6 b7 b10 true true b15 b16 b17 (St.put { st with G := ai st.G c (.arr w 0 eP 6 p.pages.length (az p.pages)) } (some 19) (.own c w p.pages.length)) a b c d va vb w := by
 subst k15
 exact {
  n := h.n
  df := h.df
  l := h.l
  nx := h.nx
  s := fun i hi => by show (bif Nat.beq 19 i then _ else bz st.l st.r i) = _; rw [qq hi rfl]; exact h.s i hi
  x10 := h.x10
  x14 := h.x14
  x18 := h.x18
  x6 := h.x6
  f2 := h.f2
  f3 := h.f3
  r3 := h.r3
  g3 := fun e f => (ct (h.ac e rfl)).trans (h.g3 e f)
  f6 := h.f6
  g6 := fun f => have e := h.e6 f; (ct (h.ac e rfl)).trans (h.g6 f)
  f7 := h.f7
  r7 := h.r7
  g7 := fun e f => (ct (h.bc e rfl)).trans (h.g7 e f)
  f10 := h.f10
  g10 := fun f => have e := h.e10 f; (ct (h.bc e rfl)).trans (h.g10 f)
  f11 := h.f11
  r11 := h.r11
  g11 := fun _ e => nomatch e
  f14 := fun _ => rfl
  g14 := fun _ => kx _ _ _
  f15 := fun e => nomatch e
  f16 := h.f16
  r16 := h.r16
  g16 := fun e f => (ct (h.cd rfl e).symm).trans (h.g16 e f)
  f17 := fun f => nomatch h.e18 f
  ab := h.ab
  ac := h.ac
  ad := h.ad
  bc := h.bc
  bd := h.bd
  cd := h.cd
  G := fun m h1 h2 h3 h4 => (ct (h3 rfl)).trans (h.G m h1 h2 h3 h4)
  e6 := h.e6
  e10 := h.e10
  e14 := fun _ => rfl
  e17 := h.e17
  e18 := h.e18
  q2 := h.q2
  q6 := h.q6
  q10 := h.q10
  q14 := fun _ => rfl }
theorem TwS.step15 (h : TwS p eR eP G0 n0 nn df l0 A0 true b3 true b7 true b11 true false b16 b17 st a b c d va vb vc) : TwS p eR eP G0 n0 nn df l0 A0 true b3 true b7 true b11 true true b16 b17 (st.put (some 20) (.agg [lst p.text, .own a va p.firsts.length, .own b vb p.seconds.length, .own c vc p.pages.length])) a b c d va vb vc := by
 exact {
  n := h.n
  df := h.df
  l := h.l
  nx := h.nx
  s := fun i hi => by show (bif Nat.beq 20 i then _ else bz st.l st.r i) = _; rw [qq hi rfl]; exact h.s i hi
  x10 := h.x10
  x14 := h.x14
  x18 := h.x18
  x6 := h.x6
  f2 := h.f2
  f3 := h.f3
  r3 := h.r3
  g3 := h.g3
  f6 := h.f6
  g6 := h.g6
  f7 := h.f7
  r7 := h.r7
  g7 := h.g7
  f10 := h.f10
  g10 := h.g10
  f11 := h.f11
  r11 := h.r11
  g11 := h.g11
  f14 := h.f14
  g14 := h.g14
  f15 := fun _ => rfl
  f16 := h.f16
  r16 := h.r16
  g16 := h.g16
  f17 := h.f17
  ab := h.ab
  ac := h.ac
  ad := h.ad
  bc := h.bc
  bd := h.bd
  cd := h.cd
  G := h.G
  e6 := h.e6
  e10 := h.e10
  e14 := h.e14
  e17 := h.e17
  e18 := fun _ => rfl
  q2 := fun _ => rfl
  q6 := fun _ => rfl
  q10 := fun _ => rfl
  q14 := fun _ => rfl }
theorem TwS.step16 (h : TwS p eR eP G0 n0 nn df l0 A0 b2 b3 b6 b7 b10 b11 b14 b15 false b17 st a b c d va vb vc) (k : b17 = false) : TwS p eR eP G0 n0 nn df l0 A0 b2 b3 b6 b7 b10 b11 b14 b15 true b17 (St.put { st with G := ai st.G st.nx (.box 0 [.list [] .nil, .list [] .nil, .list [] .nil, .list [] .nil]), nx := st.nx + 1 } (some 3) (.box st.nx 0 0)) a b c st.nx va vb vc := by
 have hnx := h.nx
 subst k
 exact {
  n := h.n
  df := h.df
  l := h.l
  nx := by show st.nx + 1 = _; rw [hnx]; simp only [Bool.toNat_true, Bool.toNat_false] <;> omega
  s := fun i hi => by show (bif Nat.beq 3 i then _ else bz st.l st.r i) = _; rw [qq hi rfl]; exact h.s i hi
  x10 := h.x10
  x14 := h.x14
  x18 := h.x18
  x6 := h.x6
  f2 := h.f2
  f3 := h.f3
  r3 := fun e => ⟨(h.r3 e).1, Nat.lt_succ_of_lt (h.r3 e).2⟩
  g3 := fun e f => (ct (Nat.ne_of_lt (h.r3 e).2)).trans (h.g3 e f)
  f6 := h.f6
  g6 := fun f => have e := h.e6 f; (ct (Nat.ne_of_lt (h.r3 e).2)).trans (h.g6 f)
  f7 := h.f7
  r7 := fun e => ⟨(h.r7 e).1, Nat.lt_succ_of_lt (h.r7 e).2⟩
  g7 := fun e f => (ct (Nat.ne_of_lt (h.r7 e).2)).trans (h.g7 e f)
  f10 := h.f10
  g10 := fun f => have e := h.e10 f; (ct (Nat.ne_of_lt (h.r7 e).2)).trans (h.g10 f)
  f11 := h.f11
  r11 := fun e => ⟨(h.r11 e).1, Nat.lt_succ_of_lt (h.r11 e).2⟩
  g11 := fun e f => (ct (Nat.ne_of_lt (h.r11 e).2)).trans (h.g11 e f)
  f14 := h.f14
  g14 := fun f => have e := h.e14 f; (ct (Nat.ne_of_lt (h.r11 e).2)).trans (h.g14 f)
  f15 := h.f15
  f16 := fun _ => rfl
  r16 := fun _ => ⟨by omega, Nat.lt_succ_self _⟩
  g16 := fun _ _ => kx _ _ _
  f17 := fun e => nomatch e
  ab := h.ab
  ac := h.ac
  ad := fun e _ => Nat.ne_of_lt (h.r3 e).2
  bc := h.bc
  bd := fun e _ => Nat.ne_of_lt (h.r7 e).2
  cd := fun e _ => Nat.ne_of_lt (h.r11 e).2
  G := fun m h1 h2 h3 h4 => (ct (h4 rfl)).trans (h.G m h1 h2 h3 (fun e => nomatch e))
  e6 := h.e6
  e10 := h.e10
  e14 := h.e14
  e17 := fun e => nomatch e
  e18 := fun e => nomatch e
  q2 := h.q2
  q6 := h.q6
  q10 := h.q10
  q14 := h.q14 }
theorem TwS.step17 (h : TwS p eR eP G0 n0 nn df l0 A0 b2 b3 b6 b7 b10 b11 b14 true true false st a b c d va vb vc) : TwS p eR eP G0 n0 nn df l0 A0 b2 b3 b6 b7 b10 b11 b14 true true true { st with G := ai st.G d (.box 1 [lst p.text, .own a va p.firsts.length, .own b vb p.seconds.length, .own c vc p.pages.length]) } a b c d va vb vc := by
 exact {
  n := h.n
  df := h.df
  l := h.l
  nx := h.nx
  s := h.s
  x10 := h.x10
  x14 := h.x14
  x18 := h.x18
  x6 := h.x6
  f2 := h.f2
  f3 := h.f3
  r3 := h.r3
  g3 := fun e f => (ct (h.ad e rfl)).trans (h.g3 e f)
  f6 := h.f6
  g6 := fun f => have e := h.e6 f; (ct (h.ad e rfl)).trans (h.g6 f)
  f7 := h.f7
  r7 := h.r7
  g7 := fun e f => (ct (h.bd e rfl)).trans (h.g7 e f)
  f10 := h.f10
  g10 := fun f => have e := h.e10 f; (ct (h.bd e rfl)).trans (h.g10 f)
  f11 := h.f11
  r11 := h.r11
  g11 := fun e f => (ct (h.cd e rfl)).trans (h.g11 e f)
  f14 := h.f14
  g14 := fun f => have e := h.e14 f; (ct (h.cd e rfl)).trans (h.g14 f)
  f15 := h.f15
  f16 := h.f16
  r16 := h.r16
  g16 := fun _ e => nomatch e
  f17 := fun _ => kx _ _ _
  ab := h.ab
  ac := h.ac
  ad := h.ad
  bc := h.bc
  bd := h.bd
  cd := h.cd
  G := fun m h1 h2 h3 h4 => (ct (h4 rfl)).trans (h.G m h1 h2 h3 h4)
  e6 := h.e6
  e10 := h.e10
  e14 := h.e14
  e17 := fun _ => rfl
  e18 := fun _ => rfl
  q2 := h.q2
  q6 := h.q6
  q10 := h.q10
  q14 := h.q14 }
end
end Go.AB
namespace Go.AB
open Go Go.RowKit
theorem qa {ops : Array Oper} {st : St} {o : Oper} (h1 : ve o.op = false) (h2 : o.guard = none) : fl ops st o = some true := by
 unfold fl xx
 rw [h1, h2]; rfl
theorem nm {st : St} {i n : Nat} {c : C} (hn : st.n = n) (hi : Nat.blt i n = true) (h : bz st.l st.r i = c) : st.at i = c := by
 unfold St.at
 rw [hn, hi]; exact h
theorem px {a b : Bool} (h : a = true → b = true) (hb : b = false) : a = false := by
 cases a
 ·rfl
 rw [h rfl] at hb; cases hb
end Go.AB
namespace Go.Proofs.YtgffhbbcpgdjjaaGreatDoor
set_option maxRecDepth 10000
open Go Go.RowKit Go.AB
open Go.AB.Enc (cells)
open Go.PB (ay aj PlaceD bg bi bh bn ak ah cr bq dr dt)
theorem uh7 {p : ah} (h : nh p = false) : mp p.text = false ∧ p.firsts.length ≤ 6 ∧ p.seconds.length ≤ 6 ∧ p.pages.length ≤ 12 ∧ ∀ x ∈ p.pages, x.found.length ≤ 200 ∧ x.well.length ≤ 200 := by
 unfold nh at h
 simp only [Bool.or_eq_false_iff, decide_eq_false_iff_not, List.any_eq_false] at h
 obtain ⟨⟨⟨⟨h1, h2⟩, h3⟩, h4⟩, h5⟩ := h
 refine ⟨h1, by omega, by omega, by omega, fun x hx => ?_⟩
 have := h5 x hx
 simp only [lz, Bool.or_eq_true, decide_eq_true_eq, not_or] at this
 omega
abbrev TwI (p : ah) (G0 : Nat → Option GObj) (n0 df : Nat) (l0 : List C) (A0 : Nat → C) (l : List Bool) (st : St) : Prop :=
 ∃ b2 b3 b6 b7 b10 b11 b14 b15 b16 b17 a b c d va vb vc, l = [true, true, b2, b3, true, true, b6, b7, true, true, b10, b11, true, true, b14, b15, b16, b17] ∧ TwS p 47 38 G0 n0 55 df l0 A0 b2 b3 b6 b7 b10 b11 b14 b15 b16 b17 st a b c d va vb vc
set_option maxHeartbeats 1000000 in
theorem ulz (p : ah) (hg : nh p = false) {ol : List Oper} {K : St → Prop} {late : Nat → Bool} (st0 : St) (hlen : ol.length = 18) (hf : xz ol = true) (hgd : ∀ o ∈ ol, o.guard = none)
  (hd : ol.map o5 = [[], [0], [1], [], [], [4], [3, 5, 2], [], [], [8], [7, 9, 6], [], [], [12], [11, 13, 10], [2, 6, 10, 14], [], [16, 15, 14, 0, 1, 2, 3, 4, 5, 6, 7, 8, 9, 10, 11, 12, 13, 14, 15, 16]])
  (hq : ol.map (·.dst) = [some 5, some 6, some 7, some 8, some 9, some 10, some 11, some 12, some 13, some 14, some 15, some 16, some 17, some 18, some 19, some 20, some 3, none])
  (ho : (ol.map (·.op)).drop 2 = [.call { callee := .value (.func 35), args := #[.tmp 6], argTypes := #[24] }, .buildSlice 25 0 #[], .fieldAddr 28 (.tmp 1) 1, .load 25 (.tmp 9),
   .call { callee := .builtin .append, args := #[.tmp 8, .tmp 10], argTypes := #[25, 25] }, .buildSlice 25 0 #[], .fieldAddr 28 (.tmp 1) 2, .load 25 (.tmp 13),
   .call { callee := .builtin .append, args := #[.tmp 12, .tmp 14], argTypes := #[25, 25] }, .buildSlice 26 0 #[], .fieldAddr 28 (.tmp 1) 3, .load 26 (.tmp 17),
   .call { callee := .builtin .append, args := #[.tmp 16, .tmp 18], argTypes := #[26, 26] }, .build 28 #[(0, .tmp 7), (1, .tmp 11), (2, .tmp 15), (3, .tmp 19)], .alloc 28, .store 28 (.tmp 3) (.tmp 20)])
  (hn : st0.n = 55) (h6 : bz st0.l st0.r 6 = gx p.text) (h10 : bz st0.l st0.r 10 = lst p.firsts) (h14 : bz st0.l st0.r 14 = lst p.seconds) (h18 : bz st0.l st0.r 18 = lst p.pages)
  (hK : ∀ st a b c d va vb vc, TwS p 47 38 st0.G st0.nx 55 st0.df st0.l (bz st0.l st0.r) true true true true true true true true true true st a b c d va vb vc → K st) :
  nw Tryz.prog ol K late 10 (rl [2, 2, 2, 2, 2, 2, 2, 4]) st0 := by
 obtain ⟨g1, g2, g3, g4, g5⟩ := uh7 hg
 have hop : ∀ {i : Nat} {o : Oper}, ol[i]? = some o → ∀ {q : Op}, (ol.map (·.op))[i]? = some q → o.op = q := fun {i o} h {q} k => by
  rw [List.getElem?_map, h] at k; exact Option.some.inj k
 have hdst : ∀ {i : Nat} {o : Oper}, ol[i]? = some o → ∀ {q : Option Tmp}, (ol.map (·.dst))[i]? = some q → o.dst = q := fun {i o} h {q} k => by
  rw [List.getElem?_map, h] at k; exact Option.some.inj k
 have hdep : ∀ {i : Nat} {o : Oper}, ol[i]? = some o → ∀ {q : List Nat}, (ol.map o5)[i]? = some q → o5 o = q := fun {i o} h {q} k => by
  rw [List.getElem?_map, h] at k; exact Option.some.inj k
 have hop2 : ∀ {i : Nat} {o : Oper}, ol[i + 2]? = some o → ∀ {q : Op}, ((ol.map (·.op)).drop 2)[i]? = some q → o.op = q := fun {i o} h {q} k => by
  rw [List.getElem?_drop, Nat.add_comm] at k
  exact hop h k
 refine udr (TwI p st0.G st0.nx st0.df st0.l (bz st0.l st0.r)) hf ?_ ?_ ?_ 10 _ st0 ?_ rfl
 ·rintro l st ⟨b2, b3, b6, b7, b10, b11, b14, b15, b16, b17, a, b, c, d, va, vb, vc, rfl, h⟩
  rw [hlen]; rfl
 ·rintro l st i o ⟨b2, b3, b6, b7, b10, b11, b14, b15, b16, b17, a, b, c, d, va, vb, vc, rfl, h⟩ hi hoff hdeps
  have hlt := (List.getElem?_eq_some_iff.1 hi).1
  have hgo := hgd o (List.mem_of_getElem? hi)
  rw [hlen] at hlt
  refine ⟨o, hi, .inl ?_⟩
  have hcase : i = 0 ∨ i = 1 ∨ i = 2 ∨ i = 3 ∨ i = 4 ∨ i = 5 ∨ i = 6 ∨ i = 7 ∨ i = 8 ∨ i = 9 ∨ i = 10 ∨ i = 11 ∨ i = 12 ∨ i = 13 ∨ i = 14 ∨ i = 15 ∨ i = 16 ∨ i = 17 := by omega
  rcases hcase with rfl | rfl | rfl | rfl | rfl | rfl | rfl | rfl | rfl | rfl | rfl | rfl | rfl | rfl | rfl | rfl | rfl | rfl
  ·cases hoff
  ·cases hoff
  ·-- the text
   have e1 := hop2 (i := 0) hi (by rw [ho]; rfl)
   have e2 := hdst hi (by rw [hq]; rfl)
   obtain rfl : b2 = false := Option.some.inj hoff
   refine ⟨qa (by rw [e1]; rfl) hgo, ba (caps := []) (args := [.tmp 6]) e1 rfl (congrArg (fun c => [c]) (nm h.n rfl h.x6)) (uuz p.text g1) ?_⟩
   rw [e2]
   exact ⟨true, b3, b6, b7, b10, b11, b14, b15, b16, b17, a, b, c, d, va, vb, vc, rfl, h.step2⟩
  ·have e1 := hop2 (i := 1) hi (by rw [ho]; rfl)
   have e2 := hdst hi (by rw [hq]; rfl)
   obtain rfl : b3 = false := Option.some.inj hoff
   refine ⟨qa (by rw [e1]; rfl) hgo, ye e1 (by decide) ?_⟩
   rw [e2]
   exact ⟨b2, true, b6, b7, b10, b11, b14, b15, b16, b17, st.nx, b, c, d, va, vb, vc, rfl, h.step3 (px h.e6 rfl) (px (fun e => h.e6 (h.q6 e)) rfl)⟩
  ·cases hoff
  ·cases hoff
  ·have e1 := hop2 (i := 4) hi (by rw [ho]; rfl)
   have e2 := hdst hi (by rw [hq]; rfl)
   have e3 := hdep hi (by rw [hd]; rfl)
   obtain rfl : b6 = false := Option.some.inj hoff
   obtain rfl : b3 = true := Option.some.inj (hdeps 3 (by rw [e3]; simp))
   refine ⟨qa (by rw [e1]; rfl) hgo, rm (xs := ([] : List bn)) p.firsts e1 (nm h.n rfl (h.f3 rfl)) (h.g3 rfl rfl) rfl rfl (nm h.n rfl h.x10) rfl (by simp only [List.length_nil]; omega) (by simp only [List.length_nil]; omega) (fun v => ?_)⟩
   rw [e2]
   exact ⟨b2, true, true, b7, b10, b11, b14, b15, b16, b17, a, b, c, d, v, vb, vc, rfl, h.step6 (px h.q6 rfl) v⟩
  ·have e1 := hop2 (i := 5) hi (by rw [ho]; rfl)
   have e2 := hdst hi (by rw [hq]; rfl)
   obtain rfl : b7 = false := Option.some.inj hoff
   refine ⟨qa (by rw [e1]; rfl) hgo, ye e1 (by decide) ?_⟩
   rw [e2]
   exact ⟨b2, b3, b6, true, b10, b11, b14, b15, b16, b17, a, st.nx, c, d, va, vb, vc, rfl, h.step7 (px h.e10 rfl) (px (fun e => h.e10 (h.q10 e)) rfl)⟩
  ·cases hoff
  ·cases hoff
  ·have e1 := hop2 (i := 8) hi (by rw [ho]; rfl)
   have e2 := hdst hi (by rw [hq]; rfl)
   have e3 := hdep hi (by rw [hd]; rfl)
   obtain rfl : b10 = false := Option.some.inj hoff
   obtain rfl : b7 = true := Option.some.inj (hdeps 7 (by rw [e3]; simp))
   refine ⟨qa (by rw [e1]; rfl) hgo, rm (xs := ([] : List bn)) p.seconds e1 (nm h.n rfl (h.f7 rfl)) (h.g7 rfl rfl) rfl rfl (nm h.n rfl h.x14) rfl (by simp only [List.length_nil]; omega) (by simp only [List.length_nil]; omega) (fun v => ?_)⟩
   rw [e2]
   exact ⟨b2, b3, b6, true, true, b11, b14, b15, b16, b17, a, b, c, d, va, v, vc, rfl, h.step10 (px h.q10 rfl) v⟩
  ·have e1 := hop2 (i := 9) hi (by rw [ho]; rfl)
   have e2 := hdst hi (by rw [hq]; rfl)
   obtain rfl : b11 = false := Option.some.inj hoff
   refine ⟨qa (by rw [e1]; rfl) hgo, ye e1 (by decide) ?_⟩
   rw [e2]
   exact ⟨b2, b3, b6, b7, b10, true, b14, b15, b16, b17, a, b, st.nx, d, va, vb, vc, rfl, h.step11 (px h.e14 rfl) (px (fun e => h.e14 (h.q14 e)) rfl)⟩
  ·cases hoff
  ·cases hoff
  ·have e1 := hop2 (i := 12) hi (by rw [ho]; rfl)
   have e2 := hdst hi (by rw [hq]; rfl)
   have e3 := hdep hi (by rw [hd]; rfl)
   obtain rfl : b14 = false := Option.some.inj hoff
   obtain rfl : b11 = true := Option.some.inj (hdeps 11 (by rw [e3]; simp))
   refine ⟨qa (by rw [e1]; rfl) hgo, rm (xs := ([] : List ak)) p.pages e1 (nm h.n rfl (h.f11 rfl)) (h.g11 rfl rfl) rfl rfl (nm h.n rfl h.x18) rfl (by simp only [List.length_nil]; omega) (by simp only [List.length_nil]; omega) (fun v => ?_)⟩
   rw [e2]
   exact ⟨b2, b3, b6, b7, b10, true, true, b15, b16, b17, a, b, c, d, va, vb, v, rfl, h.step14 (px h.q14 rfl) v⟩
  ·-- the whole
   have e1 := hop2 (i := 13) hi (by rw [ho]; rfl)
   have e2 := hdst hi (by rw [hq]; rfl)
   have e3 := hdep hi (by rw [hd]; rfl)
   obtain rfl : b15 = false := Option.some.inj hoff
   obtain rfl : b2 = true := Option.some.inj (hdeps 2 (by rw [e3]; simp))
   obtain rfl : b6 = true := Option.some.inj (hdeps 6 (by rw [e3]; simp))
   obtain rfl : b10 = true := Option.some.inj (hdeps 10 (by rw [e3]; simp))
   obtain rfl : b14 = true := Option.some.inj (hdeps 14 (by rw [e3]; simp))
   refine ⟨qa (by rw [e1]; rfl) hgo, EStep.mono (SStep.e (D := fun _ => True) (NStep.s (iz (cs := [lst p.text, .own a va p.firsts.length, .own b vb p.seconds.length, .own c vc p.pages.length]) (parts := [(0, .tmp 7), (1, .tmp 11), (2, .tmp 15), (3, .tmp 19)]) e1 ?_))) fun st' hst' => ?_⟩
   ·show vk _ _ [(0, st.at 7), (1, st.at 11), (2, st.at 15), (3, st.at 19)] = _
    rw [nm h.n rfl (h.f2 rfl), nm h.n rfl (h.f6 rfl), nm h.n rfl (h.f10 rfl), nm h.n rfl (h.f14 rfl)]
    rfl
   subst hst'
   rw [e2]
   exact ⟨true, b3, true, b7, true, b11, true, true, b16, b17, a, b, c, d, va, vb, vc, rfl, h.step15⟩
  ·have e1 := hop2 (i := 14) hi (by rw [ho]; rfl)
   have e2 := hdst hi (by rw [hq]; rfl)
   obtain rfl : b16 = false := Option.some.inj hoff
   refine ⟨qa (by rw [e1]; rfl) hgo, dx (cs := [.list [] .nil, .list [] .nil, .list [] .nil, .list [] .nil]) e1 ?_⟩
   rw [e2]
   exact ⟨b2, b3, b6, b7, b10, b11, b14, b15, true, b17, a, b, c, st.nx, va, vb, vc, rfl, h.step16 (px h.e17 rfl)⟩
  have e1 := hop2 (i := 15) hi (by rw [ho]; rfl)
  have e2 := hdst hi (by rw [hq]; rfl)
  have e3 := hdep hi (by rw [hd]; rfl)
  obtain rfl : b17 = false := Option.some.inj hoff
  obtain rfl : b15 = true := Option.some.inj (hdeps 15 (by rw [e3]; simp))
  obtain rfl : b16 = true := Option.some.inj (hdeps 16 (by rw [e3]; simp))
  refine ⟨qa (by rw [e1]; rfl) hgo, di (new := [lst p.text, .own a va p.firsts.length, .own b vb p.seconds.length, .own c vc p.pages.length]) e1 e2 (nm h.n rfl (h.f16 rfl)) (h.g16 rfl rfl) (by rw [show evC st (.tmp 20) = _ from nm h.n rfl (h.f15 rfl)]; rfl) rfl rfl ?_⟩
  exact ⟨b2, b3, b6, b7, b10, b11, b14, true, true, true, a, b, c, d, va, vb, vc, rfl, h.step17⟩
 ·rintro l st ⟨b2, b3, b6, b7, b10, b11, b14, b15, b16, b17, a, b, c, d, va, vb, vc, rfl, h⟩ hall
  rw [hlen] at hall
  obtain rfl : b2 = true := Option.some.inj (hall 2 (by omega))
  obtain rfl : b3 = true := Option.some.inj (hall 3 (by omega))
  obtain rfl : b6 = true := Option.some.inj (hall 6 (by omega))
  obtain rfl : b7 = true := Option.some.inj (hall 7 (by omega))
  obtain rfl : b10 = true := Option.some.inj (hall 10 (by omega))
  obtain rfl : b11 = true := Option.some.inj (hall 11 (by omega))
  obtain rfl : b14 = true := Option.some.inj (hall 14 (by omega))
  obtain rfl : b15 = true := Option.some.inj (hall 15 (by omega))
  obtain rfl : b16 = true := Option.some.inj (hall 16 (by omega))
  obtain rfl : b17 = true := Option.some.inj (hall 17 (by omega))
  exact hK st a b c d va vb vc h
 refine ⟨false, false, false, false, false, false, false, false, false, false, 0, 0, 0, 0, 0, 0, 0, rfl, ?_⟩
 exact { n := hn, df := rfl, l := rfl, nx := rfl, s := fun _ _ => rfl, x10 := h10, x14 := h14, x18 := h18, x6 := h6, f2 := (fun e => nomatch e), f3 := (fun e => nomatch e), r3 := (fun e => nomatch e), g3 := (fun e => nomatch e), f6 := (fun e => nomatch e), g6 := (fun e => nomatch e), f7 := (fun e => nomatch e), r7 := (fun e => nomatch e), g7 := (fun e => nomatch e), f10 := (fun e => nomatch e), g10 := (fun e => nomatch e), f11 := (fun e => nomatch e), r11 := (fun e => nomatch e), g11 := (fun e => nomatch e), f14 := (fun e => nomatch e), g14 := (fun e => nomatch e), f15 := (fun e => nomatch e), f16 := (fun e => nomatch e), r16 := (fun e => nomatch e), g16 := (fun e => nomatch e), f17 := (fun e => nomatch e), ab := (fun e => nomatch e), ac := (fun e => nomatch e), ad := (fun e => nomatch e), bc := (fun e => nomatch e), bd := (fun e => nomatch e), cd := (fun e => nomatch e), G := fun _ _ _ _ _ => rfl, e6 := (fun e => nomatch e), e10 := (fun e => nomatch e), e14 := (fun e => nomatch e), e17 := (fun e => nomatch e), e18 := (fun e => nomatch e), q2 := (fun e => nomatch e), q6 := (fun e => nomatch e), q10 := (fun e => nomatch e), q14 := (fun e => nomatch e) }
theorem ufu {cs : List C} {i : Nat} {c c0 : C} (h : cs[i]? = some c0) : (putAt cs i [c])[i]? = some c := by
 show (cs.set i c)[i]? = some c
 rw [List.getElem?_set_self (List.getElem?_eq_some_iff.1 h).1]
theorem upf {l : List ak} {k : Nat} {x : ak} (h : l[k]? = some x) : (az l)[k * 6 + 4]? = some (lst x.found) ∧ (az l)[k * 6 + 5]? = some (lst x.well) := by
 have h1 : (az l)[k * Enc.n ak + 4]? = some (lst x.found) := o1 h rfl
 have h2 : (az l)[k * Enc.n ak + 5]? = some (lst x.well) := o1 h rfl
 exact ⟨h1, h2⟩
end Go.Proofs.YtgffhbbcpgdjjaaGreatDoor
namespace Go.AB
open Go Go.RowKit
section
theorem upd {Y : Type} {P : Program} {f : FuncId} {fn : Func} {c : Code} {args : List C} {G : Nat → Option GObj} {nx : Nat} (r : Y → C) (g : Y → Nat → Option GObj) (m : Y → Nat) (S : Y → Prop) (hf : P.funcs[f]? = some fn) (hb : fn.body = some c) (hl : ∀ y, S y → (r y).low (m y)) (hm : ∀ y, S y → nx ≤ m y) (hg : (∀ n o, G n = some o → n < nx) → ∀ y, S y → ∀ n o, g y n = some o → G n = some o ∨ (n < m y ∧ o.low (m y)))
  (h : AW none P c (fun e st => ∃ y, S y ∧ ql P fn (r y) (g y) (m y) e st) { n := args.length + (fn.ntmps - args.length), l := args, r := [], G := G, nx := nx }) : PC P f args G nx fun r' G' nx' => ∃ y, S y ∧ r' = r y ∧ G' = g y ∧ nx' = m y := by
 intro E w vs hr hg0
 have key := ub7 (K := fun r' G' nx' => ∃ y, S y ∧ r' = r y ∧ m y ≤ nx' ∧ ∀ n o, g y n = some o → G' n = some o) hf hb (AW.mono h fun e st hq => by
  obtain ⟨y, hs, hq⟩ := hq
  cases e with
  | normal => exact ⟨r y, hq.1, y, hs, rfl, hq.2.1, hq.2.2⟩
  | ret => exact ⟨r y, hq.1, y, hs, rfl, hq.2.1, hq.2.2⟩
  | _ => exact hq)
 refine (key E w vs hr hg0).mono ?_
 rintro e w' ⟨r', v, E', G', nx', e1, e2, e3, e4, y, hS, rfl, e5, e6⟩
 have hnx := hg0.nx
 have hm0 := hm y hS
 refine ⟨r y, v, E'.drop (m y), g y, m y, e1, e2.drop (by omega), e3.drop (hl y hS), ?_, y, hS, rfl, rfl, rfl⟩
 refine (e4.weak e6).drop fun n o ho => ?_
 rcases hg (fun n o ho => (hg0.lowG ho).1) y hS n o ho with h1 | h1
 ·have := hg0.lowG h1
  exact ⟨by omega, GObj.low_mono this.2 hm0⟩
 ·exact h1
theorem us5 {Y : Type} {P : Program} {o : Oper} {st : St} {K : St → Prop} {f : FuncId} [Fun P f] {fv : Operand} {args : List Operand} {ats : Array TypeId} {caps as0 : List C} {r : Y → C} {g : Y → Nat → Option GObj} {m : Y → Nat} {S : Y → Prop} (ho : o.op = .call { callee := .value fv, args := args.toArray, argTypes := ats }) (hf : evC st fv = .fn (.func f) caps) (has : args.map (evC st) ++ caps = as0)
  (hp : PC P f as0 st.G st.nx fun r' G' nx' => ∃ y, S y ∧ r' = r y ∧ G' = g y ∧ nx' = m y) (h : ∀ y, S y → K (St.put { st with G := g y, nx := m y } o.dst (r y))) : EStep P o st K :=
 uat ho hf has (hp.mono fun r' G' nx' ⟨y, hs, e1, e2, e3⟩ => by subst e1; subst e2; subst e3; exact h y hs)
end
end Go.AB
namespace Go.Proofs.YtgffhbbcpgdjjaaGreatDoor
set_option maxRecDepth 10000
open Go Go.RowKit Go.AB
open Go.AB.Enc (cells)
open Go.PB (ay aj PlaceD bg bi bh bn ak ah cr bq dr dt)
set_option maxHeartbeats 2000000 in
theorem uoz (p : ah) (hg : nh p = false) (G : Nat → Option GObj) (nx : Nat) : PC Tryz.prog 7 [val p] G nx fun r' G' nx' => ∃ y : Nat × Nat × Nat × Nat × Nat × Nat, ((nx ≤ y.1 ∧ nx ≤ y.2.1 ∧ nx ≤ y.2.2.1) ∧ (y.1 < nx + 5 ∧ y.2.1 < nx + 5 ∧ y.2.2.1 < nx + 5) ∧ y.1 ≠ y.2.1 ∧ y.1 ≠ y.2.2.1 ∧ y.2.1 ≠ y.2.2.1) ∧ r' = (.agg [lst p.text, .own y.1 y.2.2.2.1 p.firsts.length, .own y.2.1 y.2.2.2.2.1 p.seconds.length, .own y.2.2.1 y.2.2.2.2.2 p.pages.length]) ∧ G' = (ai (ai (ai G y.1 (.arr y.2.2.2.1 0 47 2 p.firsts.length (az p.firsts))) y.2.1 (.arr y.2.2.2.2.1 0 47 2 p.seconds.length (az p.seconds))) y.2.2.1 (.arr y.2.2.2.2.2 (2 * p.pages.length) 38 6 p.pages.length (az p.pages))) ∧ nx' = nx + 5 := by
 refine upd (fun y : Nat × Nat × Nat × Nat × Nat × Nat => (.agg [lst p.text, .own y.1 y.2.2.2.1 p.firsts.length, .own y.2.1 y.2.2.2.2.1 p.seconds.length, .own y.2.2.1 y.2.2.2.2.2 p.pages.length])) (fun y => (ai (ai (ai G y.1 (.arr y.2.2.2.1 0 47 2 p.firsts.length (az p.firsts))) y.2.1 (.arr y.2.2.2.2.1 0 47 2 p.seconds.length (az p.seconds))) y.2.2.1 (.arr y.2.2.2.2.2 (2 * p.pages.length) 38 6 p.pages.length (az p.pages)))) (fun _ => nx + 5) (fun y => (nx ≤ y.1 ∧ nx ≤ y.2.1 ∧ nx ≤ y.2.2.1) ∧ (y.1 < nx + 5 ∧ y.2.1 < nx + 5 ∧ y.2.2.1 < nx + 5) ∧ y.1 ≠ y.2.1 ∧ y.1 ≠ y.2.2.1 ∧ y.2.1 ≠ y.2.2.1) Tryz.func7 rfl (fun y hS => .agg (ce (bv _ _) (ce (.own hS.2.1.1) (ce (.own hS.2.1.2.1) (ce (.own hS.2.1.2.2) dq))))) (fun y hS => zN) (fun hlt y hS => (by (repeat' (refine ka ?_ (by (try dsimp only); omega) ?_)); all_goals (first | exact mn zS | (repeat' (first | exact trivial | refine ⟨?_, ?_⟩ | exact .v | exact .any | refine .elem ?_ | exact bv _ _ | exact fy _ _ | exact eu _ _ | exact fg _ (by (try dsimp only); omega) | exact .box (by (try dsimp only); omega) | exact fj | exact dq | exact e8 _ | refine f9 ?_ ?_ | exact .arr (by (try dsimp only); omega) | exact .own (by (try dsimp only); omega) | exact .map (by (try dsimp only); omega) | exact e8 _ | refine ce ?_ ?_ | exact bv _ _))))) ?_
 simp only [Tryz.ntmps7, List.length_cons, List.length_nil, Nat.reduceAdd, Nat.reduceSub]
 refine cb fun hlt => ?_
 dsimp only at hlt
 obtain ⟨g1, g2, g3, g4, g5⟩ := uh7 hg
 refine yS fun _ K1 => ?_
 refine yR ?_
 try dsimp only [St.put]
 refine yB rfl rfl rfl ?_
 try dsimp only [St.put]
 refine ae rfl (dx rfl ?_)
 refine yN ?_
 dsimp only [St.put]
 refine K1 _ ?_
 refine cm 4 ?_
 refine zQ ?_
 refine uj6 (X := Nat × Nat × Nat × Nat × Nat × Nat × Nat) (fun y => (nx + 1 ≤ y.1 ∧ nx + 1 ≤ y.2.1 ∧ nx + 1 ≤ y.2.2.1 ∧ nx + 1 ≤ y.2.2.2.1) ∧ (y.1 < nx + 5 ∧ y.2.1 < nx + 5 ∧ y.2.2.1 < nx + 5 ∧ y.2.2.2.1 < nx + 5) ∧ (y.1 ≠ y.2.1 ∧ y.1 ≠ y.2.2.1 ∧ y.1 ≠ y.2.2.2.1 ∧ y.2.1 ≠ y.2.2.1 ∧ y.2.1 ≠ y.2.2.2.1 ∧ y.2.2.1 ≠ y.2.2.2.1)) (fun y => [(3, .box y.2.2.2.1 0 0)]) (fun y G' => (ai (ai (ai (ai (ai G nx (.box 0 [.list [] .nil, .list [] .nil, .list [] .nil, .list [] .nil])) y.1 (.arr y.2.2.2.2.1 0 47 2 p.firsts.length (az p.firsts))) y.2.1 (.arr y.2.2.2.2.2.1 0 47 2 p.seconds.length (az p.seconds))) y.2.2.1 (.arr y.2.2.2.2.2.2 (0) 38 6 p.pages.length (az p.pages))) y.2.2.2.1 (.box 1 [lst p.text, .own y.1 y.2.2.2.2.1 p.firsts.length, .own y.2.1 y.2.2.2.2.2.1 p.seconds.length, .own y.2.2.1 y.2.2.2.2.2.2 p.pages.length]))) (fun _ => nx + 5) rfl ?_ ?_ ?_ ?_ ?_
 ·rintro ⟨a, b, q, d, va, vb, vq⟩ hI
  dsimp only at hI ⊢
  omega
 ·rintro ⟨a, b, q, d, va, vb, vq⟩ hI
  dsimp only at hI ⊢
  obtain ⟨⟨i1, i2, i3, i4⟩, ⟨j1, j2, j3, j4⟩, k1, k2, k3, k4, k5, k6⟩ := hI
  exact zL
 ·rintro ⟨a, b, q, d, va, vb, vq⟩ hI
  dsimp only at hI ⊢
  obtain ⟨⟨i1, i2, i3, i4⟩, ⟨j1, j2, j3, j4⟩, k1, k2, k3, k4, k5, k6⟩ := hI
  exact zH
 ·refine t8 [(0, none), (1, none), (4, none), (5, none), (8, none), (9, none), (12, none), (13, none)] (fun _ => false) (fun i => [0, 4, 8, 12].contains i) 10 (rl [2, 2, 2, 2, 2, 2, 2, 4]) (by kernel_rfl) (by kernel_rfl) ?_
  refine af rfl rfl rfl rfl (cp rfl rfl rfl) ?_
  try dsimp only [St.put]
  refine aw rfl rfl rfl rfl (c := gx p.text) (jx (cs := cells p) rfl rfl (show 1 ≤ 4 by decide)) ?_
  refine af rfl rfl rfl rfl (cp rfl rfl rfl) ?_
  try dsimp only [St.put]
  refine aw rfl rfl rfl rfl (ca rfl rfl) ?_
  refine af rfl rfl rfl rfl (cp rfl rfl rfl) ?_
  try dsimp only [St.put]
  refine aw rfl rfl rfl rfl (ca rfl rfl) ?_
  refine af rfl rfl rfl rfl (cp rfl rfl rfl) ?_
  try dsimp only [St.put]
  refine aw rfl rfl rfl rfl (ca rfl rfl) ?_
  refine cw ?_
  refine ulz p hg _ rfl (by kernel_rfl) (by simp) rfl rfl rfl rfl rfl rfl rfl rfl fun st a b q d va vb vq h => ?_
  have hnx : st.nx = (nx + 1) + true.toNat + true.toNat + true.toNat + true.toNat := h.nx
  simp only [Bool.toNat_true] at hnx
  have r1 : nx + 1 ≤ a ∧ a < st.nx := h.r3 rfl
  have r2 : nx + 1 ≤ b ∧ b < st.nx := h.r7 rfl
  have r3 : nx + 1 ≤ q ∧ q < st.nx := h.r11 rfl
  have r4 : nx + 1 ≤ d ∧ d < st.nx := h.r16 rfl
  have t1 : a < nx + 5 := by omega
  have t2 : b < nx + 5 := by omega
  have t3 : q < nx + 5 := by omega
  have t4 : d < nx + 5 := by omega
  refine ⟨(a, b, q, d, va, vb, vq), ⟨⟨r1.1, r2.1, r3.1, r4.1⟩, ⟨t1, t2, t3, t4⟩, h.ab rfl rfl, h.ac rfl rfl, h.ad rfl rfl, h.bc rfl rfl, h.bd rfl rfl, h.cd rfl rfl⟩, ⟨h.n, h.df⟩, ⟨.inr (h.s 0 rfl), .inr (h.s 1 rfl), .inr (h.s 2 rfl), .inr (h.f16 rfl), trivial⟩, .inl rfl, by dsimp only; omega, ?_⟩
  refine da (h.f17 rfl) (da (h.g14 rfl) (da (h.g10 rfl) (da (h.g6 rfl) ?_)))
  intro m o hm
  have hml : m < nx + 1 := by
   by_cases e : m = nx
   ·omega
   rw [ct e] at hm
   have := hlt m o hm
   omega
  exact (h.G m (fun _ => by omega) (fun _ => by omega) (fun _ => by omega) (fun _ => by omega)).trans hm
 rintro ⟨a, b, q, d, va, vb, vq⟩ hI
 dsimp only at hI ⊢
 obtain ⟨⟨i1, i2, i3, i4⟩, ⟨j1, j2, j3, j4⟩, k1, k2, k3, k4, k5, k6⟩ := hI
 refine yS fun _ K3 => ?_
 refine yS fun _ K4 => ?_
 refine yR ?_
 refine yA rfl rfl ?_
 refine yN ?_
 dsimp only [St.put]
 refine K4 _ ?_
 refine bf ?_
 refine cm 5 ?_
 refine zQ ?_
 refine dm ((ai (ai (ai (ai (ai G nx (.box 0 [.list [] .nil, .list [] .nil, .list [] .nil, .list [] .nil])) a (.arr va 0 47 2 p.firsts.length (az p.firsts))) b (.arr vb 0 47 2 p.seconds.length (az p.seconds))) q (.arr vq (0) 38 6 p.pages.length (az p.pages))) d (.box 1 [lst p.text, .own a va p.firsts.length, .own b vb p.seconds.length, .own q vq p.pages.length]))) zX ?_
 dsimp only
 refine dj (X := Nat) (fun k => k ≤ p.pages.length) (fun k => p.pages.length - k) (fun k => [(4, .v (.int .i64 (k : Int)))]) (fun k G' => (ai (ai (ai (ai (ai G nx (.box 0 [.list [] .nil, .list [] .nil, .list [] .nil, .list [] .nil])) a (.arr va 0 47 2 p.firsts.length (az p.firsts))) b (.arr vb 0 47 2 p.seconds.length (az p.seconds))) q (.arr vq ((2 * k)) 38 6 p.pages.length (az p.pages))) d (.box 1 [lst p.text, .own a va p.firsts.length, .own b vb p.seconds.length, .own q vq p.pages.length]))) 0 rfl ?_ ?_ ?_ ?_ ?_ ?_
 ·exact Nat.zero_le _
 ·exact zF
 ·exact zX
 ·rintro k hI
  exact zL
 ·rintro k hI
  exact zH
 rintro k hI
 dsimp only at hI ⊢
 refine yS fun _ K5 => ?_
 refine yS fun _ K6 => ?_
 refine yR ?_
 refine yM rfl rfl ?_
 refine aa rfl (c7 rfl rfl) ?_
 try dsimp only [St.put]
 refine bk rfl (ez rfl rfl zG trivial (by first | rfl | assumption)) ?_
 refine aa rfl (n8 rfl rfl) ?_
 refine aa rfl (ck rfl rfl rfl) ?_
 refine yN ?_
 dsimp only [St.put]
 refine K6 _ ?_
 refine aq rfl (fun hc => ?_) (fun hc => ?_)
 ·replace hc := of_decide_eq_true hc
  have hkl : k < p.pages.length := by omega
  obtain ⟨x, hx⟩ : ∃ x, p.pages[k]? = some x := dl hkl
  obtain ⟨hc4, hc5⟩ := upf hx
  have hxl := g5 x (gh hx)
  refine ax ?_
  refine K5 _ ?_
  refine yS fun _ K7 => ?_
  refine bf ?_
  refine yS fun _ K8 => ?_
  refine fw [(0, none), (1, none), (2, none), (4, none), (5, none), (6, none), (7, none), (8, none), (9, none), (3, none), (10, none), (11, none), (12, none), (13, none)] (fun i => [13].contains i) (fun i => [3, 10, 13].contains i) (fun i => [0, 2, 4, 6, 7, 8, 11, 12].contains i) [d, q] (by kernel_rfl) (by kernel_rfl) ?_
  refine af rfl rfl rfl rfl (c7 rfl rfl) ?_
  try dsimp only [St.put]
  refine aw rfl rfl rfl rfl (ez rfl rfl zG (by simp) (by first | rfl | assumption)) ?_
  refine xM rfl rfl rfl rfl rfl ?_
  refine af rfl rfl rfl rfl (c7 rfl rfl) ?_
  try dsimp only [St.put]
  refine aw rfl rfl rfl rfl (ez rfl rfl zG (by simp) (by first | rfl | assumption)) ?_
  refine xM rfl rfl rfl rfl rfl ?_
  try dsimp only [St.put]
  refine af rfl rfl rfl rfl (iq rfl rfl zG rfl rfl hkl) ?_
  refine af rfl rfl rfl rfl (c7 rfl rfl) ?_
  try dsimp only [St.put]
  refine aw rfl rfl rfl rfl (gy rfl rfl zG (by simp) hc4) ?_
  refine gu ?_
  try dsimp only [St.put]
  refine ij rfl rfl rfl (ye rfl (by decide) ⟨zD, ?_⟩)
  try dsimp only [St.put]
  refine ij rfl rfl rfl (rm (xs := ([] : List PlaceD)) x.found rfl rfl zG rfl rfl rfl rfl zA zA (fun w1 => ⟨zD, ?_⟩))
  try dsimp only [St.put]
  refine ec rfl rfl rfl rfl (iq rfl rfl zG rfl rfl hkl) ?_
  refine ec rfl rfl rfl rfl (c7 rfl rfl) ?_
  try dsimp only [St.put]
  refine f4 rfl rfl rfl rfl (uas (sz := 1) rfl rfl rfl zG rfl rfl (by rw [x7]; show k * 6 + 4 + 1 ≤ p.pages.length * 6; omega) (by decide) ?_)
  refine gt ?_
  dsimp only [St.put]
  refine K8 _ ?_
  refine uj7 q (k * 6 + 4) x.found zG (ufu hc4) zG (by omega) rfl rfl rfl ?_
  rw [uft hc4]
  refine fw [(0, none), (1, none), (2, none), (4, none), (5, none), (6, none), (7, none), (8, none), (9, none), (3, none), (10, none), (11, none), (12, none), (13, none)] (fun i => [13].contains i) (fun i => [3, 10, 13].contains i) (fun i => [0, 2, 4, 6, 7, 8, 11, 12].contains i) [d, q] (by kernel_rfl) (by kernel_rfl) ?_
  refine af rfl rfl rfl rfl (c7 rfl rfl) ?_
  try dsimp only [St.put]
  refine aw rfl rfl rfl rfl (ez rfl rfl zG (by simp) (by first | rfl | assumption)) ?_
  refine xM rfl rfl rfl rfl rfl ?_
  refine af rfl rfl rfl rfl (c7 rfl rfl) ?_
  try dsimp only [St.put]
  refine aw rfl rfl rfl rfl (ez rfl rfl zG (by simp) (by first | rfl | assumption)) ?_
  refine xM rfl rfl rfl rfl rfl ?_
  try dsimp only [St.put]
  refine af rfl rfl rfl rfl (iq rfl rfl zG rfl rfl hkl) ?_
  refine af rfl rfl rfl rfl (c7 rfl rfl) ?_
  try dsimp only [St.put]
  refine aw rfl rfl rfl rfl (gy rfl rfl zG (by simp) hc5) ?_
  refine gu ?_
  try dsimp only [St.put]
  refine ij rfl rfl rfl (ye rfl (by decide) ⟨zD, ?_⟩)
  try dsimp only [St.put]
  refine ij rfl rfl rfl (rm (xs := ([] : List PlaceD)) x.well rfl rfl zG rfl rfl rfl rfl zA zA (fun w2 => ⟨zD, ?_⟩))
  try dsimp only [St.put]
  refine ec rfl rfl rfl rfl (iq rfl rfl zG rfl rfl hkl) ?_
  refine ec rfl rfl rfl rfl (c7 rfl rfl) ?_
  try dsimp only [St.put]
  refine f4 rfl rfl rfl rfl (uas (sz := 1) rfl rfl rfl zG rfl rfl (by rw [x7]; show k * 6 + 5 + 1 ≤ p.pages.length * 6; omega) (by decide) ?_)
  refine gt ?_
  dsimp only [St.put]
  refine K7 _ ?_
  refine uj7 q (k * 6 + 5) x.well zG (ufu hc5) zG (by omega) rfl rfl rfl ?_
  rw [uft hc5]
  refine yR ?_
  refine yM rfl rfl ?_
  refine aa rfl (br rfl rfl rfl (by omega)) ?_
  refine yA rfl rfl ?_
  refine yN ?_
  dsimp only [St.put]
  exact ⟨k + 1, by omega, by omega, ⟨⟨rfl, rfl⟩, zF, zB, zN, zX⟩⟩
 replace hc := of_decide_eq_false hc
 obtain rfl : k = p.pages.length := by omega
 refine c6 ?_
 refine K3 _ ?_
 refine yS fun _ K9 => ?_
 refine yR ?_
 try dsimp only [St.put]
 refine bk rfl (jf rfl rfl zG trivial (by rfl)) ?_
 try dsimp only [St.put]
 refine ae rfl (di rfl rfl rfl zG rfl rfl (by rfl) ?_)
 refine yN ?_
 dsimp only [St.put]
 refine K9 _ ?_
 refine ar ?_
 refine ⟨(a, b, q, va, vb, vq), ⟨⟨Nat.le_of_succ_le i1, Nat.le_of_succ_le i2, Nat.le_of_succ_le i3⟩, ⟨j1, j2, j3⟩, k1, k2, k4⟩, ?_⟩
 refine qd rfl (ky rfl zG (by rfl) zC rfl) zN zX ?_
 exact zW
end Go.Proofs.YtgffhbbcpgdjjaaGreatDoor
