/-
  What the walks through the program rest on: values, states, steps, calls (RfLefts, QnRef, QrRef, ReAsk, RjRests, QoRef, RkTotal, RgSets, QpRef, QqRef, RlChief, SaAlive, PkGuess, SbFacts, SdSums, SeEnds, OpenL, OpenW, OpenS, Trod).
-/
import Derived.Test.YtbbdginipiljdaaGreatDoorPartD
import Derived.Test.YtbbdginipiljdaaGreatDoorPartC
import Derived.Test.YtbbdginipiljdaaGreatDoorPartB
import Derived.Test.YtbbdginipiljdaaGreatDoorRows
import Derived.LaidMore
import Derived.RowKitVeiled
import Derived.Carry
namespace Go.AB
open Go Go.RowKit
open Go.AB.Enc (cells)
open Go.PB (ba ai PlaceD bh bj bi bu am ah cy bq dd dj)
/-- how many readers are ahead of a side -/
def sdN (p : ah) : Nat → Nat
 | 0 => 0
 | 1 => p.firsts.length
 | _ => p.firsts.length + p.seconds.length
theorem w6 {p : ah} : ∀ {k : Nat}, k < 2 → sdN p (k + 1) = sdN p k + (du p (decide (k = 1))).length
 | 0, _ => (Nat.zero_add _).symm
 | 1, _ => rfl
 | k + 2, h => by omega
theorem ukw {p : ah} : ∀ {k i : Nat}, k < 2 → i < (du p (decide (k = 1))).length → cw p (sdN p k + i) = k7 p (decide (k = 1)) i ∧ sdN p k + i < cj p
 | 0, i, _, h => by
  have h : i < p.firsts.length := h
  rw [show sdN p 0 + i = i from Nat.zero_add i]
  unfold cw cj
  rw [decide_eq_true h]
  exact ⟨rfl, by omega⟩
 | 1, i, _, h => by
  have h : i < p.seconds.length := h
  rw [show sdN p 1 + i = p.firsts.length + i from rfl]
  unfold cw cj
  rw [decide_eq_false (by omega), Nat.add_sub_cancel_left]
  exact ⟨rfl, by omega⟩
 | k + 2, _, h, _ => by omega
end Go.AB
namespace Go.Proofs.YtbbdginipiljdaaGreatDoor
set_option maxRecDepth 10000
open Go Go.RowKit Go.AB
open Go.AB.Enc (cells)
open Go.PB (ba ai PlaceD bh bj bi bu am ah cy bq dd dj)
set_option maxHeartbeats 1000000 in
theorem ukv (nF : Nat) (p : ah) (h : ei p) : wa nF e8 Tryz.prog 110 [.elem [.elem (j8 p)]] (cj p) (fun k => [.v (.int .i64 (cw p k))]) := by
 refine uc1 Tryz.func110 rfl rfl fun I hN hcl ok hG hn => ?_
 simp only [Tryz.ntmps110, List.length_cons, List.length_nil, Nat.reduceAdd, Nat.reduceSub]
 have hn1 := h.nf
 have hn2 := h.ns
 refine ke 2 ?_
 refine zQ ?_
 refine pa ?_
 dsimp only [FC.st]
 refine bx fun hlt => ?_
 dsimp only at hlt
 refine i0 ?_
 try dsimp only [St.put]
 refine ci rfl (ml (n := 6) (m := nF) rfl rfl (hG _) rfl) ?_
 refine aa rfl (gp rfl (by constructor)) ?_
 refine i1 ?_
 dsimp only [St.put]
 show jz _ _ _ _ _ _ _
 refine pc ok rfl ⟨rfl, rfl, zK, zN, zS, zK⟩ ?_
 refine qz ?_
 refine ke 10 ?_
 refine zQ ?_
 refine yk (X := Nat) (fun k => k ≤ 2) (fun k => 2 - k) (fun k => [(2, .any), (3, .any), (4, .any), (5, .any), (6, .any), (7, .any), (9, .v (.int .i64 (k : Int)))]) (fun k => sdN p k) 0 rfl ?_ ?_ ?_ ?_ ?_
 ·exact Nat.zero_le _
 ·exact zF
 ·rfl
 ·rintro k hI
  exact zL
 ·rintro k hI
  dsimp only at hI ⊢
  refine ke 10 ?_
  refine zQ ?_
  refine pa ?_
  dsimp only [FC.st]
  refine bx fun hlt => ?_
  dsimp only at hlt
  refine i0 ?_
  refine aa rfl (cv rfl rfl rfl) ?_
  refine i1 ?_
  dsimp only [St.put]
  show jz _ _ _ _ _ _ _
  refine pc ok rfl ⟨rfl, rfl, zK, zN, zS, zK⟩ ?_
  refine o9 fun K1 hK1 => ?_
  refine te rfl (fun hc => ?_) (fun hc => ?_)
  ·replace hc := of_decide_eq_true hc
   have hk : k < 2 := by omega
   have hsl : (du p (decide (k = 1))).length ≤ 3 := by
    cases decide (k = 1)
    ·exact hn1
    ·exact hn2
   refine td ?_
   refine hK1 _ _ ?_
   refine o9 fun K2 hK2 => ?_
   refine qz ?_
   refine ke 10 ?_
   refine zQ ?_
   refine pa ?_
   dsimp only [FC.st]
   refine bx fun hlt => ?_
   dsimp only at hlt
   refine i0 ?_
   refine aa rfl (u6 (k := k) (m := 2) (sz := 3) rfl rfl rfl rfl hk (uj hk)) ?_
   try dsimp only [St.put]
   refine af rfl (d8 rfl ?_)
   try dsimp only [St.put]
   first | refine af rfl (dc rfl rfl rfl zG rfl rfl (by rfl) ?_) | refine af rfl (ce rfl rfl rfl zG (by constructor) rfl zO ?_)
   refine i1 ?_
   dsimp only [St.put]
   show jz _ _ _ _ _ _ _
   refine vo ?_
   refine f7 (i := 4) rfl zG zC ?_
   dsimp only
   refine gj [(0, none), (1, none), (2, none), (3, none), (4, none), (5, none), (8, none), (6, none), (7, none)] (fun i => [6].contains i) (fun i => [6].contains i) (fun i => [0, 3, 4, 7, 8].contains i) [] (by kernel_rfl) (by kernel_rfl) ?_
   first | refine ae rfl rfl rfl rfl (cn rfl rfl rfl) ?_ | refine ae rfl rfl rfl rfl (bl rfl rfl) ?_
   try dsimp only [St.put]
   first | refine bc rfl rfl rfl rfl (cc rfl rfl) ?_ | refine bc rfl rfl rfl rfl (eg rfl rfl (Enc.len _)) ?_ | refine bc rfl rfl rfl rfl (eg rfl rfl rfl) ?_ | refine bc rfl rfl rfl rfl (gd rfl rfl zG (by simp) (by first | rfl | assumption)) ?_ | refine bc rfl rfl rfl rfl (i4 rfl rfl zG (by simp) (by rfl)) ?_ | refine bc rfl rfl rfl rfl (pp rfl rfl zG (by simp) (by simp)) ?_ | refine bc rfl rfl rfl rfl (jv rfl rfl zG (by simp) (p6 (by assumption) rfl)) ?_ | refine bc rfl rfl rfl rfl (jv rfl rfl zG (by simp) (by assumption)) ?_ | refine bc rfl rfl rfl rfl (qk rfl rfl zG (by simp) rfl (by assumption) rfl (by decide)) ?_ | refine bc rfl rfl rfl rfl (ml rfl rfl zG (by rfl)) ?_
   try dsimp only [St.put]
   first | refine bc rfl rfl rfl rfl (cc rfl rfl) ?_ | refine bc rfl rfl rfl rfl (eg rfl rfl (Enc.len _)) ?_ | refine bc rfl rfl rfl rfl (eg rfl rfl rfl) ?_ | refine bc rfl rfl rfl rfl (gd rfl rfl zG (by simp) (by first | rfl | assumption)) ?_ | refine bc rfl rfl rfl rfl (i4 rfl rfl zG (by simp) (by rfl)) ?_ | refine bc rfl rfl rfl rfl (pp rfl rfl zG (by simp) (by simp)) ?_ | refine bc rfl rfl rfl rfl (jv rfl rfl zG (by simp) (p6 (by assumption) rfl)) ?_ | refine bc rfl rfl rfl rfl (jv rfl rfl zG (by simp) (by assumption)) ?_ | refine bc rfl rfl rfl rfl (qk rfl rfl zG (by simp) rfl (by assumption) rfl (by decide)) ?_ | refine bc rfl rfl rfl rfl (ml rfl rfl zG (by rfl)) ?_
   first | refine ae rfl rfl rfl rfl (ku rfl rfl) ?_ | refine ae rfl rfl rfl rfl (cd rfl rfl) ?_ | refine ae rfl rfl rfl rfl (uj2 rfl rfl) ?_
   first | refine ae rfl rfl rfl rfl (cn rfl rfl rfl) ?_ | refine ae rfl rfl rfl rfl (bl rfl rfl) ?_
   try dsimp only [St.put]
   refine bc rfl rfl rfl rfl (c := val p) (ja (cs := j8 p) rfl rfl (show 4 ≤ 7 by decide)) ?_
   refine ae rfl rfl rfl rfl (gp rfl (by constructor)) ?_
   refine ix ?_
   try dsimp only [St.put]
   refine gw rfl rfl rfl rfl (bd rfl rfl rfl (ov (decide (k = 1)) p) ?_)
   first | refine eb rfl rfl rfl rfl (bk rfl rfl (List.length_map _)) ?_ | refine eb rfl rfl rfl rfl (bk rfl rfl rfl) ?_ | refine eb rfl rfl rfl rfl (sl rfl rfl) ?_ | refine eb rfl rfl rfl rfl (uj6 rfl rfl) ?_ | refine eb rfl rfl rfl rfl (uj5 rfl rfl) ?_ | refine eb rfl rfl rfl rfl (uj4 rfl rfl (by omega)) ?_
   refine iw ?_
   dsimp only [St.put]
   show jz _ _ _ _ _ _ _
   refine pc ok rfl ⟨rfl, rfl, zK, zN, zS, zK⟩ ?_
   refine qz ?_
   refine ke 21 ?_
   refine zQ ?_
   refine yk (X := Nat) (fun i => i ≤ (du p (decide (k = 1))).length) (fun i => (du p (decide (k = 1))).length - i) (fun i => [(5, .any), (6, .any), (7, .any), (20, .v (.int .i64 (i : Int)))]) (fun i => sdN p k + i) 0 rfl ?_ ?_ ?_ ?_ ?_
   ·exact Nat.zero_le _
   ·exact zF
   ·rfl
   ·rintro i hI
    exact zL
   ·rintro i hJ
    dsimp only at hJ ⊢
    refine ke 21 ?_
    refine zQ ?_
    refine pa ?_
    dsimp only [FC.st]
    refine bx fun hlt => ?_
    dsimp only at hlt
    refine i0 ?_
    refine aa rfl (cv rfl rfl rfl) ?_
    refine i1 ?_
    dsimp only [St.put]
    show jz _ _ _ _ _ _ _
    refine pc ok rfl ⟨rfl, rfl, zK, zN, zS, zK⟩ ?_
    refine o9 fun K3 hK3 => ?_
    refine te rfl (fun hc => ?_) (fun hc => ?_)
    ·replace hc := of_decide_eq_true hc
     have hi : i < (du p (decide (k = 1))).length := by omega
     obtain ⟨hL, hN2⟩ := ukw hk hi
     refine td ?_
     refine hK3 _ _ ?_
     refine o9 fun K4 hK4 => ?_
     refine qz ?_
     refine ke 21 ?_
     refine zQ ?_
     refine pa ?_
     dsimp only [FC.st]
     refine bx fun hlt => ?_
     dsimp only at hlt
     refine i0 ?_
     refine aa rfl (gp rfl (by constructor)) ?_
     refine aa rfl (fj rfl (by constructor)) ?_
     refine i1 ?_
     dsimp only [St.put]
     show jz _ _ _ _ _ _ _
     refine vo ?_
     refine i0 ?_
     try dsimp only [St.put]
     first | refine ci rfl (cc rfl rfl) ?_ | refine ci rfl (eg rfl rfl (Enc.len _)) ?_ | refine ci rfl (eg rfl rfl rfl) ?_ | refine ci rfl (gd rfl rfl zG trivial (by first | rfl | assumption)) ?_ | refine ci rfl (i4 rfl rfl zG trivial (by rfl)) ?_ | refine ci rfl (pp rfl rfl zG trivial (by simp)) ?_ | refine ci rfl (jv rfl rfl zG trivial (p6 (by assumption) rfl)) ?_ | refine ci rfl (jv rfl rfl zG trivial (by assumption)) ?_ | refine ci rfl (qk rfl rfl zG trivial rfl (by assumption) rfl (by decide)) ?_ | refine ci rfl (ml rfl rfl zG (by rfl)) ?_
     try dsimp only [St.put]
     first | refine ci rfl (cc rfl rfl) ?_ | refine ci rfl (eg rfl rfl (Enc.len _)) ?_ | refine ci rfl (eg rfl rfl rfl) ?_ | refine ci rfl (gd rfl rfl zG trivial (by first | rfl | assumption)) ?_ | refine ci rfl (i4 rfl rfl zG trivial (by rfl)) ?_ | refine ci rfl (pp rfl rfl zG trivial (by simp)) ?_ | refine ci rfl (jv rfl rfl zG trivial (p6 (by assumption) rfl)) ?_ | refine ci rfl (jv rfl rfl zG trivial (by assumption)) ?_ | refine ci rfl (qk rfl rfl zG trivial rfl (by assumption) rfl (by decide)) ?_ | refine ci rfl (ml rfl rfl zG (by rfl)) ?_
     refine aa rfl (gp rfl (by constructor)) ?_
     try dsimp only [St.put]
     refine af rfl (bd rfl rfl rfl (ubj p (decide (k = 1)) i h hi) ?_)
     refine aa rfl (gp rfl (by constructor)) ?_
     refine aa rfl (xx rfl rfl rfl) ?_
     refine aa rfl (xx rfl rfl rfl) ?_
     refine aa rfl (fj rfl (by constructor)) ?_
     refine aa rfl (fj rfl (by constructor)) ?_
     refine i1 ?_
     dsimp only [St.put]
     show jz _ _ _ _ _ _ _
     refine pc ok rfl ⟨rfl, rfl, zK, zN, zS, zK⟩ ?_
     refine o9 fun K5 hK5 => ?_
     refine uc9 ?_
     refine p5 rfl (gp rfl (by constructor)) ?_
     refine p5 rfl (gp rfl (by constructor)) ?_
     try dsimp only [St.put]
     refine udd ok (by rw [hN]; exact hN2) rfl rfl rfl rfl (by rw [hcl]; show _ = [C.v (.int .i64 (cw p (sdN p k + i)))]; rw [hL]; rfl) ?_
     refine p5 rfl (dq rfl rfl) ?_
     refine ude ?_
     dsimp only [St.put]
     refine hK5 _ _ ?_
     refine te rfl (fun h => by cases h) (fun _ => ?_)
     refine td ?_
     refine hK4 _ _ ?_
     refine ke 21 ?_
     refine zQ ?_
     refine yj ok rfl ?_
     dsimp only [FC.st]
     refine bx fun hlt => ?_
     dsimp only at hlt
     refine i0 ?_
     first | refine aa rfl (bv rfl rfl rfl (by omega)) ?_ | refine aa rfl (sn rfl rfl rfl) ?_
     refine aa rfl (gp rfl (by constructor)) ?_
     refine i1 ?_
     dsimp only [St.put]
     refine ⟨⟨rfl, rfl, zK, zN, zS, zK⟩, ?_⟩
     exact ⟨i + 1, by omega, by omega, rfl, ⟨⟨rfl, rfl⟩, zF, zB, zN, zX⟩⟩
    ·replace hc := of_decide_eq_false hc
     obtain rfl : i = (du p (decide (k = 1))).length := by omega
     refine yl ?_
     refine hK2 _ _ ?_
     refine ke 10 ?_
     refine zQ ?_
     refine yj ok rfl ?_
     dsimp only [FC.st]
     refine bx fun hlt => ?_
     dsimp only at hlt
     refine i0 ?_
     first | refine aa rfl (bv rfl rfl rfl (by omega)) ?_ | refine aa rfl (sn rfl rfl rfl) ?_
     refine aa rfl (gp rfl (by constructor)) ?_
     refine i1 ?_
     dsimp only [St.put]
     refine ⟨⟨rfl, rfl, zK, zN, zS, zK⟩, ?_⟩
     exact ⟨k + 1, by omega, by omega, (w6 hk).symm, ⟨⟨rfl, rfl⟩, zF, zB, zN, zX⟩⟩
  ·replace hc := of_decide_eq_false hc
   obtain rfl : k = 2 := by omega
   refine yl ?_
   exact ⟨.inl rfl, rfl⟩
end Go.Proofs.YtbbdginipiljdaaGreatDoor
namespace Go.AB
open Go Go.RowKit
open Go.AB.Enc (cells)
open Go.PB (ba ai PlaceD bh bj bi bu am ah cy bq dd dj)
theorem pj {α : Type} (d v : α) : atE 0 d v = v := rfl
theorem ld {α : Type} {e : Int} (h : e ≠ 0) (d v : α) : atE e d v = d := by unfold atE; rw [decide_eq_false h]; rfl
theorem ucu {p : ah} {e : Int} (h : e ≠ 0) : fb p e = e := by unfold fb; rw [decide_eq_false h]; rfl
theorem qv (p : ah) : fb p 0 = bif g8 p then 0 else 8 := rfl
end Go.AB
namespace Go.Proofs.YtbbdginipiljdaaGreatDoor
set_option maxRecDepth 10000
open Go.RowKit Go.AB
open Go.AB.Enc (cells)
open Go.PB (ba ai PlaceD bh bj bi bu am ah cy bq dd dj)
end Go.Proofs.YtbbdginipiljdaaGreatDoor
namespace Go.AB
open Go Go.RowKit
open Go.AB.Enc (cells)
open Go.PB (ba ai PlaceD bh bj bi bu am ah cy bq dd dj)
instance : FlatV bq := ⟨fun x => [.int .i64 x.lo, .int .i64 x.hi], fun _ => rfl⟩
def kd (x : am) : Bool := decide (200 < x.found.length) || decide (200 < x.well.length)
def n2 (p : ah) : Bool := m3 p.text || decide (6 < p.firsts.length) || decide (6 < p.seconds.length) || decide (12 < p.pages.length) || p.pages.any kd
theorem ulj {p : ah} {n : Int} {j : Nat} {x : am} (h0 : em p n = 0) (hpo : ly p n = x) (hn : n = (j : Int)) (hk : (c8 p.text x).length ≠ 0) : mz p n = 0 ∧ n1 p n = yg x (c8 p.text x).length := by
 have hE : mz p n = 0 := by unfold mz; rw [h0, hpo, decide_eq_false hk]; rfl
 exact ⟨hE, by unfold n1; rw [hE, hpo]; rfl⟩
theorem z6 {p : ah} (h : ei p) (j : Nat) : 0 ≤ kh p j ∧ kh p j ≤ 600 := by
 have hq := lf h.text
 unfold kh mo
 cases hx : p.pages[j]? with
 | none => exact ⟨Int.le_refl _, by show (0 : Int) ≤ 600; omega⟩
 | some x =>
  have := t8 p.text x
  show (0 : Int) ≤ (dn p.text x : Int) ∧ (dn p.text x : Int) ≤ 600
  omega
theorem wj (p : ah) (j : Nat) : 0 ≤ ef p j := by
 unfold ef mo
 cases hx : p.pages[j]? with
 | none => exact Int.le_refl _
 | some x => show (0 : Int) ≤ ((cp p.text x).length : Int); omega
theorem uc7 {es : List Int} {j : Nat} {e : Int} (h : es[j]? = some e) : g4 es j = e := by unfold g4; rw [h]; rfl
theorem ugk {p : ah} {es : List Int} (h : ¬ es.length = p.pages.length) : i7 p es = false := by simp [i7, h]
theorem ugj {p : ah} {es : List Int} {j : Nat} (hj : j < p.pages.length) (h : inB (g4 es j) (ef p j) (kh p j) = false) : i7 p es = false := by
 have : (List.range p.pages.length).all (fun j => inB (g4 es j) (ef p j) (kh p j)) = false := List.all_eq_false.2 ⟨j, List.mem_range.2 hj, by rw [h]; simp⟩
 simp [i7, this]
theorem ugi {p : ah} {es : List Int} {i : Nat} (hi : i < cj p) (h : ¬ sm p.pages.length (fun j => bif (bp p).by j i then g4 es j else 0) ≤ kf p i) : i7 p es = false := by
 have : (List.range (cj p)).all (fun i => decide (sm p.pages.length (fun j => bif (bp p).by j i then g4 es j else 0) ≤ kf p i)) = false := List.all_eq_false.2 ⟨i, List.mem_range.2 hi, by rw [decide_eq_false h]; simp⟩
 simp only [i7, this, Bool.and_false]
theorem ugg {p : ah} {es : List Int} (h1 : es.length = p.pages.length) (h2 : ∀ j, j < p.pages.length → inB (g4 es j) (ef p j) (kh p j) = true) (h3 : ∀ i, i < cj p → sm p.pages.length (fun j => bif (bp p).by j i then g4 es j else 0) ≤ kf p i) : i7 p es = true := by
 simp only [i7, Bool.and_eq_true, decide_eq_true_eq, List.all_eq_true, List.mem_range]
 exact ⟨⟨h1, h2⟩, h3⟩
end Go.AB
namespace Go.Proofs.YtbbdginipiljdaaGreatDoor
set_option maxRecDepth 10000
open Go.RowKit Go.AB
open Go.AB.Enc (cells)
open Go.PB (ba ai PlaceD bh bj bi bu am ah cy bq dd dj)
theorem ugb : Tryz.prog.underlying 32 = some (.struct (Tryz.prog.fieldsOf 32)) := by kernel_rfl
theorem uhl : Tryz.prog.stoodInHeld 32 = false := by kernel_rfl
instance : EqT Tryz.prog 32 bq where
 guard op w x y xs ys := run_eqGuard_agg w op _ x y xs ys (by kernel_rfl)
 same w x y := by
  obtain ⟨a, b⟩ := x
  obtain ⟨a', b'⟩ := y
  simp only [FlatV.vals]
  rw [run_equalIn_agg _ _ _ _ _ ugb uhl]
  by_cases h1 : a = a' <;> by_cases h2 : b = b' <;> simp [go_sem, h1, h2]
theorem uiq (p : ah) : Pure Tryz.prog 9 [val p] (.v (.bool (n2 p))) := by
 refine cz Tryz.func9 rfl (fun m => .v) fun G nx => ?_
 simp only [Tryz.ntmps9, List.length_cons, List.length_nil, Nat.reduceAdd, Nat.reduceSub]
 refine bx fun hlt => ?_
 dsimp only at hlt
 refine yS fun _ K1 => ?_
 refine yR ?_
 try dsimp only [St.put]
 refine yB rfl rfl rfl ?_
 refine yA rfl rfl ?_
 refine yN ?_
 dsimp only [St.put]
 refine K1 _ ?_
 refine yS fun _ K2 => ?_
 refine cr 4 ?_
 refine zQ ?_
 refine j4 (X := Bool) (fun d => (m3 p.text || decide (6 < p.firsts.length) || decide (6 < p.seconds.length) || decide (12 < p.pages.length)) = d) (fun d => [(24, .v (.bool d))]) (fun d G' => G') rfl ?_ (fun _ _ _ _ h => .inl h) ?_ ?_
 ·rintro d hI
  exact zL
 ·refine yR ?_
  refine yF rfl rfl rfl rfl ?_
  try dsimp only [St.put]
  refine ci rfl (c := g9 p.text) (ja (cs := cells p) rfl rfl (show 1 ≤ 4 by decide)) ?_
  try dsimp only [St.put]
  refine af rfl (bd rfl rfl rfl (un7 p.text) ?_)
  refine yM rfl rfl ?_
  refine eo (fun hs => ?_) (fun hs => ?_)
  ·have h1 : m3 p.text = true := hs
   refine yK rfl ?_
   refine yK rfl ?_
   refine yK rfl ?_
   refine yK rfl ?_
   refine aa rfl (b9 rfl rfl (by constructor)) ?_
   refine yM rfl rfl ?_
   refine yK rfl ?_
   refine yK rfl ?_
   refine yK rfl ?_
   refine yK rfl ?_
   refine aa rfl (b9 rfl rfl (by constructor)) ?_
   refine yM rfl rfl ?_
   refine yK rfl ?_
   refine yK rfl ?_
   refine yK rfl ?_
   refine yK rfl ?_
   refine aa rfl (b9 rfl rfl (by constructor)) ?_
   refine yN ?_
   dsimp only [St.put]
   refine ⟨_, ?_, ⟨⟨rfl, rfl⟩, zF, zB, zN, zX⟩⟩
   first
   | (simp [h1]; done)
   | (simp [h1, h2]; done)
   | (simp [h1, h2, h3]; done)
   | (simp [h1, h2, h3]; omega)
  have h1 : m3 p.text = false := hs
  refine yF rfl rfl rfl rfl ?_
  refine yL rfl rfl rfl ?_
  refine aa rfl (bk rfl rfl (List.length_map _)) ?_
  refine aa rfl (ib rfl rfl rfl) ?_
  refine aa rfl (co rfl rfl (by constructor)) ?_
  refine yM rfl rfl ?_
  refine eo (fun hs => ?_) (fun hs => ?_)
  ·have h2 : 6 < p.firsts.length := by have := of_decide_eq_true hs; omega
   refine yK rfl ?_
   refine yK rfl ?_
   refine yK rfl ?_
   refine yK rfl ?_
   refine aa rfl (b9 rfl rfl (by constructor)) ?_
   refine yM rfl rfl ?_
   refine yK rfl ?_
   refine yK rfl ?_
   refine yK rfl ?_
   refine yK rfl ?_
   refine aa rfl (b9 rfl rfl (by constructor)) ?_
   refine yN ?_
   dsimp only [St.put]
   refine ⟨_, ?_, ⟨⟨rfl, rfl⟩, zF, zB, zN, zX⟩⟩
   first
   | (simp [h1]; done)
   | (simp [h1, h2]; done)
   | (simp [h1, h2, h3]; done)
   | (simp [h1, h2, h3]; omega)
  have h2 : ¬ 6 < p.firsts.length := by have := of_decide_eq_false hs; omega
  refine yF rfl rfl rfl rfl ?_
  refine yL rfl rfl rfl ?_
  refine aa rfl (bk rfl rfl (List.length_map _)) ?_
  refine aa rfl (ib rfl rfl rfl) ?_
  refine aa rfl (co rfl rfl (by constructor)) ?_
  refine yM rfl rfl ?_
  refine eo (fun hs => ?_) (fun hs => ?_)
  ·have h3 : 6 < p.seconds.length := by have := of_decide_eq_true hs; omega
   refine yK rfl ?_
   refine yK rfl ?_
   refine yK rfl ?_
   refine yK rfl ?_
   refine aa rfl (b9 rfl rfl (by constructor)) ?_
   refine yN ?_
   dsimp only [St.put]
   refine ⟨_, ?_, ⟨⟨rfl, rfl⟩, zF, zB, zN, zX⟩⟩
   first
   | (simp [h1]; done)
   | (simp [h1, h2]; done)
   | (simp [h1, h2, h3]; done)
   | (simp [h1, h2, h3]; omega)
  have h3 : ¬ 6 < p.seconds.length := by have := of_decide_eq_false hs; omega
  refine yF rfl rfl rfl rfl ?_
  refine yL rfl rfl rfl ?_
  refine aa rfl (bk rfl rfl (List.length_map _)) ?_
  refine aa rfl (ib rfl rfl rfl) ?_
  refine aa rfl (co rfl rfl (by constructor)) ?_
  refine yN ?_
  dsimp only [St.put]
  refine ⟨_, ?_, ⟨⟨rfl, rfl⟩, zF, zB, zN, zX⟩⟩
  first
  | (simp [h1]; done)
  | (simp [h1, h2]; done)
  | (simp [h1, h2, h3]; done)
  | (simp [h1, h2, h3]; omega)
 rintro d hst
 dsimp only at hst ⊢
 refine aw rfl (fun hc => ?_) (fun hc => ?_)
 ·rw [hc] at hst
  refine yS fun _ K4 => ?_
  refine yR ?_
  refine yA rfl rfl ?_
  refine yN ?_
  dsimp only [St.put]
  refine K4 _ ?_
  refine ax ?_
  refine bf rfl (by constructor) zN zS ?_
  exact vb (by unfold n2; rw [hst]; rfl)
 rw [hc] at hst
 have hpl : ¬ 12 < p.pages.length := fun h => by rw [decide_eq_true h, Bool.or_true] at hst; cases hst
 refine az ?_
 refine K2 _ ?_
 refine yS fun _ K5 => ?_
 refine yS fun _ K6 => ?_
 refine yR ?_
 refine yA rfl rfl ?_
 refine yN ?_
 dsimp only [St.put]
 refine K6 _ ?_
 refine bg ?_
 refine cr 4 ?_
 refine zQ ?_
 refine c6 (G) zX ?_
 dsimp only
 refine c9 (X := Nat) (fun i => i ≤ p.pages.length ∧ ∀ x ∈ p.pages.take i, kd x = false) (fun i => p.pages.length - i) (fun i => [(3, .v (.int .i64 (i : Int)))]) (fun i G' => G') 0 rfl ?_ ?_ (fun _ _ h => h) ?_ ?_ ?_
 ·exact ⟨Nat.zero_le _, by simp⟩
 ·exact zF
 ·rintro i hI
  exact zL
 ·exact fun _ _ _ _ h => .inl h
 rintro i hI
 dsimp only at hI ⊢
 refine yS fun _ K7 => ?_
 refine yS fun _ K8 => ?_
 refine yR ?_
 refine yM rfl rfl ?_
 refine yF rfl rfl rfl rfl ?_
 refine yL rfl rfl rfl ?_
 refine aa rfl (bk rfl rfl (List.length_map _)) ?_
 refine aa rfl (cv rfl rfl rfl) ?_
 refine yN ?_
 dsimp only [St.put]
 refine K8 _ ?_
 refine aw rfl (fun hc => ?_) (fun hc => ?_)
 ·replace hc := of_decide_eq_true hc
  obtain ⟨x, hx⟩ : ∃ x, p.pages[i]? = some x := da (by omega)
  refine az ?_
  refine K7 _ ?_
  refine yS fun _ K9 => ?_
  refine bg ?_
  refine yS fun _ K10 => ?_
  refine yR ?_
  refine yF rfl rfl rfl rfl ?_
  refine yL rfl rfl rfl ?_
  refine yM rfl rfl ?_
  refine aa rfl (bt rfl rfl rfl rfl (br (by assumption)) (Enc.len _)) ?_
  refine yF rfl rfl rfl rfl ?_
  refine yL rfl rfl rfl ?_
  refine aa rfl (bk rfl rfl (List.length_map _)) ?_
  refine aa rfl (ib rfl rfl rfl) ?_
  refine yM rfl rfl ?_
  refine eo (fun hs => ?_) (fun hs => ?_)
  ·have g1 : 200 < x.found.length := by have := of_decide_eq_true hs; omega
   refine yK rfl ?_
   refine yK rfl ?_
   refine yK rfl ?_
   refine yK rfl ?_
   refine yK rfl ?_
   refine yK rfl ?_
   refine yK rfl ?_
   refine yK rfl ?_
   refine aa rfl (b9 rfl rfl (by constructor)) ?_
   refine yN ?_
   dsimp only [St.put]
   refine K10 _ ?_
   refine aw rfl (fun _ => ?_) (fun h => by cases h)
   have hgx : kd x = true := by
    first
    | (simp [kd, g1]; done)
    | (have g2 : 200 < x.well.length := by (have := of_decide_eq_true hc; omega)
       simp [kd, g2])
   refine yS fun _ K11 => ?_
   refine yR ?_
   refine yA rfl rfl ?_
   refine yN ?_
   dsimp only [St.put]
   refine K11 _ ?_
   refine ax ?_
   refine bf rfl (by constructor) zN zS ?_
   exact vb (by
    have : p.pages.any kd = true := List.any_eq_true.2 ⟨x, f4 hx, hgx⟩
    unfold n2; rw [this, Bool.or_true])
  have g1 : ¬ 200 < x.found.length := by have := of_decide_eq_false hs; omega
  refine yF rfl rfl rfl rfl ?_
  refine yL rfl rfl rfl ?_
  refine yM rfl rfl ?_
  refine aa rfl (bt rfl rfl rfl rfl (br (by assumption)) (Enc.len _)) ?_
  refine yF rfl rfl rfl rfl ?_
  refine yL rfl rfl rfl ?_
  refine aa rfl (bk rfl rfl (List.length_map _)) ?_
  refine aa rfl (ib rfl rfl rfl) ?_
  refine aa rfl (co rfl rfl (by constructor)) ?_
  refine yN ?_
  dsimp only [St.put]
  refine K10 _ ?_
  refine aw rfl (fun hc => ?_) (fun hc => ?_)
  ·have hgx : kd x = true := by
    first
    | (simp [kd, g1]; done)
    | (have g2 : 200 < x.well.length := by (have := of_decide_eq_true hc; omega)
       simp [kd, g2])
   refine yS fun _ K12 => ?_
   refine yR ?_
   refine yA rfl rfl ?_
   refine yN ?_
   dsimp only [St.put]
   refine K12 _ ?_
   refine ax ?_
   refine bf rfl (by constructor) zN zS ?_
   exact vb (by
    have : p.pages.any kd = true := List.any_eq_true.2 ⟨x, f4 hx, hgx⟩
    unfold n2; rw [this, Bool.or_true])
  have hgx : kd x = false := by
   have g2 : ¬ 200 < x.well.length := by (have := of_decide_eq_false hc; omega)
   simp [kd, g1, g2]
  refine az ?_
  refine K9 _ ?_
  refine yR ?_
  refine yM rfl rfl ?_
  refine aa rfl (bv rfl rfl rfl (by omega)) ?_
  refine yA rfl rfl ?_
  refine yN ?_
  dsimp only [St.put]
  exact ⟨i + 1, by omega, ⟨by omega, x5 (p := fun x : am => kd x = false) hx hgx hI.2⟩, ⟨⟨rfl, rfl⟩, zF, zB, zN, zX⟩⟩
 replace hc := of_decide_eq_false hc
 have hall := hI.2
 rw [gl (show p.pages.length ≤ i by omega)] at hall
 refine c4 ?_
 refine K5 _ ?_
 refine yS fun _ K13 => ?_
 refine yR ?_
 refine yA rfl rfl ?_
 refine yN ?_
 dsimp only [St.put]
 refine K13 _ ?_
 refine ax ?_
 refine bf rfl (by constructor) zN zS ?_
 exact vb (by
  have : p.pages.any kd = false := List.any_eq_false.2 fun x hx => by rw [hall x hx]; simp
  unfold n2; rw [hst, this]; rfl)
set_option maxHeartbeats 1000000 in
theorem uio (p : ah) (es : List Int) (h : ei p) (hel : es.length ≤ 9223372036854775807) : Pure Tryz.prog 28 [val p, lst es] (.v (.bool (i7 p es))) := by
 refine cz Tryz.func28 rfl (fun m => .v) fun G nx => ?_
 simp only [Tryz.ntmps28, List.length_cons, List.length_nil, Nat.reduceAdd, Nat.reduceSub]
 refine bx fun hlt => ?_
 dsimp only at hlt
 have hn1 := h.nf
 have hn2 := h.ns
 have hnp := h.np
 have hal := lf h.text
 have hnr : cj p = p.firsts.length + p.seconds.length := rfl
 refine yS fun _ K1 => ?_
 refine yR ?_
 try dsimp only [St.put]
 refine yB rfl rfl rfl ?_
 refine yA rfl rfl ?_
 refine yN ?_
 dsimp only [St.put]
 refine K1 _ ?_
 refine yS fun _ K2 => ?_
 refine yS fun _ K3 => ?_
 refine yR ?_
 refine yM rfl rfl ?_
 refine aa rfl (bk rfl rfl (List.length_map _)) ?_
 refine yF rfl rfl rfl rfl ?_
 refine yL rfl rfl rfl ?_
 refine aa rfl (bk rfl rfl (List.length_map _)) ?_
 refine aa rfl (eu rfl rfl rfl) ?_
 refine yN ?_
 dsimp only [St.put]
 refine K3 _ ?_
 refine aw rfl (fun hc => ?_) (fun hc => ?_)
 ·have hl : ¬ es.length = p.pages.length := by
   have := jp hc
   omega
  refine yS fun _ K4 => ?_
  refine yR ?_
  refine yA rfl rfl ?_
  refine yN ?_
  dsimp only [St.put]
  refine K4 _ ?_
  refine ax ?_
  refine bf rfl (by constructor) zN zS ?_
  exact vb (ugk hl).symm
 have hl : es.length = p.pages.length := by
  have := ia hc
  omega
 refine az ?_
 refine K2 _ ?_
 refine yS fun _ K5 => ?_
 refine yS fun _ K6 => ?_
 refine yR ?_
 refine yA rfl rfl ?_
 refine yN ?_
 dsimp only [St.put]
 refine K6 _ ?_
 refine bg ?_
 refine cr 13 ?_
 refine zQ ?_
 refine c6 (G) zX ?_
 dsimp only
 refine c9 (X := Nat) (fun j => j ≤ p.pages.length ∧ ∀ k, k < j → inB (g4 es k) (ef p k) (kh p k) = true) (fun j => p.pages.length - j) (fun j => [(5, .v (.int .i64 (j : Int)))]) (fun j G' => G') 0 rfl ?_ ?_ (fun _ _ h => h) ?_ ?_ ?_
 ·exact ⟨Nat.zero_le _, fun k hk => absurd hk (Nat.not_lt_zero _)⟩
 ·exact zF
 ·rintro j hI
  exact zL
 ·exact fun _ _ _ _ h => .inl h
 rintro j hI
 dsimp only at hI ⊢
 refine yS fun _ K7 => ?_
 refine yS fun _ K8 => ?_
 refine yR ?_
 refine yM rfl rfl ?_
 refine yM rfl rfl ?_
 refine aa rfl (bk rfl rfl (List.length_map _)) ?_
 refine aa rfl (cv rfl rfl rfl) ?_
 refine yN ?_
 dsimp only [St.put]
 refine K8 _ ?_
 refine aw rfl (fun hc => ?_) (fun hc => ?_)
 ·replace hc := of_decide_eq_true hc
  have hj : j < p.pages.length := by omega
  obtain ⟨x, hx⟩ : ∃ x, p.pages[j]? = some x := da hj
  obtain ⟨e, he⟩ : ∃ e, es[j]? = some e := da (by omega)
  have hp := pageB_true.1 (h.page j x hx)
  have hfl := ll hp.found
  have hwl := ll hp.well
  have h1 : g4 es j = e := uc7 he
  have h2 : ef p j = ((cp p.text x).length : Int) := oz hx _
  have h3 : kh p j = (dn p.text x : Int) := oz hx _
  refine az ?_
  refine K7 _ ?_
  refine yS fun _ K9 => ?_
  refine bg ?_
  refine yS fun _ K10 => ?_
  refine gj [(0, none), (1, none), (2, none), (3, none), (4, none), (5, none), (8, none), (9, none), (6, none), (7, none), (10, none), (11, none), (12, none)] (fun i => [11].contains i) (fun i => [6, 10, 11].contains i) (fun i => [0, 1, 2, 5, 7, 9, 12].contains i) [] (by kernel_rfl) (by kernel_rfl) ?_
  refine xM rfl rfl rfl rfl rfl ?_
  refine xM rfl rfl rfl rfl rfl ?_
  try dsimp only [St.put]
  refine ae rfl rfl rfl rfl (bt rfl rfl rfl rfl (br (by assumption)) (Enc.len _)) ?_
  try dsimp only [St.put]
  refine bc rfl rfl rfl rfl (cc rfl rfl) ?_
  try dsimp only [St.put]
  refine bc rfl rfl rfl rfl (eg rfl rfl (Enc.len _)) ?_
  refine xM rfl rfl rfl rfl rfl ?_
  try dsimp only [St.put]
  refine bc rfl rfl rfl rfl (eg rfl rfl (Enc.len _)) ?_
  refine xM rfl rfl rfl rfl rfl ?_
  refine ix ?_
  try dsimp only [St.put]
  refine je rfl rfl rfl (bd rfl rfl rfl (ua9 p j x h.text hx (by omega) (by omega)) ⟨zD, ?_⟩)
  refine eb rfl rfl rfl rfl (bk rfl rfl (List.length_map _)) ?_
  try dsimp only [St.put]
  refine je rfl rfl rfl (bd rfl rfl rfl (uik p j x h.text hx) ⟨zD, ?_⟩)
  try dsimp only [St.put]
  refine gw rfl rfl rfl rfl (bd rfl rfl rfl (oy _ _ _) ?_)
  refine eb rfl rfl rfl rfl (dq rfl rfl) ?_
  refine iw ?_
  dsimp only [St.put]
  refine K10 _ ?_
  refine aw rfl (fun hc => ?_) (fun hc => ?_)
  ·have hin : inB (g4 es j) (ef p j) (kh p j) = false := by rw [h1, h2, h3]; simpa using hc
   refine yS fun _ K11 => ?_
   refine yR ?_
   refine yA rfl rfl ?_
   refine yN ?_
   dsimp only [St.put]
   refine K11 _ ?_
   refine ax ?_
   refine bf rfl (by constructor) zN zS ?_
   exact vb (ugj hj hin).symm
  have hin : inB (g4 es j) (ef p j) (kh p j) = true := by rw [h1, h2, h3]; simpa using hc
  refine az ?_
  refine K9 _ ?_
  refine yR ?_
  refine yM rfl rfl ?_
  refine aa rfl (bv rfl rfl rfl (by omega)) ?_
  refine yA rfl rfl ?_
  refine yN ?_
  dsimp only [St.put]
  exact ⟨j + 1, by omega, ⟨by omega, fun k hk => by
    by_cases e : k = j
    ·subst e; exact hin
    exact hI.2 k (by omega)⟩, ⟨⟨rfl, rfl⟩, zF, zB, zN, zX⟩⟩
 replace hc := of_decide_eq_false hc
 obtain rfl : j = p.pages.length := by omega
 have hIn := hI.2
 obtain ⟨S, hS⟩ : ∃ S : Nat → Nat → Int, S = fun i j => bif (bp p).by j i then g4 es j else 0 := ⟨_, rfl⟩
 have hSb : ∀ i n, n ≤ p.pages.length → 0 ≤ sm n (S i) ∧ sm n (S i) ≤ n * 600 := fun i n hn => by
  have hz : ∀ m : Nat, m ≤ p.pages.length → 0 ≤ sm m (S i) ∧ sm m (S i) ≤ m * 600 := by
   intro m
   induction m with
   | zero => intro _; simp [sm]
   | succ m ih =>
    intro hm
    have h1 := ih (by omega)
    have h2 := inB_true.1 (hIn m (by omega))
    have h3 := z6 h m
    have h4 := wj p m
    have h5 : 0 ≤ S i m ∧ S i m ≤ 600 := by
     rw [hS]
     dsimp only
     cases (bp p).by m i
     ·exact ⟨Int.le_refl _, by show (0 : Int) ≤ 600; omega⟩
     show 0 ≤ g4 es m ∧ g4 es m ≤ 600
     omega
    simp only [sm]
    omega
  exact hz n hn
 refine c4 ?_
 refine K5 _ ?_
 refine yS fun _ K12 => ?_
 refine yS fun _ K13 => ?_
 refine yR ?_
 refine yA rfl rfl ?_
 refine yN ?_
 dsimp only [St.put]
 refine K13 _ ?_
 refine bg ?_
 refine cr 13 ?_
 refine zQ ?_
 refine c6 (G) zX ?_
 dsimp only
 refine c9 (X := Nat) (fun i => i ≤ cj p ∧ ∀ k, k < i → sm p.pages.length (S k) ≤ kf p k) (fun i => cj p - i) (fun i => [(6, .v (.int .i64 (i : Int))), (7, .any), (8, .any), (9, .any), (10, .any), (11, .any), (12, .any)]) (fun i G' => G') 0 rfl ?_ ?_ (fun _ _ h => h) ?_ ?_ ?_
 ·exact ⟨Nat.zero_le _, fun k hk => absurd hk (Nat.not_lt_zero _)⟩
 ·exact zF
 ·rintro i hI
  exact zL
 ·exact fun _ _ _ _ h => .inl h
 rintro i hJ
 dsimp only at hJ ⊢
 refine yS fun _ K14 => ?_
 refine yS fun _ K15 => ?_
 refine yR ?_
 refine yM rfl rfl ?_
 refine yF rfl rfl rfl rfl ?_
 refine yL rfl rfl rfl ?_
 refine aa rfl (bk rfl rfl (List.length_map _)) ?_
 refine yF rfl rfl rfl rfl ?_
 refine yL rfl rfl rfl ?_
 refine aa rfl (bk rfl rfl (List.length_map _)) ?_
 refine aa rfl (bv rfl rfl rfl (by omega)) ?_
 refine aa rfl (cv rfl rfl rfl) ?_
 refine yN ?_
 dsimp only [St.put]
 refine K15 _ ?_
 refine aw rfl (fun hc => ?_) (fun hc => ?_)
 ·replace hc := of_decide_eq_true hc
  have hi : i < cj p := by omega
  refine az ?_
  refine K14 _ ?_
  refine yS fun _ K16 => ?_
  refine bg ?_
  refine yS fun _ K17 => ?_
  refine yR ?_
  refine yM rfl rfl ?_
  refine yA rfl rfl ?_
  refine yA rfl rfl ?_
  refine yN ?_
  dsimp only [St.put]
  refine K17 _ ?_
  refine cr 13 ?_
  refine zQ ?_
  refine j4 (X := Bool × Nat) (fun y => (kf p i = jt p y.1 y.2 ∧ y.2 < (du p y.1).length) ∧ ∀ (j : Nat) (x : am), p.pages[j]? = some x → (bp p).by j i = decide (d9 y.1 x = (y.2 : Int))) (fun y => [(7, .v (.bool y.1)), (8, .v (.int .i64 (y.2 : Int)))]) (fun y G' => G') rfl ?_ (fun _ _ _ _ h => .inl h) ?_ ?_
  ·rintro ⟨b, k⟩ hI
   exact zL
  ·refine yS fun _ K19 => ?_
   refine yR ?_
   refine yM rfl rfl ?_
   refine yF rfl rfl rfl rfl ?_
   refine yL rfl rfl rfl ?_
   refine aa rfl (bk rfl rfl (List.length_map _)) ?_
   refine aa rfl (mu rfl rfl rfl) ?_
   refine yN ?_
   dsimp only [St.put]
   refine K19 _ ?_
   refine aw rfl (fun hc => ?_) (fun hc => ?_)
   ·have hh : p.firsts.length ≤ i := by have := of_decide_eq_true hc; omega
    refine gj [(0, none), (1, none), (2, none), (3, none), (4, none), (5, none), (6, none)] (fun i => [].contains i) (fun i => [].contains i) (fun i => [0, 1, 3, 4, 5, 6].contains i) [] (by kernel_rfl) (by kernel_rfl) ?_
    refine xM rfl rfl rfl rfl rfl ?_
    refine ae rfl rfl rfl rfl (cn rfl rfl rfl) ?_
    try dsimp only [St.put]
    refine bc rfl rfl rfl rfl (cc rfl rfl) ?_
    refine ae rfl rfl rfl rfl (bk rfl rfl (List.length_map _)) ?_
    refine ae rfl rfl rfl rfl (gy rfl rfl rfl (by omega)) ?_
    refine ae rfl rfl rfl rfl (fj rfl (by constructor)) ?_
    refine ae rfl rfl rfl rfl (fj rfl (by constructor)) ?_
    refine ay ?_
    dsimp only [St.put]
    first
    | (rw [show (i : Int) - (p.firsts.length : Int) = ((i - p.firsts.length : Nat) : Int) by omega]
       exact ⟨(true, i - p.firsts.length), ⟨⟨by unfold kf; rw [decide_eq_false (show ¬ i < p.firsts.length by omega)]; rfl, by show i - p.firsts.length < p.seconds.length; omega⟩, fun j x hx => by rw [rf h hx, decide_eq_false (show ¬ i < p.firsts.length by omega)]; rfl⟩, ⟨⟨rfl, rfl⟩, zF, zB, zN, zX⟩⟩)
    | exact ⟨(false, i), ⟨⟨by unfold kf; rw [decide_eq_true (show i < p.firsts.length by omega)]; rfl, by show i < p.firsts.length; omega⟩, fun j x hx => by rw [rf h hx, decide_eq_true (show i < p.firsts.length by omega)]; rfl⟩, ⟨⟨rfl, rfl⟩, zF, zB, zN, zX⟩⟩
   have hh : ¬ p.firsts.length ≤ i := by have := of_decide_eq_false hc; omega
   refine az ?_
   first
   | (rw [show (i : Int) - (p.firsts.length : Int) = ((i - p.firsts.length : Nat) : Int) by omega]
      exact ⟨(true, i - p.firsts.length), ⟨⟨by unfold kf; rw [decide_eq_false (show ¬ i < p.firsts.length by omega)]; rfl, by show i - p.firsts.length < p.seconds.length; omega⟩, fun j x hx => by rw [rf h hx, decide_eq_false (show ¬ i < p.firsts.length by omega)]; rfl⟩, ⟨⟨rfl, rfl⟩, zF, zB, zN, zX⟩⟩)
   | exact ⟨(false, i), ⟨⟨by unfold kf; rw [decide_eq_true (show i < p.firsts.length by omega)]; rfl, by show i < p.firsts.length; omega⟩, fun j x hx => by rw [rf h hx, decide_eq_true (show i < p.firsts.length by omega)]; rfl⟩, ⟨⟨rfl, rfl⟩, zF, zB, zN, zX⟩⟩
  rintro ⟨b, k⟩ hk
  dsimp only at hk ⊢
  refine yS fun _ K20 => ?_
  refine yR ?_
  refine yA rfl rfl ?_
  refine yN ?_
  dsimp only [St.put]
  refine K20 _ ?_
  refine yS fun _ K21 => ?_
  refine yS fun _ K22 => ?_
  refine yR ?_
  refine yA rfl rfl ?_
  refine yN ?_
  dsimp only [St.put]
  refine K22 _ ?_
  refine bg ?_
  refine cr 13 ?_
  refine zQ ?_
  refine c6 (G) zX ?_
  dsimp only
  refine c9 (X := Nat) (fun n => n ≤ p.pages.length) (fun n => p.pages.length - n) (fun n => [(9, .v (.int .i64 (sm n (S i)))), (10, .v (.int .i64 (n : Int)))]) (fun n G' => G') 0 rfl ?_ ?_ (fun _ _ h => h) ?_ ?_ ?_
  ·exact Nat.zero_le _
  ·exact zF
  ·rintro n hI
   exact zL
  ·exact fun _ _ _ _ h => .inl h
  rintro n hL
  dsimp only at hL ⊢
  refine yS fun _ K23 => ?_
  refine yS fun _ K24 => ?_
  refine yR ?_
  refine yM rfl rfl ?_
  refine yM rfl rfl ?_
  refine aa rfl (bk rfl rfl (List.length_map _)) ?_
  refine aa rfl (cv rfl rfl rfl) ?_
  refine yN ?_
  dsimp only [St.put]
  refine K24 _ ?_
  refine aw rfl (fun hc => ?_) (fun hc => ?_)
  ·replace hc := of_decide_eq_true hc
   have hnl : n < p.pages.length := by omega
   obtain ⟨x, hx⟩ : ∃ x, p.pages[n]? = some x := da hnl
   obtain ⟨e, he⟩ : ∃ e, es[n]? = some e := da (by omega)
   have h1 : g4 es n = e := uc7 he
   have h2 := inB_true.1 (hIn n hnl)
   have h3 := z6 h n
   have h4 := wj p n
   rw [h1] at h2
   have h5 := hSb i n (by omega)
   have hSi : S i n = bif decide (d9 b x = (k : Int)) then e else 0 := by rw [hS]; dsimp only; rw [hk.2 n x hx, h1]
   refine az ?_
   refine K23 _ ?_
   refine yS fun _ K25 => ?_
   refine bg ?_
   refine yS fun _ K26 => ?_
   refine yR ?_
   refine yE rfl rfl rfl ?_
   refine yM rfl rfl ?_
   refine yM rfl rfl ?_
   refine yM rfl rfl ?_
   try dsimp only [St.put]
   refine af rfl (bd rfl rfl rfl (ua7 p n x b (k : Int) hx) ?_)
   refine yN ?_
   dsimp only [St.put]
   refine K26 _ ?_
   refine aw rfl (fun hc => ?_) (fun hc => ?_)
   ·have hrd := hc
    refine yR ?_
    refine yM rfl rfl ?_
    refine yM rfl rfl ?_
    refine yM rfl rfl ?_
    refine aa rfl (bt rfl rfl rfl rfl (br (by assumption)) (Enc.len _)) ?_
    refine yL rfl rfl rfl ?_
    refine aa rfl (bv rfl rfl rfl (by omega)) ?_
    refine yA rfl rfl ?_
    refine yN ?_
    dsimp only [St.put]
    refine K25 _ ?_
    refine yR ?_
    refine yM rfl rfl ?_
    refine aa rfl (bv rfl rfl rfl (by omega)) ?_
    refine yA rfl rfl ?_
    refine yN ?_
    dsimp only [St.put]
    first
    | (have hb : decide (d9 b x = (k : Int)) = true := hrd
       rw [show sm n (S i) + e = sm (n + 1) (S i) by simp only [sm]; rw [hSi, hb]; rfl]
       exact ⟨n + 1, by omega, by omega, ⟨⟨rfl, rfl⟩, zF, zB, zN, zX⟩⟩)
    | (have hb : decide (d9 b x = (k : Int)) = false := hrd
       rw [show sm n (S i) = sm (n + 1) (S i) by simp only [sm]; rw [hSi, hb]; simp]
       exact ⟨n + 1, by omega, by omega, ⟨⟨rfl, rfl⟩, zF, zB, zN, zX⟩⟩)
   have hrd := hc
   refine az ?_
   refine K25 _ ?_
   refine yR ?_
   refine yM rfl rfl ?_
   refine aa rfl (bv rfl rfl rfl (by omega)) ?_
   refine yA rfl rfl ?_
   refine yN ?_
   dsimp only [St.put]
   first
   | (have hb : decide (d9 b x = (k : Int)) = true := hrd
      rw [show sm n (S i) + e = sm (n + 1) (S i) by simp only [sm]; rw [hSi, hb]; rfl]
      exact ⟨n + 1, by omega, by omega, ⟨⟨rfl, rfl⟩, zF, zB, zN, zX⟩⟩)
   | (have hb : decide (d9 b x = (k : Int)) = false := hrd
      rw [show sm n (S i) = sm (n + 1) (S i) by simp only [sm]; rw [hSi, hb]; simp]
      exact ⟨n + 1, by omega, by omega, ⟨⟨rfl, rfl⟩, zF, zB, zN, zX⟩⟩)
  replace hc := of_decide_eq_false hc
  obtain rfl : n = p.pages.length := by omega
  refine c4 ?_
  refine K21 _ ?_
  refine yS fun _ K27 => ?_
  refine yR ?_
  refine yE rfl rfl rfl ?_
  refine yM rfl rfl ?_
  refine yM rfl rfl ?_
  try dsimp only [St.put]
  refine af rfl (bd rfl rfl rfl (uin p b k h hk.1.2) ?_)
  refine yM rfl rfl ?_
  refine yX rfl rfl rfl rfl ?_
  refine yX rfl rfl rfl rfl ?_
  refine yA rfl rfl ?_
  refine yA rfl rfl ?_
  refine yN ?_
  dsimp only [St.put]
  refine K27 _ ?_
  refine yS fun _ K28 => ?_
  refine yR ?_
  refine yM rfl rfl ?_
  refine yM rfl rfl ?_
  refine aa rfl (ib rfl rfl rfl) ?_
  refine yN ?_
  dsimp only [St.put]
  refine K28 _ ?_
  refine aw rfl (fun hc => ?_) (fun hc => ?_)
  ·have hgt : ¬ sm p.pages.length (S i) ≤ kf p i := by
    have := of_decide_eq_true hc
    rw [hk.1.1]
    omega
   refine yS fun _ K29 => ?_
   refine yR ?_
   refine yA rfl rfl ?_
   refine yN ?_
   dsimp only [St.put]
   refine K29 _ ?_
   refine ax ?_
   refine bf rfl (by constructor) zN zS ?_
   exact vb (ugi hi (by rw [hS] at hgt; exact hgt)).symm
  have hle : sm p.pages.length (S i) ≤ kf p i := by
   have := of_decide_eq_false hc
   rw [hk.1.1]
   omega
  refine az ?_
  refine K16 _ ?_
  refine yR ?_
  refine yM rfl rfl ?_
  refine aa rfl (bv rfl rfl rfl (by omega)) ?_
  refine yA rfl rfl ?_
  refine yN ?_
  dsimp only [St.put]
  exact ⟨i + 1, by omega, ⟨by omega, fun k hk => by
    by_cases e : k = i
    ·subst e; exact hle
    exact hJ.2 k (by omega)⟩, ⟨⟨rfl, rfl⟩, zF, zB, zN, zX⟩⟩
 replace hc := of_decide_eq_false hc
 obtain rfl : i = cj p := by omega
 refine c4 ?_
 refine K12 _ ?_
 refine yS fun _ K30 => ?_
 refine yR ?_
 refine yA rfl rfl ?_
 refine yN ?_
 dsimp only [St.put]
 refine K30 _ ?_
 refine ax ?_
 refine bf rfl (by constructor) zN zS ?_
 exact vb (ugg hl hIn (fun k hk => by have := hJ.2 k hk; rw [hS] at this; exact this)).symm
end Go.Proofs.YtbbdginipiljdaaGreatDoor
namespace Go.AB
open Go Go.RowKit
open Go.AB.Enc (cells)
open Go.PB (ba ai PlaceD bh bj bi bu am ah cy bq dd dj)
def pgC (p : ah) (n : Int) : C := bif decide (em p n = 0) then jo p else .v (.pointer none)
theorem uiu (m : Nat) (p : ah) (n : Int) : C.low m (pgC p n) := by
 unfold pgC
 cases decide (em p n = 0)
 ·exact .v
 exact ub1 m p
theorem ubh {p : ah} {n : Int} (h : em p n ≠ 0) : pgC p n = .v (.pointer none) := by unfold pgC; rw [decide_eq_false h]; rfl
theorem r7 {p : ah} {n : Int} (h : em p n = 0) : pgC p n = .elem [lst p.text, lst p.firsts, lst p.seconds, lst p.pages, lst (p.pages.map fun x => (dn p.text x : Int)), lst (p.pages.map (cp p.text)), lst (p.pages.map (c8 p.text))] := by
 unfold pgC
 rw [decide_eq_true h, cond_true, ux (qb h).1]
theorem qr {α β : Type} {l : List α} {k : Nat} {x : α} (f : α → β) (h : l[k]? = some x) : (l.map f)[k]? = some (f x) := by rw [List.getElem?_map, h]; rfl
end Go.AB
namespace Go.Proofs.YtbbdginipiljdaaGreatDoor
set_option maxRecDepth 10000
open Go Go.RowKit Go.AB
open Go.AB.Enc (cells)
open Go.PB (ba ai PlaceD bh bj bi bu am ah cy bq dd dj)
theorem uhk (m : Nat) (b : Bool) : ∀ c ∈ nh b, C.low m c := fun c hc => by
 simp only [List.mem_cons, List.not_mem_nil, or_false] at hc
 rcases hc with rfl | rfl | rfl <;> exact .fn (by simp)
theorem qn (n : Nat) (p : ah) (m : Int) : fa n e8 Tryz.prog 42 [val p, .v (.int .i64 m)] (.tup [pgC p m, .v (.int .i64 (em p m))]) := fun G nx hF hnx => by
 refine il (G) (nx) Tryz.func42 rfl (.tup (cm (uiu _ _ _) (cm .v dh))) zN (fun hlt => zH) ?_
 simp only [Tryz.ntmps42, List.length_cons, List.length_nil, Nat.reduceAdd, Nat.reduceSub]
 refine bx fun hlt => ?_
 dsimp only at hlt
 refine yS fun _ K1 => ?_
 refine yR ?_
 try dsimp only [St.put]
 refine yB rfl rfl rfl ?_
 refine yA rfl rfl ?_
 refine yA rfl rfl ?_
 refine yN ?_
 dsimp only [St.put]
 refine K1 _ ?_
 refine yS fun _ K2 => ?_
 refine yR ?_
 refine yE rfl rfl rfl ?_
 try dsimp only [St.put]
 refine af rfl (ed rfl rfl rfl (nm n p) zG (by dsimp only [St.put]; omega) ?_)
 refine yM rfl rfl ?_
 refine yX rfl rfl rfl rfl ?_
 refine yX rfl rfl rfl rfl ?_
 refine yA rfl rfl ?_
 refine yA rfl rfl ?_
 refine yN ?_
 dsimp only [St.put]
 refine K2 _ ?_
 refine yS fun _ K3 => ?_
 refine yS fun _ K4 => ?_
 refine yR ?_
 refine yM rfl rfl ?_
 refine aa rfl (eu rfl rfl rfl) ?_
 refine yN ?_
 dsimp only [St.put]
 refine K4 _ ?_
 refine aw rfl (fun hc => ?_) (fun hc => ?_)
 ·have h0 : cx p ≠ 0 := jp hc
  have hE : em p m = cx p := by simp [em, h0]
  refine yS fun _ K5 => ?_
  refine yR ?_
  refine yM rfl rfl ?_
  refine yA rfl rfl ?_
  refine yA rfl rfl ?_
  refine yN ?_
  dsimp only [St.put]
  refine K5 _ ?_
  refine ax ?_
  refine jr rfl (by constructor) (by constructor) zN zS ?_ ?_
  ·rw [ubh (by rw [hE]; exact h0)]
  rw [hE]
 have h0 : cx p = 0 := ia hc
 have hnp := (lm h0).1.np
 refine az ?_
 refine K3 _ ?_
 refine yS fun _ K6 => ?_
 refine yS fun _ K7 => ?_
 refine yR ?_
 refine yF rfl rfl rfl rfl ?_
 refine yL rfl rfl rfl ?_
 refine aa rfl (bk rfl rfl (List.length_map _)) ?_
 refine aa rfl (gy rfl rfl rfl (by omega)) ?_
 refine yM rfl rfl ?_
 try dsimp only [St.put]
 refine af rfl (cb rfl rfl rfl (by decide) (by decide) zR (by decide) ?_)
 try dsimp only [St.put]
 refine af rfl (bd rfl rfl rfl (mp _ _ [_]) ?_)
 refine aa rfl (dq rfl rfl) ?_
 refine yN ?_
 dsimp only [St.put]
 refine K7 _ ?_
 refine aw rfl (fun hc => ?_) (fun hc => ?_)
 ·have h1 : inB m 0 ((p.pages.length : Int) - 1) = false := by rw [gh] at hc; simpa using hc
  have hE : em p m = 2 := by simp [em, h0, h1]
  refine yS fun _ K8 => ?_
  refine yR ?_
  refine yA rfl rfl ?_
  refine yA rfl rfl ?_
  refine yN ?_
  dsimp only [St.put]
  refine K8 _ ?_
  refine ax ?_
  refine jr rfl (by constructor) (by constructor) zN zS ?_ ?_
  ·rw [ubh (by rw [hE]; decide)]
  rw [hE]
 have h1 : inB m 0 ((p.pages.length : Int) - 1) = true := by rw [gh] at hc; simpa using hc
 have hE : em p m = 0 := by simp [em, h0, h1]
 refine az ?_
 refine K6 _ ?_
 refine yS fun _ K9 => ?_
 refine yR ?_
 refine yM rfl rfl ?_
 refine yA rfl rfl ?_
 refine yA rfl rfl ?_
 refine yN ?_
 dsimp only [St.put]
 refine K9 _ ?_
 refine ax ?_
 refine jr rfl (by constructor) (by constructor) zN zS ?_ ?_
 ·unfold pgC; rw [decide_eq_true hE]; rfl
 rw [hE]
theorem ui0 (n : Nat) (p : ah) (m : Int) : fa n e8 Tryz.prog 62 [val p, .v (.int .i64 m)] (.tup [.v (.int .i64 (pn p m)), .v (.int .i64 (em p m))]) := fun G nx hF hnx => by
 refine il (G) (nx) Tryz.func62 rfl (.tup (cm .v (cm .v dh))) zN (fun hlt => zH) ?_
 simp only [Tryz.ntmps62, List.length_cons, List.length_nil, Nat.reduceAdd, Nat.reduceSub]
 refine bx fun hlt => ?_
 dsimp only at hlt
 refine yS fun _ K1 => ?_
 refine yR ?_
 try dsimp only [St.put]
 refine yB rfl rfl rfl ?_
 refine yA rfl rfl ?_
 refine yA rfl rfl ?_
 refine yN ?_
 dsimp only [St.put]
 refine K1 _ ?_
 refine yS fun _ K2 => ?_
 refine yR ?_
 refine yE rfl rfl rfl ?_
 refine yM rfl rfl ?_
 try dsimp only [St.put]
 refine af rfl (ed rfl rfl rfl (qn n p m) zG (by dsimp only [St.put]; omega) ?_)
 refine yM rfl rfl ?_
 refine yX rfl rfl rfl rfl ?_
 refine yX rfl rfl rfl rfl ?_
 refine yA rfl rfl ?_
 refine yA rfl rfl ?_
 refine yN ?_
 dsimp only [St.put]
 refine K2 _ ?_
 refine yS fun _ K3 => ?_
 refine yS fun _ K4 => ?_
 refine yR ?_
 refine yM rfl rfl ?_
 refine aa rfl (eu rfl rfl rfl) ?_
 refine yN ?_
 dsimp only [St.put]
 refine K4 _ ?_
 refine aw rfl (fun hc => ?_) (fun hc => ?_)
 ·have h0 : em p m ≠ 0 := jp hc
  have hV : pn p m = 0 := by unfold pn; rw [ld h0]
  refine yS fun _ K5 => ?_
  refine yR ?_
  refine yM rfl rfl ?_
  refine yA rfl rfl ?_
  refine yA rfl rfl ?_
  refine yN ?_
  dsimp only [St.put]
  refine K5 _ ?_
  refine ax ?_
  refine jr rfl (by constructor) (by constructor) zN zS ?_ ?_
  ·exact vi hV.symm
  rfl
 have h0 : em p m = 0 := ia hc
 obtain ⟨hc0, j, x, rfl, hx, hpo⟩ := qb h0
 have hw := qr (fun x => (dn p.text x : Int)) hx
 have hV : pn p (j : Int) = (dn p.text x : Int) := by unfold pn; rw [h0, hpo]; rfl
 rw [r7 h0]
 refine az ?_
 refine K3 _ ?_
 refine yS fun _ K6 => ?_
 refine yR ?_
 refine yM rfl rfl ?_
 refine aa rfl (ku rfl rfl) ?_
 refine yF rfl rfl rfl rfl ?_
 refine yL rfl rfl rfl ?_
 refine yM rfl rfl ?_
 refine aa rfl (bt rfl rfl rfl rfl (br (by assumption)) (Enc.len _)) ?_
 refine yL rfl rfl rfl ?_
 refine yA rfl rfl ?_
 refine yA rfl rfl ?_
 refine yN ?_
 dsimp only [St.put]
 refine K6 _ ?_
 refine ax ?_
 refine jr rfl (by constructor) (by constructor) zN zS ?_ ?_
 ·exact vi hV.symm
 exact vi h0.symm
theorem ubq (n : Nat) (p : ah) (m : Int) : fa n e8 Tryz.prog 64 [val p, .v (.int .i64 m)] (.tup [lst (pd p m), .v (.int .i64 (em p m))]) := fun G nx hF hnx => by
 refine il (G) (nx) Tryz.func64 rfl (.tup (cm (ca _ _) (cm .v dh))) zN (fun hlt => zH) ?_
 simp only [Tryz.ntmps64, List.length_cons, List.length_nil, Nat.reduceAdd, Nat.reduceSub]
 refine bx fun hlt => ?_
 dsimp only at hlt
 refine yS fun _ K1 => ?_
 refine yR ?_
 try dsimp only [St.put]
 refine yB rfl rfl rfl ?_
 refine yA rfl rfl ?_
 refine yA rfl rfl ?_
 refine yN ?_
 dsimp only [St.put]
 refine K1 _ ?_
 refine yS fun _ K2 => ?_
 refine yR ?_
 refine yE rfl rfl rfl ?_
 refine yM rfl rfl ?_
 try dsimp only [St.put]
 refine af rfl (ed rfl rfl rfl (qn n p m) zG (by dsimp only [St.put]; omega) ?_)
 refine yM rfl rfl ?_
 refine yX rfl rfl rfl rfl ?_
 refine yX rfl rfl rfl rfl ?_
 refine yA rfl rfl ?_
 refine yA rfl rfl ?_
 refine yN ?_
 dsimp only [St.put]
 refine K2 _ ?_
 refine yS fun _ K3 => ?_
 refine yS fun _ K4 => ?_
 refine yR ?_
 refine yM rfl rfl ?_
 refine aa rfl (eu rfl rfl rfl) ?_
 refine yN ?_
 dsimp only [St.put]
 refine K4 _ ?_
 refine aw rfl (fun hc => ?_) (fun hc => ?_)
 ·have h0 : em p m ≠ 0 := jp hc
  have hV : pd p m = [] := by unfold pd; rw [ld h0]
  refine yS fun _ K5 => ?_
  refine yR ?_
  refine yM rfl rfl ?_
  refine yA rfl rfl ?_
  refine yA rfl rfl ?_
  refine yN ?_
  dsimp only [St.put]
  refine K5 _ ?_
  refine ax ?_
  refine g6 rfl (ec (by constructor)) (ec (by constructor)) zN zS ?_ ?_
  ·rw [hV]; exact zW
  exact zW
 have h0 : em p m = 0 := ia hc
 obtain ⟨hc0, j, x, rfl, hx, hpo⟩ := qb h0
 have hw := qr (cp p.text) hx
 have hV : pd p (j : Int) = cp p.text x := by unfold pd; rw [h0, hpo]; rfl
 rw [r7 h0]
 refine az ?_
 refine K3 _ ?_
 refine yS fun _ K6 => ?_
 refine yR ?_
 refine yM rfl rfl ?_
 refine aa rfl (ku rfl rfl) ?_
 refine yF rfl rfl rfl rfl ?_
 refine yL rfl rfl rfl ?_
 refine yM rfl rfl ?_
 refine aa rfl (bt rfl rfl rfl rfl (br (by assumption)) (Enc.len _)) ?_
 refine yL rfl rfl rfl ?_
 refine yA rfl rfl ?_
 refine yA rfl rfl ?_
 refine yN ?_
 dsimp only [St.put]
 refine K6 _ ?_
 refine ax ?_
 refine g6 rfl (ec (by constructor)) (ec (by constructor)) zN zS ?_ ?_
 ·rw [hV]; exact zW
 rw [h0]; exact zW
theorem ujf (n : Nat) (p : ah) (m : Int) : fa n e8 Tryz.prog 65 [val p, .v (.int .i64 m)] (.tup [lst (rg p m), .v (.int .i64 (em p m))]) := fun G nx hF hnx => by
 refine il (G) (nx) Tryz.func65 rfl (.tup (cm (ca _ _) (cm .v dh))) zN (fun hlt => zH) ?_
 simp only [Tryz.ntmps65, List.length_cons, List.length_nil, Nat.reduceAdd, Nat.reduceSub]
 refine bx fun hlt => ?_
 dsimp only at hlt
 refine yS fun _ K1 => ?_
 refine yR ?_
 try dsimp only [St.put]
 refine yB rfl rfl rfl ?_
 refine yA rfl rfl ?_
 refine yA rfl rfl ?_
 refine yN ?_
 dsimp only [St.put]
 refine K1 _ ?_
 refine yS fun _ K2 => ?_
 refine yR ?_
 refine yE rfl rfl rfl ?_
 refine yM rfl rfl ?_
 try dsimp only [St.put]
 refine af rfl (ed rfl rfl rfl (qn n p m) zG (by dsimp only [St.put]; omega) ?_)
 refine yM rfl rfl ?_
 refine yX rfl rfl rfl rfl ?_
 refine yX rfl rfl rfl rfl ?_
 refine yA rfl rfl ?_
 refine yA rfl rfl ?_
 refine yN ?_
 dsimp only [St.put]
 refine K2 _ ?_
 refine yS fun _ K3 => ?_
 refine yS fun _ K4 => ?_
 refine yR ?_
 refine yM rfl rfl ?_
 refine aa rfl (eu rfl rfl rfl) ?_
 refine yN ?_
 dsimp only [St.put]
 refine K4 _ ?_
 refine aw rfl (fun hc => ?_) (fun hc => ?_)
 ·have h0 : em p m ≠ 0 := jp hc
  have hV : rg p m = [] := by unfold rg; rw [ld h0]
  refine yS fun _ K5 => ?_
  refine yR ?_
  refine yM rfl rfl ?_
  refine yA rfl rfl ?_
  refine yA rfl rfl ?_
  refine yN ?_
  dsimp only [St.put]
  refine K5 _ ?_
  refine ax ?_
  refine g6 rfl (ec (by constructor)) (ec (by constructor)) zN zS ?_ ?_
  ·rw [hV]; exact zW
  exact zW
 have h0 : em p m = 0 := ia hc
 obtain ⟨hc0, j, x, rfl, hx, hpo⟩ := qb h0
 have hw := qr (c8 p.text) hx
 have hV : rg p (j : Int) = c8 p.text x := by unfold rg; rw [h0, hpo]; rfl
 rw [r7 h0]
 refine az ?_
 refine K3 _ ?_
 refine yS fun _ K6 => ?_
 refine yR ?_
 refine yM rfl rfl ?_
 refine aa rfl (ku rfl rfl) ?_
 refine yF rfl rfl rfl rfl ?_
 refine yL rfl rfl rfl ?_
 refine yM rfl rfl ?_
 refine aa rfl (bt rfl rfl rfl rfl (br (by assumption)) (Enc.len _)) ?_
 refine yL rfl rfl rfl ?_
 refine yA rfl rfl ?_
 refine yA rfl rfl ?_
 refine yN ?_
 dsimp only [St.put]
 refine K6 _ ?_
 refine ax ?_
 refine g6 rfl (ec (by constructor)) (ec (by constructor)) zN zS ?_ ?_
 ·rw [hV]; exact zW
 rw [h0]; exact zW
theorem uje (n : Nat) (p : ah) (b : Bool) (m : Int) : fa n e8 Tryz.prog 29 [val p, .v (.bool b), .v (.int .i64 m)] (.tup [.v (.int .i64 (n8 p b m)), .v (.int .i64 (j7 p b m))]) := fun G nx hF hnx => by
 refine il (G) (nx) Tryz.func29 rfl (.tup (cm .v (cm .v dh))) zN (fun hlt => zH) ?_
 simp only [Tryz.ntmps29, List.length_cons, List.length_nil, Nat.reduceAdd, Nat.reduceSub]
 refine bx fun hlt => ?_
 dsimp only at hlt
 refine yS fun _ K1 => ?_
 refine yR ?_
 try dsimp only [St.put]
 refine yB rfl rfl rfl ?_
 refine yA rfl rfl ?_
 refine yA rfl rfl ?_
 refine yN ?_
 dsimp only [St.put]
 refine K1 _ ?_
 refine yS fun _ K2 => ?_
 refine yR ?_
 refine yE rfl rfl rfl ?_
 try dsimp only [St.put]
 refine af rfl (ed rfl rfl rfl (nm n p) zG (by dsimp only [St.put]; omega) ?_)
 refine yM rfl rfl ?_
 refine yX rfl rfl rfl rfl ?_
 refine yX rfl rfl rfl rfl ?_
 refine yA rfl rfl ?_
 refine yA rfl rfl ?_
 refine yN ?_
 dsimp only [St.put]
 refine K2 _ ?_
 refine yS fun _ K3 => ?_
 refine yS fun _ K4 => ?_
 refine yR ?_
 refine yM rfl rfl ?_
 refine aa rfl (eu rfl rfl rfl) ?_
 refine yN ?_
 dsimp only [St.put]
 refine K4 _ ?_
 refine aw rfl (fun hc => ?_) (fun hc => ?_)
 ·have h0 : cx p ≠ 0 := jp hc
  have hE : j7 p b m = cx p := by simp [j7, h0]
  refine yS fun _ K5 => ?_
  refine yR ?_
  refine yM rfl rfl ?_
  refine yA rfl rfl ?_
  refine yA rfl rfl ?_
  refine yN ?_
  dsimp only [St.put]
  refine K5 _ ?_
  refine ax ?_
  refine jr rfl (by constructor) (by constructor) zN zS ?_ ?_
  ·exact vi (by simp [n8, atE, hE, h0])
  exact vi hE.symm
 have h0 : cx p = 0 := ia hc
 obtain ⟨hok, _⟩ := lm h0
 have hn1 := hok.nf
 have hn2 := hok.ns
 have hsl : (du p b).length ≤ 3 := by
  cases b
  ·exact hn1
  exact hn2
 rw [ux h0]
 refine az ?_
 refine K3 _ ?_
 refine yS fun _ K6 => ?_
 refine yR ?_
 try dsimp only [St.put]
 refine aa rfl (ucc (j := n) (k := 0) (m := 2) (sz := 3) rfl rfl zG rfl rfl (by decide) rfl) ?_
 try dsimp only [St.put]
 refine ci rfl (c := .agg (nh false)) (ja (cs := sidL) rfl rfl (show 3 ≤ 6 by decide)) ?_
 try dsimp only [St.put]
 refine af rfl (d8 rfl ?_)
 try dsimp only [St.put]
 refine af rfl (dc rfl rfl rfl zG rfl rfl (by rfl) ?_)
 refine yN ?_
 dsimp only [St.put]
 refine K6 _ ?_
 refine cr 13 ?_
 refine zQ ?_
 refine j4 (X := Nat) (fun wv => True) (fun wv => []) (fun wv G' => aq G nx (.box wv (nh b))) rfl ?_ ?_ ?_ ?_
 ·rintro wv hI
  exact zL
 ·rintro wv hI
  exact (by (repeat' (refine kz ?_ (by (try dsimp only); omega) ?_)); all_goals (first | exact k6 zS | (repeat' (first | exact trivial | refine ⟨?_, ?_⟩ | exact .v | exact .any | refine .elem ?_ | exact ca _ _ | exact fm _ _ | exact el _ _ | exact fp _ (by (try dsimp only); omega) | exact .box (by (try dsimp only); omega) | exact fg | exact dh | exact uhk _ _ | refine fw ?_ ?_ | exact .arr (by (try dsimp only); omega) | exact .own (by (try dsimp only); omega) | exact .map (by (try dsimp only); omega) | exact ey _ | refine cm ?_ ?_ | exact ca _ _))))
 ·refine yS fun _ K8 => ?_
  refine yR ?_
  refine yM rfl rfl ?_
  refine yN ?_
  dsimp only [St.put]
  refine K8 _ ?_
  refine aw rfl (fun hc => ?_) (fun hc => ?_)
  ·obtain rfl : b = true := hc
   have hyes : True := trivial
   refine yR ?_
   try dsimp only [St.put]
   refine aa rfl (ucc (j := n) (k := 1) (m := 2) (sz := 3) rfl rfl zG rfl rfl (by decide) rfl) ?_
   try dsimp only [St.put]
   refine ci rfl (eg rfl rfl rfl) ?_
   try dsimp only [St.put]
   refine af rfl (dc rfl rfl rfl zG rfl rfl (by rfl) ?_)
   refine yN ?_
   dsimp only [St.put]
   first
   | exact ⟨1 + 1, hyes, ⟨⟨rfl, rfl⟩, zF, zB, zN, zX⟩⟩
   | exact ⟨1, hno, ⟨⟨rfl, rfl⟩, zF, zB, zN, zX⟩⟩
  obtain rfl : b = false := hc
  have hno : True := trivial
  refine az ?_
  first
  | exact ⟨1 + 1, hyes, ⟨⟨rfl, rfl⟩, zF, zB, zN, zX⟩⟩
  | exact ⟨1, hno, ⟨⟨rfl, rfl⟩, zF, zB, zN, zX⟩⟩
 rintro wv hI
 dsimp only at hI ⊢
 refine yS fun _ K9 => ?_
 refine yS fun _ K10 => ?_
 refine yR ?_
 refine aa rfl (bl rfl rfl) ?_
 try dsimp only [St.put]
 refine ci rfl (gd rfl rfl zG trivial (by first | rfl | assumption)) ?_
 refine yE rfl rfl rfl ?_
 try dsimp only [St.put]
 refine af rfl (bd rfl rfl rfl (ov b p) ?_)
 refine aa rfl (bk rfl rfl (List.length_map _)) ?_
 refine aa rfl (gy rfl rfl rfl (by omega)) ?_
 refine yM rfl rfl ?_
 try dsimp only [St.put]
 refine af rfl (cb rfl rfl rfl (by decide) (by decide) zR (by decide) ?_)
 try dsimp only [St.put]
 refine af rfl (bd rfl rfl rfl (mp _ _ [_]) ?_)
 refine aa rfl (dq rfl rfl) ?_
 refine yN ?_
 dsimp only [St.put]
 refine K10 _ ?_
 refine aw rfl (fun hc => ?_) (fun hc => ?_)
 ·have h1 : inB m 0 (((du p b).length : Int) - 1) = false := by rw [gh] at hc; simpa using hc
  have hE : j7 p b m = 2 := by simp [j7, h0, h1]
  refine yS fun _ K11 => ?_
  refine yR ?_
  refine yA rfl rfl ?_
  refine yA rfl rfl ?_
  refine yN ?_
  dsimp only [St.put]
  refine K11 _ ?_
  refine ax ?_
  refine jr rfl (by constructor) (by constructor) zN zS ?_ ?_
  ·exact vi (by simp [n8, atE, hE])
  exact vi hE.symm
 have h1 : inB m 0 (((du p b).length : Int) - 1) = true := by rw [gh] at hc; simpa using hc
 have hE : j7 p b m = 0 := by simp [j7, h0, h1]
 obtain ⟨j, hj⟩ : ∃ j : Nat, m = (j : Int) := ⟨m.toNat, by have := inB_true.1 h1; omega⟩
 subst hj
 have hjl : j < (du p b).length := by have := inB_true.1 h1; omega
 have hV : n8 p b (j : Int) = jt p b j := by simp [n8, atE, hE]
 refine az ?_
 refine K9 _ ?_
 refine yS fun _ K12 => ?_
 refine yR ?_
 refine yM rfl rfl ?_
 try dsimp only [St.put]
 refine ci rfl (i4 rfl rfl zG trivial (by rfl)) ?_
 refine yM rfl rfl ?_
 try dsimp only [St.put]
 refine af rfl (bd rfl rfl rfl (ubj p b j hok hjl) ?_)
 refine yM rfl rfl ?_
 refine yX rfl rfl rfl rfl ?_
 refine yX rfl rfl rfl rfl ?_
 refine yA rfl rfl ?_
 refine yA rfl rfl ?_
 refine yN ?_
 dsimp only [St.put]
 refine K12 _ ?_
 refine yS fun _ K13 => ?_
 refine yR ?_
 refine yM rfl rfl ?_
 refine yA rfl rfl ?_
 refine yA rfl rfl ?_
 refine yN ?_
 dsimp only [St.put]
 refine K13 _ ?_
 refine ax ?_
 refine jr rfl (by constructor) (by constructor) zN zS ?_ ?_
 ·exact vi hV.symm
 exact vi hE.symm
theorem ujb (n : Nat) (p : ah) (m : Int) : fa n e8 Tryz.prog 66 [val p, .v (.int .i64 m)] (.tup [val (n1 p m), .v (.int .i64 (mz p m))]) := fun G nx hF hnx => by
 refine il (G) (nx) Tryz.func66 rfl (.tup (cm (el _ _) (cm .v dh))) zN (fun hlt => zH) ?_
 simp only [Tryz.ntmps66, List.length_cons, List.length_nil, Nat.reduceAdd, Nat.reduceSub]
 refine bx fun hlt => ?_
 dsimp only at hlt
 refine yS fun _ K1 => ?_
 refine yR ?_
 try dsimp only [St.put]
 refine yB rfl rfl rfl ?_
 try dsimp only [St.put]
 refine af rfl (d8 rfl ?_)
 refine yA rfl rfl ?_
 refine yN ?_
 dsimp only [St.put]
 refine K1 _ ?_
 refine yS fun _ K2 => ?_
 refine yR ?_
 refine yE rfl rfl rfl ?_
 refine yM rfl rfl ?_
 try dsimp only [St.put]
 refine af rfl (ed rfl rfl rfl (qn n p m) zG (by dsimp only [St.put]; omega) ?_)
 refine yM rfl rfl ?_
 refine yX rfl rfl rfl rfl ?_
 refine yX rfl rfl rfl rfl ?_
 refine yA rfl rfl ?_
 refine yA rfl rfl ?_
 refine yN ?_
 dsimp only [St.put]
 refine K2 _ ?_
 refine yS fun _ K3 => ?_
 refine yS fun _ K4 => ?_
 refine yR ?_
 refine yM rfl rfl ?_
 refine aa rfl (eu rfl rfl rfl) ?_
 refine yN ?_
 dsimp only [St.put]
 refine K4 _ ?_
 refine aw rfl (fun hc => ?_) (fun hc => ?_)
 ·have h0 : em p m ≠ 0 := jp hc
  have hE : mz p m = em p m := by unfold mz; rw [decide_eq_false h0]; rfl
  have hV : n1 p m = ⟨0, 0⟩ := by unfold n1; rw [hE, ld h0]
  refine yS fun _ K5 => ?_
  refine yR ?_
  refine aa rfl (ie rfl rfl) ?_
  refine yM rfl rfl ?_
  try dsimp only [St.put]
  refine af rfl (dc rfl rfl rfl zG rfl rfl (by rfl) ?_)
  refine yA rfl rfl ?_
  refine yN ?_
  dsimp only [St.put]
  refine K5 _ ?_
  refine ax ?_
  refine g6 rfl (j0 rfl zG (by rfl) zC rfl) (ec (by constructor)) zN zS ?_ ?_
  ·rw [hV]; exact zW
  rw [hE]; exact zW
 have h0 : em p m = 0 := ia hc
 obtain ⟨hc0, j, x, rfl, hx, hpo⟩ := qb h0
 obtain ⟨hok, _⟩ := lm hc0
 have hp := pageB_true.1 (hok.page j x hx)
 have hal := lf hok.text
 have hfl := ll hp.found
 have hwl := ll hp.well
 have hbl := uej p.text x
 have hw := qr (c8 p.text) hx
 rw [r7 h0]
 refine az ?_
 refine K3 _ ?_
 refine yS fun _ K6 => ?_
 refine yR ?_
 refine yM rfl rfl ?_
 refine aa rfl (ku rfl rfl) ?_
 refine yF rfl rfl rfl rfl ?_
 refine yL rfl rfl rfl ?_
 refine yM rfl rfl ?_
 refine aa rfl (bt rfl rfl rfl rfl (br (by assumption)) (Enc.len _)) ?_
 refine yL rfl rfl rfl ?_
 refine aa rfl (bk rfl rfl (List.length_map _)) ?_
 refine yA rfl rfl ?_
 refine yN ?_
 dsimp only [St.put]
 refine K6 _ ?_
 refine yS fun _ K7 => ?_
 refine yS fun _ K8 => ?_
 refine yR ?_
 refine yM rfl rfl ?_
 refine aa rfl (fh rfl rfl rfl) ?_
 refine yN ?_
 dsimp only [St.put]
 refine K8 _ ?_
 refine aw rfl (fun hc => ?_) (fun hc => ?_)
 ·have hk : (c8 p.text x).length = 0 := by have := of_decide_eq_true hc; omega
  have hE : mz p (j : Int) = 6 := by unfold mz; rw [h0, hpo, decide_eq_true hk]; rfl
  have hV : n1 p (j : Int) = ⟨0, 0⟩ := by unfold n1; rw [hE, ld (by decide)]
  refine yS fun _ K9 => ?_
  refine yR ?_
  refine aa rfl (ie rfl rfl) ?_
  try dsimp only [St.put]
  refine af rfl (dc rfl rfl rfl zG rfl rfl (by rfl) ?_)
  refine yA rfl rfl ?_
  refine yN ?_
  dsimp only [St.put]
  refine K9 _ ?_
  refine ax ?_
  refine g6 rfl (j0 rfl zG (by rfl) zC rfl) (ec (by constructor)) zN zS ?_ ?_
  ·rw [hV]; exact zW
  rw [hE]; exact zW
 have hk : ¬ (c8 p.text x).length = 0 := by have := of_decide_eq_false hc; omega
 obtain ⟨hE, hV⟩ := ulj h0 hpo rfl hk
 have hfw : x.found.length * x.well.length ≤ 600 * 600 := Nat.mul_le_mul (by omega) (by omega)
 have hfc := Int.natCast_mul x.found.length x.well.length
 have hjl := (List.getElem?_eq_some_iff.1 hx).1
 refine az ?_
 refine K7 _ ?_
 refine yS fun _ K10 => ?_
 refine gj [(0, none), (1, none), (2, none), (3, none), (4, none), (5, none), (6, none), (7, none), (8, none), (9, none), (10, none), (11, none), (12, none), (13, none), (14, none), (15, none)] (fun i => [].contains i) (fun i => [].contains i) (fun i => [0, 2, 3, 4, 6, 7, 9, 10, 11, 13, 14, 15].contains i) [] (by kernel_rfl) (by kernel_rfl) ?_
 refine ae rfl rfl rfl rfl (cn rfl rfl rfl) ?_
 try dsimp only [St.put]
 refine bc rfl rfl rfl rfl (cc rfl rfl) ?_
 refine xM rfl rfl rfl rfl rfl ?_
 try dsimp only [St.put]
 refine ae rfl rfl rfl rfl (bt rfl rfl rfl rfl (br (by assumption)) (Enc.len _)) ?_
 refine ae rfl rfl rfl rfl (cn rfl rfl rfl) ?_
 try dsimp only [St.put]
 refine bc rfl rfl rfl rfl (cc rfl rfl) ?_
 refine ae rfl rfl rfl rfl (bk rfl rfl (List.length_map _)) ?_
 refine ae rfl rfl rfl rfl (cn rfl rfl rfl) ?_
 try dsimp only [St.put]
 refine bc rfl rfl rfl rfl (cc rfl rfl) ?_
 refine xM rfl rfl rfl rfl rfl ?_
 try dsimp only [St.put]
 refine ae rfl rfl rfl rfl (bt rfl rfl rfl rfl (br (by assumption)) (Enc.len _)) ?_
 refine ae rfl rfl rfl rfl (cn rfl rfl rfl) ?_
 try dsimp only [St.put]
 refine bc rfl rfl rfl rfl (cc rfl rfl) ?_
 refine ae rfl rfl rfl rfl (bk rfl rfl (List.length_map _)) ?_
 refine ae rfl rfl rfl rfl (sk rfl rfl rfl (by omega)) ?_
 refine ae rfl rfl rfl rfl (fj rfl (by constructor)) ?_
 refine ay ?_
 dsimp only [St.put]
 rw [show (x.found.length : Int) * (x.well.length : Int) = ((x.found.length * x.well.length : Nat) : Int) from hfc.symm]
 obtain ⟨M, hM⟩ : ∃ M, x.found.length * x.well.length = M := ⟨_, rfl⟩
 obtain ⟨K, hK⟩ : ∃ K, (c8 p.text x).length = K := ⟨_, rfl⟩
 have hV2 : n1 p (j : Int) = ⟨(M : Int) / (K : Int), ((M : Int) + (K : Int) - 1) / (K : Int)⟩ := by
  rw [hV]
  unfold yg
  rw [hM, hK, Int.natCast_ediv, Int.natCast_ediv, show ((M + K - 1 : Nat) : Int) = (M : Int) + (K : Int) - 1 by omega]
 rw [hM] at hfw
 rw [hK] at hk hbl
 rw [hM, hK]
 refine K10 _ ?_
 refine yS fun _ K11 => ?_
 refine gj [(0, none), (1, none), (2, none), (3, none), (4, none), (5, none), (6, none), (7, none), (8, none), (9, none), (10, none), (11, none)] (fun i => [10].contains i) (fun i => [10].contains i) (fun i => [0, 1, 2, 3, 4, 5, 6, 7, 8, 9, 11].contains i) [] (by kernel_rfl) (by kernel_rfl) ?_
 refine xM rfl rfl rfl rfl rfl ?_
 refine xM rfl rfl rfl rfl rfl ?_
 refine ae rfl rfl rfl rfl (sj rfl rfl rfl (by omega) (by omega)) ?_
 refine xM rfl rfl rfl rfl rfl ?_
 refine xM rfl rfl rfl rfl rfl ?_
 refine ae rfl rfl rfl rfl (bv rfl rfl rfl (by omega)) ?_
 refine ae rfl rfl rfl rfl (gy rfl rfl rfl (by omega)) ?_
 refine xM rfl rfl rfl rfl rfl ?_
 refine ae rfl rfl rfl rfl (sj rfl rfl rfl (by omega) (by omega)) ?_
 refine ae rfl rfl rfl rfl (ie rfl rfl) ?_
 refine ix ?_
 try dsimp only [St.put]
 refine gw rfl rfl rfl rfl (dc rfl rfl rfl zG rfl rfl (by rfl) ?_)
 refine eb rfl rfl rfl rfl (fj rfl (by constructor)) ?_
 refine iw ?_
 dsimp only [St.put]
 refine K11 _ ?_
 refine ax ?_
 refine g6 rfl (j0 rfl zG (by rfl) zC rfl) (ec (by constructor)) zN zS ?_ ?_
 ·rw [hV2]; exact zW
 rw [hE]; exact zW
end Go.Proofs.YtbbdginipiljdaaGreatDoor
namespace Go.AB
open Go Go.RowKit
open Go.AB.Enc (cells)
open Go.PB (ba ai PlaceD bh bj bi bu am ah cy bq dd dj)
/-- who has read a page, of some sides -/
def ox (p : ah) (x : am) : Nat → List Int
 | 0 => []
 | k + 1 => ox p x k ++ bif decide (0 ≤ d9 (decide (k = 1)) x) then [(sdN p k : Int) + d9 (decide (k = 1)) x] else []
theorem uii (p : ah) (x : am) : ox p x 2 = dt p x := by
 show ([] ++ bif decide (0 ≤ x.fst) then [((0 : Nat) : Int) + x.fst] else []) ++ (bif decide (0 ≤ x.snd) then [(p.firsts.length : Int) + x.snd] else []) = dt p x
 rw [List.nil_append, show ((0 : Nat) : Int) + x.fst = x.fst by omega]
 rfl
theorem ua6 (p : ah) (x : am) : ∀ k, (ox p x k).length ≤ k
 | 0 => Nat.le_refl _
 | k + 1 => by
  have := ua6 p x k
  simp only [ox, List.length_append]
  cases decide (0 ≤ d9 (decide (k = 1)) x)
  ·rw [cond_false]; simp; omega
  rw [cond_true]; simp; omega
theorem ukh {α β : Type} {l : List α} {j : Nat} {x : α} (f : α → β) (h : l[j]? = some x) : (l.take (j + 1)).map f = (l.take j).map f ++ [f x] := by rw [List.take_add_one, h, Option.toList_some, List.map_append]; rfl
theorem ukx {p : ah} : (!(bw (cj p) (cw p)).any fun n => decide (n < 0)) = g8 p := by
 rw [Bool.eq_iff_iff, Bool.not_eq_true', ← Bool.not_eq_true, List.any_eq_true]
 unfold g8 bw
 rw [List.all_eq_true]
 constructor
 ·intro h i hi
  refine decide_eq_true ?_
  rcases Int.lt_or_le (cw p i) 0 with q | q
  ·exact absurd ⟨_, List.mem_map.2 ⟨i, hi, rfl⟩, decide_eq_true q⟩ h
  exact q
 rintro h ⟨z, hz, hl⟩
 obtain ⟨i, hi, rfl⟩ := List.mem_map.1 hz
 have := of_decide_eq_true (h i hi)
 have := of_decide_eq_true hl
 omega
end Go.AB
namespace Go.Proofs.YtbbdginipiljdaaGreatDoor
set_option maxRecDepth 10000
open Go Go.RowKit Go.AB
open Go.AB.Enc (cells)
open Go.PB (ba ai PlaceD bh bj bi bu am ah cy bq dd dj)
theorem uh6 (z : Int) : Pure Tryz.prog 98 [.v (.int .i64 z)] (.v (.bool (decide (z < 0)))) := by
 refine cz Tryz.func98 rfl (fun m => .v) fun G nx => ?_
 simp only [Tryz.ntmps98, List.length_cons, List.length_nil, Nat.reduceAdd, Nat.reduceSub]
 refine bx fun hlt => ?_
 dsimp only at hlt
 refine yS fun _ K1 => ?_
 refine yR ?_
 refine yA rfl rfl ?_
 refine yN ?_
 dsimp only [St.put]
 refine K1 _ ?_
 refine yS fun _ K2 => ?_
 refine yR ?_
 refine yM rfl rfl ?_
 refine aa rfl (cv rfl rfl rfl) ?_
 refine yA rfl rfl ?_
 refine yN ?_
 dsimp only [St.put]
 refine K2 _ ?_
 refine ax ?_
 refine bf rfl (by constructor) zN zS ?_
 rfl
theorem uku (p : ah) : Pure Tryz.prog 97 [.elem (j8 p)] (.fn (.func 110) [.elem [.elem (j8 p)]]) := by
 refine cz Tryz.func97 rfl (fun m => (.fn (cm (.elem (cm (.elem (cm (ca _ _) (cm (ca _ _) (cm (ca _ _) (cm (ca _ _) (cm (ca _ _) (cm (ca _ _) (cm (ca _ _) dh)))))))) dh)) dh))) fun G nx => ?_
 simp only [Tryz.ntmps97, List.length_cons, List.length_nil, Nat.reduceAdd, Nat.reduceSub]
 refine bx fun hlt => ?_
 dsimp only at hlt
 refine yS fun _ K1 => ?_
 refine yR ?_
 try dsimp only [St.put]
 refine yB rfl rfl rfl ?_
 refine yA rfl rfl ?_
 refine yN ?_
 dsimp only [St.put]
 refine K1 _ ?_
 refine yS fun _ K2 => ?_
 refine yR ?_
 refine aa rfl (pu rfl rfl) ?_
 refine yA rfl rfl ?_
 refine yN ?_
 dsimp only [St.put]
 refine K2 _ ?_
 refine ax ?_
 refine bf rfl (by constructor) zN zS ?_
 rfl
set_option maxHeartbeats 2000000 in
theorem ui7 (n : Nat) (p : ah) (h : ei p) : fa n e8 Tryz.prog 79 [.elem (j8 p)] (.tup [val (ge p (cw p) (c5 p)), .v (.bool (g8 p))]) := fun G nx hF hnx => by
 refine il (G) (nx) Tryz.func79 rfl (.tup (cm (el _ _) (cm .v dh))) zN (fun hlt => zH) ?_
 simp only [Tryz.ntmps79, List.length_cons, List.length_nil, Nat.reduceAdd, Nat.reduceSub]
 refine bx fun hlt => ?_
 dsimp only at hlt
 have hn1 := h.nf
 have hn2 := h.ns
 have hnp := h.np
 have hnr : cj p = p.firsts.length + p.seconds.length := rfl
 have hal := lf h.text
 refine yS fun _ K1 => ?_
 refine yR ?_
 try dsimp only [St.put]
 refine af rfl (d8 rfl ?_)
 refine yA rfl rfl ?_
 refine yN ?_
 dsimp only [St.put]
 refine K1 _ ?_
 refine yS fun _ K2 => ?_
 refine yR ?_
 try dsimp only [St.put]
 refine af rfl (d8 rfl ?_)
 refine yN ?_
 dsimp only [St.put]
 refine K2 _ ?_
 refine rh (nx + 1) 0 _ _ 3 1 zG rfl (by decide) ?_
 refine rh (nx + 1) 1 _ _ 3 1 zG rfl (by decide) ?_
 refine rh (nx + 1) 2 _ _ 40 1 zG rfl (by decide) ?_
 dsimp only [List.set_cons_zero, List.set_cons_succ]
 refine yS fun _ K3 => ?_
 refine yS fun _ K4 => ?_
 refine yR ?_
 refine yM rfl rfl ?_
 try dsimp only [St.put]
 refine af rfl (bd rfl rfl rfl (uku p) ?_)
 refine yN ?_
 dsimp only [St.put]
 refine K4 _ ?_
 refine bg ?_
 refine cr 15 ?_
 refine zQ ?_
 refine c6 ((aq (aq (aq (aq (aq G nx (.box 0 [.list [] .nil, .list [] .nil, .list [] .nil])) (nx + 1) (.box (0) [.list ((bw 0 (cw p)).map cells) (.tip (nx + 1 + 1)), .list ((bw 0 (c5 p)).map cells) (.tip (nx + 1 + 1 + 1)), .list (((p.pages.take 0).map (dt p)).map cells) (.tip (nx + 1 + 1 + 1 + 1))])) (nx + 1 + 1) (.tip (bw 0 (cw p)).length 3 1)) (nx + 1 + 1 + 1) (.tip (bw 0 (c5 p)).length 3 1)) (nx + 1 + 1 + 1 + 1) (.tip ((p.pages.take 0).map (dt p)).length 40 1))) zX ?_
 dsimp only
 refine ueu [15] (fun k => (aq (aq (aq (aq (aq G nx (.box 0 [.list [] .nil, .list [] .nil, .list [] .nil])) (nx + 1) (.box (k) [.list ((bw k (cw p)).map cells) (.tip (nx + 1 + 1)), .list ((bw 0 (c5 p)).map cells) (.tip (nx + 1 + 1 + 1)), .list (((p.pages.take 0).map (dt p)).map cells) (.tip (nx + 1 + 1 + 1 + 1))])) (nx + 1 + 1) (.tip (bw k (cw p)).length 3 1)) (nx + 1 + 1 + 1) (.tip (bw 0 (c5 p)).length 3 1)) (nx + 1 + 1 + 1 + 1) (.tip ((p.pages.take 0).map (dt p)).length 40 1))) (fun k => [(15, .v (.int .i64 (cw p k)))]) (ukv n p h) (fun k => zG) (by (try dsimp only); omega) rfl rfl (fun _ => rfl) ?_ ?_ ?_ (fun lr k hrk => ?_) ?_
 ·intro k
  rfl
 ·exact zX
 ·intro k
  exact zH
 ·have hll := gm k (cw p)
  refine yR ?_
  refine yA rfl rfl ?_
  refine yN ?_
  dsimp only [St.put]
  show AW _ _ _ _ _
  refine bg ?_
  refine yR ?_
  refine aa rfl (bl rfl rfl) ?_
  try dsimp only [St.put]
  refine ci rfl (gd rfl rfl zG trivial (by first | rfl | assumption)) ?_
  refine yM rfl rfl ?_
  try dsimp only [St.put]
  refine af rfl (cb rfl rfl rfl (by decide) (by decide) zR (by decide) ?_)
  try dsimp only [St.put]
  refine af rfl (cg ([cw p k]) rfl rfl zG zE rfl rfl zA ?_ zA)
  refine aa rfl (bl rfl rfl) ?_
  try dsimp only [St.put]
  refine af rfl (ce rfl rfl rfl zG (by constructor) rfl zO ?_)
  refine yN ?_
  dsimp only [St.put]
  rw [← rt k (cw p)]
  exact zX
 dsimp only
 refine K3 _ ?_
 refine yS fun _ K5 => ?_
 refine yS fun _ K6 => ?_
 refine yR ?_
 refine yM rfl rfl ?_
 refine aa rfl (ku rfl rfl) ?_
 refine yF rfl rfl rfl rfl ?_
 refine yF rfl rfl rfl rfl ?_
 refine yL rfl rfl rfl ?_
 refine aa rfl (bk rfl rfl (List.length_map _)) ?_
 refine yM rfl rfl ?_
 refine yN ?_
 dsimp only [St.put]
 refine K6 _ ?_
 refine bg ?_
 refine cr 29 ?_
 refine zQ ?_
 refine c6 ((aq (aq (aq (aq (aq G nx (.box 0 [.list [] .nil, .list [] .nil, .list [] .nil])) (nx + 1) (.box ((cj p)) [.list ((bw (cj p) (cw p)).map cells) (.tip (nx + 1 + 1)), .list ((bw 0 (c5 p)).map cells) (.tip (nx + 1 + 1 + 1)), .list (((p.pages.take 0).map (dt p)).map cells) (.tip (nx + 1 + 1 + 1 + 1))])) (nx + 1 + 1) (.tip (bw (cj p) (cw p)).length 3 1)) (nx + 1 + 1 + 1) (.tip (bw 0 (c5 p)).length 3 1)) (nx + 1 + 1 + 1 + 1) (.tip ((p.pages.take 0).map (dt p)).length 40 1))) zX ?_
 dsimp only
 refine c9 (X := Nat) (fun j => j ≤ p.pages.length) (fun j => p.pages.length - j) (fun j => [(6, .any), (7, .any), (8, .any), (9, .any), (10, .any), (11, .any), (12, .any), (28, .v (.int .i64 (j : Int)))]) (fun j G' => (aq (aq (aq (aq (aq G nx (.box 0 [.list [] .nil, .list [] .nil, .list [] .nil])) (nx + 1) (.box ((cj p + 2 * j)) [.list ((bw (cj p) (cw p)).map cells) (.tip (nx + 1 + 1)), .list ((bw j (c5 p)).map cells) (.tip (nx + 1 + 1 + 1)), .list (((p.pages.take j).map (dt p)).map cells) (.tip (nx + 1 + 1 + 1 + 1))])) (nx + 1 + 1) (.tip (bw (cj p) (cw p)).length 3 1)) (nx + 1 + 1 + 1) (.tip (bw j (c5 p)).length 3 1)) (nx + 1 + 1 + 1 + 1) (.tip ((p.pages.take j).map (dt p)).length 40 1))) 0 rfl ?_ ?_ ?_ ?_ ?_ ?_
 ·exact Nat.zero_le _
 ·exact zF
 ·exact zX
 ·rintro j hI
  exact zL
 ·rintro j hI
  exact zH
 rintro j hJ
 dsimp only at hJ ⊢
 refine yS fun _ K7 => ?_
 refine yR ?_
 refine aa rfl (cv rfl rfl rfl) ?_
 refine yN ?_
 dsimp only [St.put]
 refine K7 _ ?_
 refine yS fun _ K8 => ?_
 refine aw rfl (fun hc => ?_) (fun hc => ?_)
 ·replace hc := of_decide_eq_true hc
  obtain ⟨x, hx⟩ : ∃ x, p.pages[j]? = some x := da (by omega)
  have hw1 : (p.pages.map fun x => (dn p.text x : Int))[j]? = some (dn p.text x : Int) := qr (fun x => (dn p.text x : Int)) hx
  have hw2 := qr (cp p.text) hx
  have hgl := ra p.text x
  have hwx := t8 p.text x
  have hll := gm j (c5 p)
  have hp := pageB_true.1 (h.page j x hx)
  have hp1 := hp.fst
  have hp2 := hp.snd
  have hll2 : ((p.pages.take j).map (dt p)).length ≤ 8 := by rw [List.length_map, List.length_take]; omega
  refine az ?_
  refine K8 _ ?_
  refine yS fun _ K9 => ?_
  refine bg ?_
  refine yS fun _ K10 => ?_
  refine yR ?_
  refine yM rfl rfl ?_
  refine aa rfl (bt rfl rfl rfl rfl (br (by assumption)) (Enc.len _)) ?_
  refine yE rfl rfl rfl ?_
  try dsimp only [St.put]
  refine af rfl (d8 rfl ?_)
  refine yA rfl rfl ?_
  try dsimp only [St.put]
  refine af rfl (dc rfl rfl rfl zG rfl rfl (by rfl) ?_)
  refine yN ?_
  dsimp only [St.put]
  refine K10 _ ?_
  refine f7 (i := 7) rfl zG zC ?_
  dsimp only
  refine yS fun _ K11 => ?_
  refine gj [(0, none), (1, none), (2, none), (3, none), (4, none), (5, none), (6, none), (7, none), (8, none), (9, none), (10, none), (11, none), (12, none), (13, none), (14, none), (15, none), (16, none), (17, none), (18, none), (19, none), (20, none), (21, none)] (fun i => [19, 21].contains i) (fun i => [18, 19, 21].contains i) (fun i => [0, 2, 3, 4, 6, 7, 9, 10, 11, 13, 14, 16, 17, 20].contains i) [nx + 1] (by kernel_rfl) (by kernel_rfl) ?_
  refine ae rfl rfl rfl rfl (bl rfl rfl) ?_
  try dsimp only [St.put]
  refine bc rfl rfl rfl rfl (gd rfl rfl zG (by simp) (by first | rfl | assumption)) ?_
  refine xM rfl rfl rfl rfl rfl ?_
  refine ae rfl rfl rfl rfl (ku rfl rfl) ?_
  refine ae rfl rfl rfl rfl (cn rfl rfl rfl) ?_
  try dsimp only [St.put]
  refine bc rfl rfl rfl rfl (cc rfl rfl) ?_
  refine xM rfl rfl rfl rfl rfl ?_
  try dsimp only [St.put]
  refine ae rfl rfl rfl rfl (bt rfl rfl rfl rfl (br (by assumption)) (Enc.len _)) ?_
  try dsimp only [St.put]
  refine bc rfl rfl rfl rfl (cc rfl rfl) ?_
  refine xM rfl rfl rfl rfl rfl ?_
  refine ae rfl rfl rfl rfl (ku rfl rfl) ?_
  refine ae rfl rfl rfl rfl (cn rfl rfl rfl) ?_
  try dsimp only [St.put]
  refine bc rfl rfl rfl rfl (cc rfl rfl) ?_
  refine xM rfl rfl rfl rfl rfl ?_
  try dsimp only [St.put]
  refine ae rfl rfl rfl rfl (bt rfl rfl rfl rfl (br (by assumption)) (Enc.len _)) ?_
  try dsimp only [St.put]
  refine bc rfl rfl rfl rfl (cc rfl rfl) ?_
  refine ae rfl rfl rfl rfl (bk rfl rfl (List.length_map _)) ?_
  refine ae rfl rfl rfl rfl (gy rfl rfl rfl (by omega)) ?_
  refine ix ?_
  try dsimp only [St.put]
  refine je rfl rfl rfl (cb rfl rfl rfl (by decide) (by decide) zR (by decide) ⟨zD, ?_⟩)
  try dsimp only [St.put]
  refine gw rfl rfl rfl rfl (cg ([(dn p.text x : Int) - ((cp p.text x).length : Int)]) rfl rfl zG zE rfl rfl zA ?_ zA)
  refine eb rfl rfl rfl rfl (bl rfl rfl) ?_
  try dsimp only [St.put]
  refine gw rfl rfl rfl rfl (ce rfl rfl rfl zG (by constructor) rfl zO ?_)
  refine iw ?_
  dsimp only [St.put]
  have e := rt j (c5 p)
  rw [show c5 p j = (dn p.text x : Int) - ((cp p.text x).length : Int) from oz hx _] at e
  simp only [← e]
  refine K11 _ ?_
  refine yS fun _ K12 => ?_
  refine yR ?_
  refine yA rfl rfl ?_
  refine yN ?_
  dsimp only [St.put]
  refine K12 _ ?_
  refine m8 8 3 1 rfl (by decide) ?_
  dsimp only [List.set_cons_zero, List.set_cons_succ]
  refine yS fun _ K13 => ?_
  refine yR ?_
  refine yA rfl rfl ?_
  refine yN ?_
  dsimp only [St.put]
  refine K13 _ ?_
  refine yS fun _ K14 => ?_
  refine yS fun _ K15 => ?_
  refine yR ?_
  try dsimp only [St.put]
  refine ci rfl (ml (n := 6) (m := n) rfl rfl zG rfl) ?_
  refine yM rfl rfl ?_
  refine yN ?_
  dsimp only [St.put]
  refine K15 _ ?_
  refine bg ?_
  refine cr 56 ?_
  refine zQ ?_
  refine c6 (aq ((aq (aq (aq (aq (aq G nx (.box 0 [.list [] .nil, .list [] .nil, .list [] .nil])) (nx + 1) (.box ((cj p + 2 * j + 1)) [.list ((bw (cj p) (cw p)).map cells) (.tip (nx + 1 + 1)), .list ((bw (j + 1) (c5 p)).map cells) (.tip (nx + 1 + 1 + 1)), .list (((p.pages.take j).map (dt p)).map cells) (.tip (nx + 1 + 1 + 1 + 1))])) (nx + 1 + 1) (.tip (bw (cj p) (cw p)).length 3 1)) (nx + 1 + 1 + 1) (.tip (bw (j + 1) (c5 p)).length 3 1)) (nx + 1 + 1 + 1 + 1) (.tip ((p.pages.take j).map (dt p)).length 40 1))) (nx + 1 + 1 + 1 + 1 + 1 + 1) (.tip 0 3 1)) zX ?_
  dsimp only
  refine c9 (X := Nat) (fun k => k ≤ 2) (fun k => 2 - k) (fun k => [(8, .list ((ox p x k).map cells) (.tip (nx + 1 + 1 + 1 + 1 + 1 + 1))), (9, .v (.int .i64 (sdN p k : Int))), (11, .any), (12, .any), (55, .v (.int .i64 (k : Int)))]) (fun k G' => aq ((aq (aq (aq (aq (aq G nx (.box 0 [.list [] .nil, .list [] .nil, .list [] .nil])) (nx + 1) (.box ((cj p + 2 * j + 1)) [.list ((bw (cj p) (cw p)).map cells) (.tip (nx + 1 + 1)), .list ((bw (j + 1) (c5 p)).map cells) (.tip (nx + 1 + 1 + 1)), .list (((p.pages.take j).map (dt p)).map cells) (.tip (nx + 1 + 1 + 1 + 1))])) (nx + 1 + 1) (.tip (bw (cj p) (cw p)).length 3 1)) (nx + 1 + 1 + 1) (.tip (bw (j + 1) (c5 p)).length 3 1)) (nx + 1 + 1 + 1 + 1) (.tip ((p.pages.take j).map (dt p)).length 40 1))) (nx + 1 + 1 + 1 + 1 + 1 + 1) (.tip (ox p x k).length 3 1)) 0 rfl ?_ ?_ ?_ ?_ ?_ ?_
  ·exact Nat.zero_le _
  ·exact zF
  ·exact zX
  ·rintro k hI
   exact zL
  ·rintro k hI
   exact zH
  rintro k hK
  dsimp only at hK ⊢
  refine yS fun _ K16 => ?_
  refine yR ?_
  refine aa rfl (cv rfl rfl rfl) ?_
  refine yN ?_
  dsimp only [St.put]
  refine K16 _ ?_
  refine yS fun _ K17 => ?_
  refine aw rfl (fun hc => ?_) (fun hc => ?_)
  ·replace hc := of_decide_eq_true hc
   have hk : k < 2 := by omega
   have hsd : sdN p k ≤ 3 ∧ (du p (decide (k = 1))).length ≤ 3 ∧ -1 ≤ d9 (decide (k = 1)) x ∧ d9 (decide (k = 1)) x ≤ 3 := by
    have : k = 0 ∨ k = 1 := by omega
    rcases this with rfl | rfl
    ·exact ⟨Nat.zero_le _, hn1, by show -1 ≤ x.fst; omega, by show x.fst ≤ 3; omega⟩
    exact ⟨hn1, hn2, by show -1 ≤ x.snd; omega, by show x.snd ≤ 3; omega⟩
   have hst : ox p x (k + 1) = ox p x k ++ bif decide (0 ≤ d9 (decide (k = 1)) x) then [(sdN p k : Int) + d9 (decide (k = 1)) x] else [] := rfl
   have hrl := ua6 p x k
   refine az ?_
   refine K17 _ ?_
   refine yS fun _ K18 => ?_
   refine bg ?_
   refine yS fun _ K19 => ?_
   refine yR ?_
   refine aa rfl (u6 (k := k) (m := 2) (sz := 3) rfl rfl rfl rfl hk (uj hk)) ?_
   try dsimp only [St.put]
   refine af rfl (d8 rfl ?_)
   try dsimp only [St.put]
   refine af rfl (dc rfl rfl rfl zG rfl rfl (by rfl) ?_)
   refine yN ?_
   dsimp only [St.put]
   refine K19 _ ?_
   refine f7 (i := 11) rfl zG zC ?_
   dsimp only
   refine yS fun _ K20 => ?_
   refine yS fun _ K21 => ?_
   refine yR ?_
   refine yF rfl rfl rfl rfl ?_
   refine yL rfl rfl rfl ?_
   refine yE rfl rfl rfl ?_
   try dsimp only [St.put]
   refine af rfl (bd rfl rfl rfl (w7 (decide (k = 1)) x) ?_)
   refine yA rfl rfl ?_
   refine yN ?_
   dsimp only [St.put]
   refine K21 _ ?_
   refine yS fun _ K22 => ?_
   refine yR ?_
   refine yM rfl rfl ?_
   refine aa rfl (mu rfl rfl rfl) ?_
   refine yN ?_
   dsimp only [St.put]
   refine K22 _ ?_
   refine aw rfl (fun hc => ?_) (fun hc => ?_)
   ·have hyes : 0 ≤ d9 (decide (k = 1)) x := of_decide_eq_true hc
    refine yR ?_
    refine yM rfl rfl ?_
    refine yM rfl rfl ?_
    refine yM rfl rfl ?_
    refine aa rfl (bv rfl rfl rfl (by omega)) ?_
    try dsimp only [St.put]
    refine af rfl (cb rfl rfl rfl (by decide) (by decide) zR (by decide) ?_)
    try dsimp only [St.put]
    refine af rfl (cg ([(sdN p k : Int) + d9 (decide (k = 1)) x]) rfl rfl zG zE rfl rfl zA ?_ zA)
    refine yA rfl rfl ?_
    refine yN ?_
    dsimp only [St.put]
    refine K20 _ ?_
    refine gj [(0, none), (1, none), (2, none), (3, none), (4, none), (5, none), (6, none), (7, none), (8, none), (9, none), (10, none)] (fun i => [7].contains i) (fun i => [7].contains i) (fun i => [0, 1, 3, 4, 5, 8, 9, 10].contains i) [] (by kernel_rfl) (by kernel_rfl) ?_
    refine xM rfl rfl rfl rfl rfl ?_
    refine ae rfl rfl rfl rfl (cn rfl rfl rfl) ?_
    try dsimp only [St.put]
    refine bc rfl rfl rfl rfl (cc rfl rfl) ?_
    refine xM rfl rfl rfl rfl rfl ?_
    refine ae rfl rfl rfl rfl (ku rfl rfl) ?_
    refine ae rfl rfl rfl rfl (cn rfl rfl rfl) ?_
    try dsimp only [St.put]
    refine bc rfl rfl rfl rfl (c := val p) (ja (cs := j8 p) rfl rfl (show 4 ≤ 7 by decide)) ?_
    refine ix ?_
    try dsimp only [St.put]
    refine gw rfl rfl rfl rfl (bd rfl rfl rfl (ov (decide (k = 1)) p) ?_)
    refine eb rfl rfl rfl rfl (bk rfl rfl (List.length_map _)) ?_
    refine eb rfl rfl rfl rfl (bv rfl rfl rfl (by omega)) ?_
    refine eb rfl rfl rfl rfl (fj rfl (by constructor)) ?_
    refine iw ?_
    dsimp only [St.put]
    refine K18 _ ?_
    refine yR ?_
    refine aa rfl (bv rfl rfl rfl (by omega)) ?_
    refine yM rfl rfl ?_
    refine yN ?_
    dsimp only [St.put]
    rw [show ((sdN p k : Nat) : Int) + ((du p (decide (k = 1))).length : Int) = ((sdN p (k + 1) : Nat) : Int) by rw [w6 hk]; omega]
    first
    | (have z : 0 ≤ d9 (decide (k = 1)) x := hyes
       rw [decide_eq_true z, cond_true] at hst
       rw [← hst]
       exact ⟨k + 1, by omega, by omega, ⟨⟨rfl, rfl⟩, zF, zB, zN, zX⟩⟩)
    | (have z : ¬ 0 ≤ d9 (decide (k = 1)) x := hno
       rw [decide_eq_false z, cond_false, List.append_nil] at hst
       rw [← hst]
       exact ⟨k + 1, by omega, by omega, ⟨⟨rfl, rfl⟩, zF, zB, zN, zX⟩⟩)
   have hno : ¬ 0 ≤ d9 (decide (k = 1)) x := of_decide_eq_false hc
   refine az ?_
   refine K20 _ ?_
   refine gj [(0, none), (1, none), (2, none), (3, none), (4, none), (5, none), (6, none), (7, none), (8, none), (9, none), (10, none)] (fun i => [7].contains i) (fun i => [7].contains i) (fun i => [0, 1, 3, 4, 5, 8, 9, 10].contains i) [] (by kernel_rfl) (by kernel_rfl) ?_
   refine xM rfl rfl rfl rfl rfl ?_
   refine ae rfl rfl rfl rfl (cn rfl rfl rfl) ?_
   try dsimp only [St.put]
   refine bc rfl rfl rfl rfl (cc rfl rfl) ?_
   refine xM rfl rfl rfl rfl rfl ?_
   refine ae rfl rfl rfl rfl (ku rfl rfl) ?_
   refine ae rfl rfl rfl rfl (cn rfl rfl rfl) ?_
   try dsimp only [St.put]
   refine bc rfl rfl rfl rfl (c := val p) (ja (cs := j8 p) rfl rfl (show 4 ≤ 7 by decide)) ?_
   refine ix ?_
   try dsimp only [St.put]
   refine gw rfl rfl rfl rfl (bd rfl rfl rfl (ov (decide (k = 1)) p) ?_)
   refine eb rfl rfl rfl rfl (bk rfl rfl (List.length_map _)) ?_
   refine eb rfl rfl rfl rfl (bv rfl rfl rfl (by omega)) ?_
   refine eb rfl rfl rfl rfl (fj rfl (by constructor)) ?_
   refine iw ?_
   dsimp only [St.put]
   refine K18 _ ?_
   refine yR ?_
   refine aa rfl (bv rfl rfl rfl (by omega)) ?_
   refine yM rfl rfl ?_
   refine yN ?_
   dsimp only [St.put]
   rw [show ((sdN p k : Nat) : Int) + ((du p (decide (k = 1))).length : Int) = ((sdN p (k + 1) : Nat) : Int) by rw [w6 hk]; omega]
   first
   | (have z : 0 ≤ d9 (decide (k = 1)) x := hyes
      rw [decide_eq_true z, cond_true] at hst
      rw [← hst]
      exact ⟨k + 1, by omega, by omega, ⟨⟨rfl, rfl⟩, zF, zB, zN, zX⟩⟩)
   | (have z : ¬ 0 ≤ d9 (decide (k = 1)) x := hno
      rw [decide_eq_false z, cond_false, List.append_nil] at hst
      rw [← hst]
      exact ⟨k + 1, by omega, by omega, ⟨⟨rfl, rfl⟩, zF, zB, zN, zX⟩⟩)
  replace hc := of_decide_eq_false hc
  obtain rfl : k = 2 := by omega
  rw [uii]
  refine vz 8 (lst (dt p x)) rfl Wk.tok ?_
  refine c4 ?_
  refine K14 _ ?_
  refine yR ?_
  refine aa rfl (bl rfl rfl) ?_
  try dsimp only [St.put]
  refine ci rfl (gd rfl rfl zG trivial (by first | rfl | assumption)) ?_
  refine yM rfl rfl ?_
  try dsimp only [St.put]
  refine af rfl (cb rfl rfl rfl (by decide) (by decide) zR (by decide) ?_)
  try dsimp only [St.put]
  refine af rfl (cg ([dt p x]) rfl rfl zG zE rfl rfl zA ?_ zA)
  refine aa rfl (bl rfl rfl) ?_
  try dsimp only [St.put]
  refine af rfl (ce rfl rfl rfl zG (by constructor) rfl zO ?_)
  refine yN ?_
  dsimp only [St.put]
  refine K9 _ ?_
  refine yR ?_
  refine aa rfl (bv rfl rfl rfl (by omega)) ?_
  refine yM rfl rfl ?_
  refine yN ?_
  dsimp only [St.put]
  have e2 := ukh (dt p) hx
  simp only [← e2]
  exact ⟨j + 1, by omega, by omega, ⟨⟨rfl, rfl⟩, zF, zB, zN, zX⟩⟩
 replace hc := of_decide_eq_false hc
 obtain rfl : j = p.pages.length := by omega
 rw [List.take_length]
 refine ze (nx + 1) (cj p + 2 * p.pages.length) (cells (ge p (cw p) (c5 p))) zG zW ?_
 refine c4 ?_
 refine K5 _ ?_
 refine yS fun _ K23 => ?_
 refine gj [(0, none), (1, none), (2, none), (3, none), (4, none), (5, none), (6, none)] (fun i => [5].contains i) (fun i => [3, 5].contains i) (fun i => [1, 4, 6].contains i) [nx + 1] (by kernel_rfl) (by kernel_rfl) ?_
 try dsimp only [St.put]
 refine bc rfl rfl rfl rfl (i4 rfl rfl zG (by simp) (by rfl)) ?_
 refine ae rfl rfl rfl rfl (bl rfl rfl) ?_
 try dsimp only [St.put]
 refine bc rfl rfl rfl rfl (gd rfl rfl zG (by simp) (by first | rfl | assumption)) ?_
 refine ix ?_
 try dsimp only [St.put]
 refine je rfl rfl rfl (bd rfl rfl rfl (wb (bw (cj p) (cw p)) (fun z => decide (z < 0)) _ _ fun z _ => uh6 z) ⟨zD, ?_⟩)
 refine eb rfl rfl rfl rfl (dq rfl rfl) ?_
 try dsimp only [St.put]
 refine gw rfl rfl rfl rfl (dc rfl rfl rfl zG rfl rfl (by rfl) ?_)
 refine eb rfl rfl rfl rfl (fj rfl (by constructor)) ?_
 refine iw ?_
 dsimp only [St.put]
 refine K23 _ ?_
 refine ax ?_
 refine g6 rfl (j0 rfl zG (by rfl) zC rfl) (ec (by constructor)) zN zS ?_ ?_
 ·exact zW
 rw [ukx]; exact zW
theorem uh7 (m : Nat) (e : Int) (p : ah) : C.low m (bif decide (e = 0) then val (ge p (cw p) (c5 p)) else .agg [.list [] .nil, .list [] .nil, .list [] .nil]) := by
 cases decide (e = 0)
 ·exact .agg (cm fg (cm fg (cm fg dh)))
 exact el _ _
theorem ubl (n : Nat) (p : ah) (c : C) (e : Int) (h : e = 0 → ei p ∧ c = .elem (j8 p)) : fa n e8 Tryz.prog 41 [c, .v (.int .i64 e)] (.tup [bif decide (fb p e = 0) then val (ge p (cw p) (c5 p)) else .agg [.list [] .nil, .list [] .nil, .list [] .nil], .v (.int .i64 (fb p e))]) := fun G nx hF hnx => by
 refine il (G) (nx) Tryz.func41 rfl (.tup (cm (uh7 _ _ _) (cm .v dh))) zN (fun hlt => zH) ?_
 simp only [Tryz.ntmps41, List.length_cons, List.length_nil, Nat.reduceAdd, Nat.reduceSub]
 refine bx fun hlt => ?_
 dsimp only at hlt
 refine yS fun _ K1 => ?_
 refine yR ?_
 try dsimp only [St.put]
 refine af rfl (d8 rfl ?_)
 refine yA rfl rfl ?_
 refine yN ?_
 dsimp only [St.put]
 refine K1 _ ?_
 refine yS fun _ K2 => ?_
 refine yS fun _ K3 => ?_
 refine yR ?_
 refine yM rfl rfl ?_
 refine aa rfl (eu rfl rfl rfl) ?_
 refine yN ?_
 dsimp only [St.put]
 refine K3 _ ?_
 refine aw rfl (fun hc => ?_) (fun hc => ?_)
 ·have h0 : e ≠ 0 := jp hc
  have hE : fb p e = e := ucu h0
  refine yS fun _ K4 => ?_
  refine yR ?_
  refine aa rfl (ie rfl rfl) ?_
  refine yM rfl rfl ?_
  try dsimp only [St.put]
  refine af rfl (dc rfl rfl rfl zG rfl rfl (by rfl) ?_)
  refine yA rfl rfl ?_
  refine yN ?_
  dsimp only [St.put]
  refine K4 _ ?_
  refine ax ?_
  refine g6 rfl (j0 rfl zG (by rfl) zC rfl) (ec (by constructor)) zN zS ?_ ?_
  ·rw [hE, decide_eq_false h0]; exact zW
  rw [hE]; exact zW
 have h0 : e = 0 := ia hc
 obtain ⟨hok, rfl⟩ := h h0
 subst h0
 refine az ?_
 refine K2 _ ?_
 refine yS fun _ K5 => ?_
 refine yR ?_
 refine yM rfl rfl ?_
 try dsimp only [St.put]
 refine af rfl (ed rfl rfl rfl (ui7 n p hok) zG (by dsimp only [St.put]; omega) ?_)
 refine yM rfl rfl ?_
 refine yX rfl rfl rfl rfl ?_
 refine yX rfl rfl rfl rfl ?_
 try dsimp only [St.put]
 refine af rfl (d8 rfl ?_)
 try dsimp only [St.put]
 refine af rfl (dc rfl rfl rfl zG rfl rfl (by rfl) ?_)
 refine yA rfl rfl ?_
 refine yN ?_
 dsimp only [St.put]
 refine K5 _ ?_
 refine yS fun _ K6 => ?_
 refine yS fun _ K7 => ?_
 refine yR ?_
 refine yM rfl rfl ?_
 refine aa rfl (dq rfl rfl) ?_
 refine yN ?_
 dsimp only [St.put]
 refine K7 _ ?_
 refine aw rfl (fun hc => ?_) (fun hc => ?_)
 ·have hTB : g8 p = false := by simpa using hc
  have hE : fb p 0 = 8 := by rw [qv, hTB]; rfl
  refine yS fun _ K8 => ?_
  refine yR ?_
  refine aa rfl (ie rfl rfl) ?_
  try dsimp only [St.put]
  refine af rfl (dc rfl rfl rfl zG rfl rfl (by rfl) ?_)
  refine yA rfl rfl ?_
  refine yN ?_
  dsimp only [St.put]
  refine K8 _ ?_
  refine ax ?_
  refine g6 rfl (j0 rfl zG (by rfl) zC rfl) (ec (by constructor)) zN zS ?_ ?_
  ·rw [hE]; exact zW
  rw [hE]; exact zW
 have hTB : g8 p = true := by simpa using hc
 have hE : fb p 0 = 0 := by rw [qv, hTB]; rfl
 refine az ?_
 refine K6 _ ?_
 refine yS fun _ K9 => ?_
 refine yR ?_
 try dsimp only [St.put]
 refine ci rfl (i4 rfl rfl zG trivial (by rfl)) ?_
 try dsimp only [St.put]
 refine af rfl (dc rfl rfl rfl zG rfl rfl (by rfl) ?_)
 refine yA rfl rfl ?_
 refine yN ?_
 dsimp only [St.put]
 refine K9 _ ?_
 refine ax ?_
 refine g6 rfl (j0 rfl zG (by rfl) zC rfl) (ec (by constructor)) zN zS ?_ ?_
 ·rw [hE]; exact zW
 rw [hE]; exact zW
end Go.Proofs.YtbbdginipiljdaaGreatDoor
namespace Go.AB
open Go Go.RowKit
open Go.AB.Enc (cells)
open Go.PB (ba ai PlaceD bh bj bi bu am ah cy bq dd dj)
/-- what may remain ahead of a page, by the worst truth -/
noncomputable def rmR (p : ah) (i : Nat) : Nat → Int := ((bp p).room (cw p) (c5 p) i).1
noncomputable def rmC (p : ah) (i : Nat) : Nat → Int := ((bp p).room (cw p) (c5 p) i).2
theorem uh4 (p : ah) (i : Nat) : rmR p (i + 1) = (bp p).lessR (rmR p i) i (fq p i) := rfl
theorem uh5 (p : ah) (i : Nat) : rmC p (i + 1) = er (rmC p i) i := rfl
theorem zq {p : ah} (h : ei p) (ht : g8 p = true) {i : Nat} (hi : i < p.pages.length) : (bp p).Pick (rmR p i) (rmC p i) i ((bp p).pick (rmR p i) (rmC p i) i) :=
 Net.worst_pick (mr h) (ne ht) (fun j _ => p7 h j) hi
theorem zt (p : ah) (i : Nat) : fq p i = (bp p).pick (rmR p i) (rmC p i) i := rfl
theorem ua2 {p : ah} (h : ei p) (ht : g8 p = true) : ∀ {i : Nat}, i ≤ p.pages.length → Bd p (rmR p i) (rmC p i)
 | 0, _ => tm h
 | i + 1, hi => by
  have hp := zq h ht (i := i) (by omega)
  rw [uh4, uh5, zt]
  exact zd (ua2 h ht (by omega)) hp.nn hp.le
theorem unh {p : ah} {R C : Nat → Int} (hB : Bd p R C) (j : Nat) : (bp p).alone R C j ≤ 1000000 := Int.le_trans (Net.le_alone.1 (Int.le_refl _)).1 (hB.c j).2
end Go.AB
namespace Go.Proofs.YtbbdginipiljdaaGreatDoor
set_option maxRecDepth 10000
open Go.RowKit Go.AB
open Go.AB.Enc (cells)
open Go.PB (ba ai PlaceD bh bj bi bu am ah cy bq dd dj)
end Go.Proofs.YtbbdginipiljdaaGreatDoor
namespace Go.AB
open Go Go.RowKit
open Go.AB.Enc (cells)
open Go.PB (ba ai PlaceD bh bj bi bu am ah cy bq dd dj)
theorem qw {p : ah} {e : Int} (h : fb p e = 0) : e = 0 ∧ g8 p = true := by
 by_cases h0 : e = 0
 ·subst h0
  rw [qv] at h
  cases ht : g8 p
  ·rw [ht] at h; cases h
  exact ⟨rfl, rfl⟩
 rw [ucu h0] at h; exact absurd h h0
end Go.AB
namespace Go.Proofs.YtbbdginipiljdaaGreatDoor
set_option maxRecDepth 10000
open Go Go.RowKit Go.AB
open Go.AB.Enc (cells)
open Go.PB (ba ai PlaceD bh bj bi bu am ah cy bq dd dj)
theorem uez {p : ah} {n : Int} (h : em p n = 0) : ei p ∧ pgC p n = .elem (j8 p) := ⟨(lm (qb h).1).1, r7 h⟩
theorem pg {p : ah} (h : cx p = 0) : ei p ∧ jo p = .elem (j8 p) := ⟨(lm h).1, ux h⟩
theorem r9 (n : Nat) (p : ah) (c : C) (e : Int) (h : e = 0 → ei p ∧ c = .elem (j8 p)) (hE : fb p e = 0) : fa n e8 Tryz.prog 41 [c, .v (.int .i64 e)] (.tup [val (ge p (cw p) (c5 p)), .v (.int .i64 0)]) := by
 have := ubl n p c e h
 rwa [hE, decide_eq_true rfl, cond_true] at this
theorem sb (n : Nat) (p : ah) (c : C) (e : Int) (h : e = 0 → ei p ∧ c = .elem (j8 p)) (hE : fb p e ≠ 0) : fa n e8 Tryz.prog 41 [c, .v (.int .i64 e)] (.tup [.agg [.list [] .nil, .list [] .nil, .list [] .nil], .v (.int .i64 (fb p e))]) := by
 have := ubl n p c e h
 rwa [decide_eq_false hE, cond_false] at this
theorem ubm (n : Nat) (p : ah) (m : Int) : fa n e8 Tryz.prog 11 [val p, .v (.int .i64 m)] (.tup [val (nl p m), .v (.int .i64 (fb p (em p m)))]) := fun G nx hF hnx => by
 refine il (G) (nx) Tryz.func11 rfl (.tup (cm (el _ _) (cm .v dh))) zN (fun hlt => zH) ?_
 simp only [Tryz.ntmps11, List.length_cons, List.length_nil, Nat.reduceAdd, Nat.reduceSub]
 refine bx fun hlt => ?_
 dsimp only at hlt
 refine yS fun _ K1 => ?_
 refine yR ?_
 try dsimp only [St.put]
 refine yB rfl rfl rfl ?_
 try dsimp only [St.put]
 refine af rfl (d8 rfl ?_)
 refine yA rfl rfl ?_
 refine yN ?_
 dsimp only [St.put]
 refine K1 _ ?_
 refine yS fun _ K2 => ?_
 by_cases hL : fb p (em p m) = 0
 ·refine yR ?_
  refine yE rfl rfl rfl ?_
  refine yM rfl rfl ?_
  try dsimp only [St.put]
  refine af rfl (ed rfl rfl rfl (qn n p m) zG (by dsimp only [St.put]; omega) ?_)
  refine yX rfl rfl rfl rfl ?_
  refine yX rfl rfl rfl rfl ?_
  try dsimp only [St.put]
  refine af rfl (ed rfl rfl rfl (r9 n p (pgC p m) (em p m) uez hL) zG (by dsimp only [St.put]; omega) ?_)
  refine yM rfl rfl ?_
  refine yX rfl rfl rfl rfl ?_
  refine yX rfl rfl rfl rfl ?_
  try dsimp only [St.put]
  refine af rfl (d8 rfl ?_)
  try dsimp only [St.put]
  refine af rfl (dc rfl rfl rfl zG rfl rfl (by rfl) ?_)
  refine yA rfl rfl ?_
  refine yN ?_
  dsimp only [St.put]
  refine K2 _ ?_
  refine yS fun _ K3 => ?_
  refine yS fun _ K4 => ?_
  refine yR ?_
  refine yM rfl rfl ?_
  refine aa rfl (eu rfl rfl rfl) ?_
  refine yN ?_
  dsimp only [St.put]
  refine K4 _ ?_
  refine aw rfl (fun hc => ?_) (fun hc => ?_)
  ·exact absurd hc (by decide)
  obtain ⟨h0, hTB⟩ := qw hL
  obtain ⟨hc0, j, x, rfl, hx, hpo⟩ := qb h0
  obtain ⟨hok, _⟩ := lm hc0
  have hV : nl p (j : Int) = ⟨0, (bp p).alone (cw p) (c5 p) j⟩ := by unfold nl; rw [hL, pj, Int.toNat_natCast]
  refine az ?_
  refine K3 _ ?_
  refine yS fun _ K5 => ?_
  refine yR ?_
  try dsimp only [St.put]
  refine ci rfl (i4 rfl rfl zG trivial (by rfl)) ?_
  refine yM rfl rfl ?_
  try dsimp only [St.put]
  refine af rfl (bd rfl rfl rfl (ubo p (cw p) (c5 p) j x hok hx) ?_)
  refine aa rfl (ie rfl rfl) ?_
  try dsimp only [St.put]
  refine af rfl (dc rfl rfl rfl zG rfl rfl (by rfl) ?_)
  refine yA rfl rfl ?_
  refine yN ?_
  dsimp only [St.put]
  refine K5 _ ?_
  refine ax ?_
  refine g6 rfl (j0 rfl zG (by rfl) zC rfl) (ec (by constructor)) zN zS ?_ ?_
  ·rw [hV]; exact zW
  rw [hL]; exact zW
 refine yR ?_
 refine yE rfl rfl rfl ?_
 refine yM rfl rfl ?_
 try dsimp only [St.put]
 refine af rfl (ed rfl rfl rfl (qn n p m) zG (by dsimp only [St.put]; omega) ?_)
 refine yX rfl rfl rfl rfl ?_
 refine yX rfl rfl rfl rfl ?_
 try dsimp only [St.put]
 refine af rfl (ed rfl rfl rfl (sb n p (pgC p m) (em p m) uez hL) zG (by dsimp only [St.put]; omega) ?_)
 refine yM rfl rfl ?_
 refine yX rfl rfl rfl rfl ?_
 refine yX rfl rfl rfl rfl ?_
 try dsimp only [St.put]
 refine af rfl (d8 rfl ?_)
 try dsimp only [St.put]
 refine af rfl (dc rfl rfl rfl zG rfl rfl (by rfl) ?_)
 refine yA rfl rfl ?_
 refine yN ?_
 dsimp only [St.put]
 refine K2 _ ?_
 refine yS fun _ K6 => ?_
 refine yS fun _ K7 => ?_
 refine yR ?_
 refine yM rfl rfl ?_
 refine aa rfl (eu rfl rfl rfl) ?_
 refine yN ?_
 dsimp only [St.put]
 refine K7 _ ?_
 refine aw rfl (fun hc => ?_) (fun hc => ?_)
 ·have hV : nl p m = ⟨0, 0⟩ := by unfold nl; rw [ld hL]
  refine yS fun _ K8 => ?_
  refine yR ?_
  refine aa rfl (ie rfl rfl) ?_
  refine yM rfl rfl ?_
  try dsimp only [St.put]
  refine af rfl (dc rfl rfl rfl zG rfl rfl (by rfl) ?_)
  refine yA rfl rfl ?_
  refine yN ?_
  dsimp only [St.put]
  refine K8 _ ?_
  refine ax ?_
  refine g6 rfl (j0 rfl zG (by rfl) zC rfl) (ec (by constructor)) zN zS ?_ ?_
  ·rw [hV]; exact zW
  exact zW
 exact absurd (ia hc) hL
theorem xj (n : Nat) (p : ah) : fa n e8 Tryz.prog 13 [val p] (.tup [val (oo p), .v (.int .i64 (fb p (cx p)))]) := fun G nx hF hnx => by
 refine il (G) (nx) Tryz.func13 rfl (.tup (cm (el _ _) (cm .v dh))) zN (fun hlt => zH) ?_
 simp only [Tryz.ntmps13, List.length_cons, List.length_nil, Nat.reduceAdd, Nat.reduceSub]
 refine bx fun hlt => ?_
 dsimp only at hlt
 refine yS fun _ K1 => ?_
 refine yR ?_
 try dsimp only [St.put]
 refine yB rfl rfl rfl ?_
 try dsimp only [St.put]
 refine af rfl (d8 rfl ?_)
 refine yA rfl rfl ?_
 refine yN ?_
 dsimp only [St.put]
 refine K1 _ ?_
 refine yS fun _ K2 => ?_
 by_cases hL : fb p (cx p) = 0
 ·refine yR ?_
  refine yE rfl rfl rfl ?_
  try dsimp only [St.put]
  refine af rfl (ed rfl rfl rfl (nm n p) zG (by dsimp only [St.put]; omega) ?_)
  refine yX rfl rfl rfl rfl ?_
  refine yX rfl rfl rfl rfl ?_
  try dsimp only [St.put]
  refine af rfl (ed rfl rfl rfl (r9 n p (jo p) (cx p) pg hL) zG (by dsimp only [St.put]; omega) ?_)
  refine yM rfl rfl ?_
  refine yX rfl rfl rfl rfl ?_
  refine yX rfl rfl rfl rfl ?_
  try dsimp only [St.put]
  refine af rfl (d8 rfl ?_)
  try dsimp only [St.put]
  refine af rfl (dc rfl rfl rfl zG rfl rfl (by rfl) ?_)
  refine yA rfl rfl ?_
  refine yN ?_
  dsimp only [St.put]
  refine K2 _ ?_
  refine yS fun _ K3 => ?_
  refine yS fun _ K4 => ?_
  refine yR ?_
  refine yM rfl rfl ?_
  refine aa rfl (eu rfl rfl rfl) ?_
  refine yN ?_
  dsimp only [St.put]
  refine K4 _ ?_
  refine aw rfl (fun hc => ?_) (fun hc => ?_)
  ·exact absurd hc (by decide)
  obtain ⟨h0, hTB⟩ := qw hL
  obtain ⟨hok, _⟩ := lm h0
  have hV : oo p = ⟨0, (bp p).most (cw p) (c5 p)⟩ := by unfold oo; rw [hL, pj]; rfl
  refine az ?_
  refine K3 _ ?_
  refine yS fun _ K5 => ?_
  refine yR ?_
  try dsimp only [St.put]
  refine ci rfl (i4 rfl rfl zG trivial (by rfl)) ?_
  try dsimp only [St.put]
  refine af rfl (bd rfl rfl rfl (sd p (cw p) (c5 p) hok (tm hok)) ?_)
  refine aa rfl (ie rfl rfl) ?_
  try dsimp only [St.put]
  refine af rfl (dc rfl rfl rfl zG rfl rfl (by rfl) ?_)
  refine yA rfl rfl ?_
  refine yN ?_
  dsimp only [St.put]
  refine K5 _ ?_
  refine ax ?_
  refine g6 rfl (j0 rfl zG (by rfl) zC rfl) (ec (by constructor)) zN zS ?_ ?_
  ·rw [hV]; exact zW
  rw [hL]; exact zW
 refine yR ?_
 refine yE rfl rfl rfl ?_
 try dsimp only [St.put]
 refine af rfl (ed rfl rfl rfl (nm n p) zG (by dsimp only [St.put]; omega) ?_)
 refine yX rfl rfl rfl rfl ?_
 refine yX rfl rfl rfl rfl ?_
 try dsimp only [St.put]
 refine af rfl (ed rfl rfl rfl (sb n p (jo p) (cx p) pg hL) zG (by dsimp only [St.put]; omega) ?_)
 refine yM rfl rfl ?_
 refine yX rfl rfl rfl rfl ?_
 refine yX rfl rfl rfl rfl ?_
 try dsimp only [St.put]
 refine af rfl (d8 rfl ?_)
 try dsimp only [St.put]
 refine af rfl (dc rfl rfl rfl zG rfl rfl (by rfl) ?_)
 refine yA rfl rfl ?_
 refine yN ?_
 dsimp only [St.put]
 refine K2 _ ?_
 refine yS fun _ K6 => ?_
 refine yS fun _ K7 => ?_
 refine yR ?_
 refine yM rfl rfl ?_
 refine aa rfl (eu rfl rfl rfl) ?_
 refine yN ?_
 dsimp only [St.put]
 refine K7 _ ?_
 refine aw rfl (fun hc => ?_) (fun hc => ?_)
 ·have hV : oo p = ⟨0, 0⟩ := by unfold oo; rw [ld hL]
  refine yS fun _ K8 => ?_
  refine yR ?_
  refine aa rfl (ie rfl rfl) ?_
  refine yM rfl rfl ?_
  try dsimp only [St.put]
  refine af rfl (dc rfl rfl rfl zG rfl rfl (by rfl) ?_)
  refine yA rfl rfl ?_
  refine yN ?_
  dsimp only [St.put]
  refine K8 _ ?_
  refine ax ?_
  refine g6 rfl (j0 rfl zG (by rfl) zC rfl) (ec (by constructor)) zN zS ?_ ?_
  ·rw [hV]; exact zW
  exact zW
 exact absurd (ia hc) hL
set_option maxHeartbeats 1000000 in
theorem xh (n0 : Nat) (p : ah) : fa n0 e8 Tryz.prog 15 [val p] (.tup [lst (na p), .v (.int .i64 (fb p (cx p)))]) := fun G nx hF hnx => by
 refine il (G) (nx) Tryz.func15 rfl (.tup (cm (ca _ _) (cm .v dh))) zN (fun hlt => zH) ?_
 simp only [Tryz.ntmps15, List.length_cons, List.length_nil, Nat.reduceAdd, Nat.reduceSub]
 refine bx fun hlt => ?_
 dsimp only at hlt
 refine yS fun _ K1 => ?_
 refine yR ?_
 try dsimp only [St.put]
 refine yB rfl rfl rfl ?_
 refine yA rfl rfl ?_
 refine yA rfl rfl ?_
 refine yN ?_
 dsimp only [St.put]
 refine K1 _ ?_
 refine yS fun _ K2 => ?_
 by_cases hL : fb p (cx p) = 0
 ·refine yR ?_
  refine yE rfl rfl rfl ?_
  try dsimp only [St.put]
  refine af rfl (ed rfl rfl rfl (nm n0 p) zG (by dsimp only [St.put]; omega) ?_)
  refine yX rfl rfl rfl rfl ?_
  refine yX rfl rfl rfl rfl ?_
  try dsimp only [St.put]
  refine af rfl (ed rfl rfl rfl (r9 n0 p (jo p) (cx p) pg hL) zG (by dsimp only [St.put]; omega) ?_)
  refine yM rfl rfl ?_
  refine yX rfl rfl rfl rfl ?_
  refine yX rfl rfl rfl rfl ?_
  try dsimp only [St.put]
  refine af rfl (d8 rfl ?_)
  try dsimp only [St.put]
  refine af rfl (dc rfl rfl rfl zG rfl rfl (by rfl) ?_)
  refine yA rfl rfl ?_
  refine yN ?_
  dsimp only [St.put]
  refine K2 _ ?_
  refine yS fun _ K3 => ?_
  refine yS fun _ K4 => ?_
  refine yR ?_
  refine yM rfl rfl ?_
  refine aa rfl (eu rfl rfl rfl) ?_
  refine yN ?_
  dsimp only [St.put]
  refine K4 _ ?_
  refine aw rfl (fun hc => ?_) (fun hc => ?_)
  ·exact absurd hc (by decide)
  obtain ⟨h0, hTB⟩ := qw hL
  obtain ⟨hok, _⟩ := lm h0
  have hnp := hok.np
  have hV : na p = bw p.pages.length (fq p) := by unfold na; rw [hL, pj]
  refine az ?_
  refine K3 _ ?_
  refine yS fun _ K5 => ?_
  refine yR ?_
  refine yA rfl rfl ?_
  refine yN ?_
  dsimp only [St.put]
  refine K5 _ ?_
  refine m8 6 3 1 rfl (by decide) ?_
  dsimp only [List.set_cons_zero, List.set_cons_succ]
  refine yS fun _ K6 => ?_
  refine yS fun _ K7 => ?_
  refine yR ?_
  refine yF rfl rfl rfl rfl ?_
  refine yL rfl rfl rfl ?_
  refine aa rfl (bk rfl rfl (List.length_map _)) ?_
  refine yM rfl rfl ?_
  refine yN ?_
  dsimp only [St.put]
  refine K7 _ ?_
  refine bg ?_
  refine cr 25 ?_
  refine zQ ?_
  refine c6 ((aq (aq G nx (.box (0 + 1) (cells (ge p (rmR p 0) (rmC p 0))))) (nx + 1) (.tip (bw 0 (fq p)).length 3 1))) zX ?_
  dsimp only
  refine c9 (X := Nat) (fun i => i ≤ p.pages.length) (fun i => p.pages.length - i) (fun i => [(6, .list ((bw i (fq p)).map cells) (.tip (nx + 1))), (7, .any), (8, .any), (9, .any), (24, .v (.int .i64 (i : Int)))]) (fun i G' => (aq (aq G nx (.box (i + 1) (cells (ge p (rmR p i) (rmC p i))))) (nx + 1) (.tip (bw i (fq p)).length 3 1))) 0 rfl ?_ ?_ ?_ ?_ ?_ ?_
  ·exact Nat.zero_le _
  ·exact zF
  ·exact zX
  ·rintro i hI
   exact zL
  ·rintro i hI
   exact zH
  rintro i hI
  dsimp only at hI ⊢
  refine yS fun _ K8 => ?_
  refine yR ?_
  refine aa rfl (cv rfl rfl rfl) ?_
  refine yN ?_
  dsimp only [St.put]
  refine K8 _ ?_
  refine yS fun _ K9 => ?_
  refine aw rfl (fun hc => ?_) (fun hc => ?_)
  ·replace hc := of_decide_eq_true hc
   have hi : i < p.pages.length := by omega
   obtain ⟨x, hx⟩ : ∃ x, p.pages[i]? = some x := da hi
   have hB := ua2 hok hTB (Nat.le_of_lt hi)
   have hP := zq hok hTB hi
   have hab := unh hB i
   have hmb := ucd hB
   have hln := gm i (fq p)
   have hPn := hP.nn
   refine az ?_
   refine K9 _ ?_
   refine yS fun _ K10 => ?_
   refine bg ?_
   refine yS fun _ K11 => ?_
   refine yR ?_
   refine yM rfl rfl ?_
   refine yA rfl rfl ?_
   refine yN ?_
   dsimp only [St.put]
   refine K11 _ ?_
   refine yS fun _ K12 => ?_
   refine gj [(0, none), (2, none), (3, none), (1, none), (4, none), (5, none), (6, none)] (fun i => [4].contains i) (fun i => [1, 4].contains i) (fun i => [3, 5, 6].contains i) [nx] (by kernel_rfl) (by kernel_rfl) ?_
   try dsimp only [St.put]
   refine bc rfl rfl rfl rfl (i4 rfl rfl zG (by simp) (by rfl)) ?_
   try dsimp only [St.put]
   refine bc rfl rfl rfl rfl (i4 rfl rfl zG (by simp) (by rfl)) ?_
   refine xM rfl rfl rfl rfl rfl ?_
   refine ix ?_
   try dsimp only [St.put]
   refine je rfl rfl rfl (bd rfl rfl rfl (sd p _ _ hok hB) ⟨zD, ?_⟩)
   try dsimp only [St.put]
   refine gw rfl rfl rfl rfl (bd rfl rfl rfl (ubo p (rmR p i) (rmC p i) i x hok hx) ?_)
   refine eb rfl rfl rfl rfl (fj rfl (by constructor)) ?_
   refine eb rfl rfl rfl rfl (fj rfl (by constructor)) ?_
   refine iw ?_
   dsimp only [St.put]
   refine K12 _ ?_
   refine yS fun _ K13 => ?_
   refine bg ?_
   refine cr 25 ?_
   refine zQ ?_
   refine c9 (X := Int) (fun n => FromTop p (rmR p i) (rmC p i) i n) (fun n => n.toNat) (fun n => [(9, .v (.int .i64 n))]) (fun n G' => G') ((bp p).alone (rmR p i) (rmC p i) i) rfl ?_ ?_ (fun _ _ h => h) ?_ ?_ ?_
   ·exact FromTop.start hP
   ·exact zF
   ·rintro n hI
    exact zL
   ·exact fun _ _ _ _ h => .inl h
   rintro n hF2
   dsimp only at hF2 ⊢
   have hF1 := hF2.1
   have hF3 := hF2.2.1
   have hBl := zd hB (by omega) hF2.2.1
   have hmb2 := ucd hBl
   refine yS fun _ K14 => ?_
   refine yS fun _ K15 => ?_
   refine yR ?_
   refine yM rfl rfl ?_
   try dsimp only [St.put]
   refine ci rfl (i4 rfl rfl zG trivial (by rfl)) ?_
   refine yM rfl rfl ?_
   refine yM rfl rfl ?_
   try dsimp only [St.put]
   refine af rfl (bd rfl rfl rfl (xi p (rmR p i) (rmC p i) i x n hok hx (by have := hF2.1; have := hF2.2.1; omega) hB.r) ?_)
   try dsimp only [St.put]
   refine af rfl (bd rfl rfl rfl (sd p _ _ hok (zd hB (by have := hF2.1; omega) hF2.2.1)) ?_)
   refine aa rfl (bv rfl rfl rfl (by omega)) ?_
   refine yM rfl rfl ?_
   refine aa rfl (cv rfl rfl rfl) ?_
   refine yN ?_
   dsimp only [St.put]
   refine K15 _ ?_
   refine aw rfl (fun hc => ?_) (fun hc => ?_)
   ·replace hc := of_decide_eq_true hc
    have hnot : ¬ (bp p).most (rmR p i) (rmC p i) ≤ n + (bp p).most ((bp p).lessR (rmR p i) i n) (er (rmC p i) i) := by omega
    refine az ?_
    refine K14 _ ?_
    refine bg ?_
    refine yR ?_
    refine yM rfl rfl ?_
    refine aa rfl (gy rfl rfl rfl (by omega)) ?_
    refine yA rfl rfl ?_
    refine yN ?_
    dsimp only [St.put]
    have hd := FromTop.down hP hF2 hnot
    have hd1 := hd.1
    exact ⟨n - 1, by omega, hd, ⟨⟨rfl, rfl⟩, zF, zB, zN, zX⟩⟩
   replace hc := of_decide_eq_false hc
   have hnw := FromTop.stop hP hF2 (by omega)
   rw [← zt] at hnw
   subst hnw
   refine c4 ?_
   refine K13 _ ?_
   refine yS fun _ K16 => ?_
   refine yR ?_
   try dsimp only [St.put]
   refine ci rfl (i4 rfl rfl zG trivial (by rfl)) ?_
   refine yM rfl rfl ?_
   refine yM rfl rfl ?_
   try dsimp only [St.put]
   refine af rfl (bd rfl rfl rfl (xi p (rmR p i) (rmC p i) i x (fq p i) hok hx (by have := hF2.1; have := hF2.2.1; omega) hB.r) ?_)
   try dsimp only [St.put]
   refine af rfl (dc rfl rfl rfl zG rfl rfl (by rfl) ?_)
   refine yN ?_
   dsimp only [St.put]
   refine K16 _ ?_
   refine yR ?_
   refine yM rfl rfl ?_
   refine yM rfl rfl ?_
   try dsimp only [St.put]
   refine af rfl (cb rfl rfl rfl (by decide) (by decide) zR (by decide) ?_)
   try dsimp only [St.put]
   refine af rfl (cg ([fq p i]) rfl rfl zG zE rfl rfl zA ?_ zA)
   refine yA rfl rfl ?_
   refine yN ?_
   dsimp only [St.put]
   refine K10 _ ?_
   refine yR ?_
   refine aa rfl (bv rfl rfl rfl (by omega)) ?_
   refine yM rfl rfl ?_
   refine yN ?_
   dsimp only [St.put]
   have e := rt i (fq p)
   rw [← e]
   exact ⟨i + 1, by omega, by omega, ⟨⟨rfl, rfl⟩, zF, zB, zN, zX⟩⟩
  replace hc := of_decide_eq_false hc
  obtain rfl : i = p.pages.length := by omega
  refine c4 ?_
  refine K6 _ ?_
  refine yS fun _ K17 => ?_
  refine yR ?_
  refine yM rfl rfl ?_
  refine yA rfl rfl ?_
  refine yA rfl rfl ?_
  refine yN ?_
  dsimp only [St.put]
  refine K17 _ ?_
  refine ax ?_
  refine g6 rfl (ec (by constructor)) (ec (by constructor)) zN zS ?_ ?_
  ·rw [hV]; exact zW
  rw [hL]; exact zW
 refine yR ?_
 refine yE rfl rfl rfl ?_
 try dsimp only [St.put]
 refine af rfl (ed rfl rfl rfl (nm n0 p) zG (by dsimp only [St.put]; omega) ?_)
 refine yX rfl rfl rfl rfl ?_
 refine yX rfl rfl rfl rfl ?_
 try dsimp only [St.put]
 refine af rfl (ed rfl rfl rfl (sb n0 p (jo p) (cx p) pg hL) zG (by dsimp only [St.put]; omega) ?_)
 refine yM rfl rfl ?_
 refine yX rfl rfl rfl rfl ?_
 refine yX rfl rfl rfl rfl ?_
 try dsimp only [St.put]
 refine af rfl (d8 rfl ?_)
 try dsimp only [St.put]
 refine af rfl (dc rfl rfl rfl zG rfl rfl (by rfl) ?_)
 refine yA rfl rfl ?_
 refine yN ?_
 dsimp only [St.put]
 refine K2 _ ?_
 refine yS fun _ K18 => ?_
 refine yS fun _ K19 => ?_
 refine yR ?_
 refine yM rfl rfl ?_
 refine aa rfl (eu rfl rfl rfl) ?_
 refine yN ?_
 dsimp only [St.put]
 refine K19 _ ?_
 refine aw rfl (fun hc => ?_) (fun hc => ?_)
 ·have hV : na p = [] := by unfold na; rw [ld hL]
  refine yS fun _ K20 => ?_
  refine yR ?_
  refine yM rfl rfl ?_
  refine yA rfl rfl ?_
  refine yA rfl rfl ?_
  refine yN ?_
  dsimp only [St.put]
  refine K20 _ ?_
  refine ax ?_
  refine g6 rfl (ec (by constructor)) (ec (by constructor)) zN zS ?_ ?_
  ·rw [hV]; exact zW
  exact zW
 exact absurd (ia hc) hL
end Go.Proofs.YtbbdginipiljdaaGreatDoor
namespace Go.Proofs.YtbbdginipiljdaaGreatDoor
set_option maxRecDepth 10000
open Go Go.RowKit Go.AB
open Go.AB.Enc (cells)
open Go.PB (ba ai PlaceD bh bj bi bu am ah cy bq dd dj)
set_option maxHeartbeats 1000000 in
theorem uhn (nF : Nat) (n : Nat) (hb : n ≤ 8) : wa nF e8 Tryz.prog 89 [.elem [.v (.int .i64 (n : Int))]] (2 ^ n) (fun s => [.v (.int .i64 (s : Int)), lst (e9 n s)]) := by
 refine uc1 Tryz.func89 rfl rfl fun I hN hcl ok hG hn => ?_
 simp only [Tryz.ntmps89, List.length_cons, List.length_nil, Nat.reduceAdd, Nat.reduceSub]
 have h256 : 2 ^ n ≤ 2 ^ 8 := Nat.pow_le_pow_right (by omega) hb
 refine ke 2 ?_
 refine zQ ?_
 refine pa ?_
 dsimp only [FC.st]
 refine bx fun hlt => ?_
 dsimp only at hlt
 refine i0 ?_
 try dsimp only [St.put]
 first | refine ci rfl (cc rfl rfl) ?_ | refine ci rfl (eg rfl rfl (Enc.len _)) ?_ | refine ci rfl (eg rfl rfl rfl) ?_ | refine ci rfl (gd rfl rfl zG trivial (by first | rfl | assumption)) ?_ | refine ci rfl (i4 rfl rfl zG trivial (by rfl)) ?_ | refine ci rfl (pp rfl rfl zG trivial (by simp)) ?_ | refine ci rfl (jv rfl rfl zG trivial (p6 (by assumption) rfl)) ?_ | refine ci rfl (jv rfl rfl zG trivial (by assumption)) ?_ | refine ci rfl (qk rfl rfl zG trivial rfl (by assumption) rfl (by decide)) ?_ | refine ci rfl (ml rfl rfl zG (by rfl)) ?_
 refine aa rfl (ub7 (n := n) rfl rfl rfl (by omega)) ?_
 refine aa rfl (gp rfl (by constructor)) ?_
 refine i1 ?_
 dsimp only [St.put]
 show jz _ _ _ _ _ _ _
 refine pc ok rfl ⟨rfl, rfl, zK, zN, zS, zK⟩ ?_
 refine qz ?_
 refine ke 9 ?_
 refine zQ ?_
 refine yk (X := Nat) (fun s => s ≤ 2 ^ n) (fun s => 2 ^ n - s) (fun s => [(3, .any), (4, .any), (5, .any), (8, .v (.int .i64 (s : Int)))]) (fun s => s) 0 rfl ?_ ?_ ?_ ?_ ?_
 ·exact Nat.zero_le _
 ·exact zF
 ·rfl
 ·rintro s hI
  exact zL
 ·rintro s hI
  dsimp only at hI ⊢
  refine ke 9 ?_
  refine zQ ?_
  refine pa ?_
  dsimp only [FC.st]
  refine bx fun hlt => ?_
  dsimp only at hlt
  refine i0 ?_
  refine aa rfl (cv rfl rfl rfl) ?_
  refine i1 ?_
  dsimp only [St.put]
  show jz _ _ _ _ _ _ _
  refine pc ok rfl ⟨rfl, rfl, zK, zN, zS, zK⟩ ?_
  refine o9 fun K1 hK1 => ?_
  refine te rfl (fun hc => ?_) (fun hc => ?_)
  ·replace hc := of_decide_eq_true hc
   have hs : s < 2 ^ n := by omega
   refine td ?_
   refine hK1 _ _ ?_
   refine o9 fun K2 hK2 => ?_
   refine qz ?_
   refine ke 9 ?_
   refine zQ ?_
   refine pa ?_
   dsimp only [FC.st]
   refine bx fun hlt => ?_
   dsimp only at hlt
   refine i0 ?_
   refine aa rfl (gp rfl (by constructor)) ?_
   refine aa rfl (fj rfl (by constructor)) ?_
   refine i1 ?_
   dsimp only [St.put]
   show jz _ _ _ _ _ _ _
   refine vo ?_
   refine i0 ?_
   refine aa rfl (fj rfl (by constructor)) ?_
   refine i1 ?_
   dsimp only [St.put]
   show jz _ _ _ _ _ _ _
   refine vo ?_
   refine m8 4 3 1 rfl (by decide) ?_
   dsimp only [List.set_cons_zero, List.set_cons_succ]
   refine p9 fun K3 hK3 => ?_
   refine i0 ?_
   try dsimp only [St.put]
   first | refine ci rfl (cc rfl rfl) ?_ | refine ci rfl (eg rfl rfl (Enc.len _)) ?_ | refine ci rfl (eg rfl rfl rfl) ?_ | refine ci rfl (gd rfl rfl zG trivial (by first | rfl | assumption)) ?_ | refine ci rfl (i4 rfl rfl zG trivial (by rfl)) ?_ | refine ci rfl (pp rfl rfl zG trivial (by simp)) ?_ | refine ci rfl (jv rfl rfl zG trivial (p6 (by assumption) rfl)) ?_ | refine ci rfl (jv rfl rfl zG trivial (by assumption)) ?_ | refine ci rfl (qk rfl rfl zG trivial rfl (by assumption) rfl (by decide)) ?_ | refine ci rfl (ml rfl rfl zG (by rfl)) ?_
   refine aa rfl (gp rfl (by constructor)) ?_
   refine i1 ?_
   dsimp only [St.put]
   refine hK3 _ ?_
   refine bg ?_
   refine cr 13 ?_
   refine zQ ?_
   refine c6 ((aq (I.G s) I.nx (.tip (e9 0 s).length 3 1))) zX ?_
   dsimp only
   refine c9 (X := Nat) (fun k => k ≤ n) (fun k => n - k) (fun k => [(4, .list ((e9 k s).map cells) (.tip I.nx)), (5, .any), (12, .v (.int .i64 (k : Int)))]) (fun k G' => (aq (I.G s) I.nx (.tip (e9 k s).length 3 1))) 0 rfl ?_ ?_ ?_ ?_ ?_ ?_
   ·exact Nat.zero_le _
   ·exact zF
   ·exact zX
   ·rintro k hI
    exact zL
   ·rintro k hI
    exact zH
   ·rintro k hK
    dsimp only at hK ⊢
    refine p9 fun K4 hK4 => ?_
    refine i0 ?_
    refine aa rfl (cv rfl rfl rfl) ?_
    refine i1 ?_
    dsimp only [St.put]
    refine hK4 _ ?_
    refine p9 fun K5 hK5 => ?_
    refine aw rfl (fun hc => ?_) (fun hc => ?_)
    ·replace hc := of_decide_eq_true hc
     have hml := sq k s
     refine az ?_
     refine hK5 _ ?_
     refine p9 fun K6 hK6 => ?_
     refine bg ?_
     refine p9 fun K7 hK7 => ?_
     refine i0 ?_
     refine aa rfl (gp rfl (by constructor)) ?_
     refine aa rfl (fj rfl (by constructor)) ?_
     refine i1 ?_
     dsimp only [St.put]
     refine hK7 _ ?_
     refine p9 fun K8 hK8 => ?_
     refine i0 ?_
     refine aa rfl (gp rfl (by constructor)) ?_
     refine aa rfl (gp rfl (by constructor)) ?_
     refine aa rfl (xw (m := s) (n := k) rfl rfl rfl (by show k ≤ 64; omega) (by show (s : Int) ≤ 9223372036854775807; omega) (by decide)) ?_
     refine aa rfl (xy (m := s / 2 ^ k) rfl rfl rfl (Nat.lt_of_le_of_lt (Nat.div_le_self _ _) (by show s < 2 ^ 64; omega)) (by decide)) ?_
     refine aa rfl (fh rfl rfl rfl) ?_
     refine i1 ?_
     dsimp only [St.put]
     refine hK8 _ ?_
     refine aw rfl (fun hc => ?_) (fun hc => ?_)
     ·have hb1 : s.testBit k = true := bit_eq.1 (of_decide_eq_true hc)
      refine i0 ?_
      refine aa rfl (gp rfl (by constructor)) ?_
      refine aa rfl (gp rfl (by constructor)) ?_
      try dsimp only [St.put]
      refine af rfl (cb rfl rfl rfl (by decide) (by decide) zR (by decide) ?_)
      try dsimp only [St.put]
      refine af rfl (cg ([(k : Int)]) rfl rfl zG zE rfl rfl zA ?_ zA)
      refine aa rfl (fj rfl (by constructor)) ?_
      refine i1 ?_
      dsimp only [St.put]
      refine hK6 _ ?_
      refine i0 ?_
      first | refine aa rfl (bv rfl rfl rfl (by omega)) ?_ | refine aa rfl (sn rfl rfl rfl) ?_
      refine aa rfl (gp rfl (by constructor)) ?_
      refine i1 ?_
      dsimp only [St.put]
      have e := uci k s
      first
      | (have q : s.testBit k = true := hb1
         rw [q, cond_true] at e
         rw [← e]
         exact ⟨k + 1, by omega, by omega, ⟨⟨rfl, rfl⟩, zF, zB, zN, zX⟩⟩)
      | (have q : s.testBit k = false := hb0
         rw [q, cond_false, List.append_nil] at e
         rw [← e]
         exact ⟨k + 1, by omega, by omega, ⟨⟨rfl, rfl⟩, zF, zB, zN, zX⟩⟩)
     ·have hb0 : s.testBit k = false := by
       have := of_decide_eq_false hc
       rw [bit_eq, Bool.not_eq_true] at this
       exact this
      refine az ?_
      refine hK6 _ ?_
      refine i0 ?_
      first | refine aa rfl (bv rfl rfl rfl (by omega)) ?_ | refine aa rfl (sn rfl rfl rfl) ?_
      refine aa rfl (gp rfl (by constructor)) ?_
      refine i1 ?_
      dsimp only [St.put]
      have e := uci k s
      first
      | (have q : s.testBit k = true := hb1
         rw [q, cond_true] at e
         rw [← e]
         exact ⟨k + 1, by omega, by omega, ⟨⟨rfl, rfl⟩, zF, zB, zN, zX⟩⟩)
      | (have q : s.testBit k = false := hb0
         rw [q, cond_false, List.append_nil] at e
         rw [← e]
         exact ⟨k + 1, by omega, by omega, ⟨⟨rfl, rfl⟩, zF, zB, zN, zX⟩⟩)
    ·replace hc := of_decide_eq_false hc
     obtain rfl : k = n := by omega
     refine vz 4 (lst (e9 k s)) rfl Wk.tok ?_
     refine c4 ?_
     show jz _ _ _ _ _ _ _
     refine pc ok rfl ⟨rfl, rfl, zK, zN, zS, zK⟩ ?_
     refine o9 fun K9 hK9 => ?_
     refine uc9 ?_
     refine p5 rfl (gp rfl (by constructor)) ?_
     refine p5 rfl (gp rfl (by constructor)) ?_
     refine p5 rfl (gp rfl (by constructor)) ?_
     try dsimp only [St.put]
     refine udd ok (by rw [hN]; exact hs) rfl rfl rfl rfl (by rw [hcl]; rfl) ?_
     refine p5 rfl (dq rfl rfl) ?_
     refine ude ?_
     dsimp only [St.put]
     refine hK9 _ _ ?_
     refine te rfl (fun h => by cases h) (fun _ => ?_)
     refine td ?_
     refine hK2 _ _ ?_
     refine ke 9 ?_
     refine zQ ?_
     refine yj ok rfl ?_
     dsimp only [FC.st]
     refine bx fun hlt => ?_
     dsimp only at hlt
     refine i0 ?_
     first | refine aa rfl (bv rfl rfl rfl (by omega)) ?_ | refine aa rfl (sn rfl rfl rfl) ?_
     refine aa rfl (gp rfl (by constructor)) ?_
     refine i1 ?_
     dsimp only [St.put]
     refine ⟨⟨rfl, rfl, zK, zN, zS, zK⟩, ?_⟩
     exact ⟨s + 1, by omega, by omega, rfl, ⟨⟨rfl, rfl⟩, zF, zB, zN, zX⟩⟩
  ·replace hc := of_decide_eq_false hc
   obtain rfl : s = 2 ^ n := by omega
   refine yl ?_
   exact ⟨.inl rfl, rfl⟩
end Go.Proofs.YtbbdginipiljdaaGreatDoor
namespace Go.AB
open Go Go.RowKit
open Go.AB.Enc (cells)
open Go.PB (ba ai PlaceD bh bj bi bu am ah cy bq dd dj)
theorem um8 {so : Nat → Bool} {n k : Nat} : ((ff so n k).getD []).length ≤ n := by
 rcases vy so n k with ⟨h, _⟩ | ⟨b, h, k⟩
 ·rw [h]; exact Nat.zero_le _
 rw [h]
 obtain ⟨s, _, _, rfl⟩ := k.get
 exact sq n s
theorem um6 {so : Nat → Bool} {n k : Nat} (h : so k = false) : ff so n (k + 1) = ff so n k := by
 cases hb : ff so n k with
 | none => rw [uen hb, h]; rfl
 | some b => rw [zb hb, h]; rfl
theorem um9 {so : Nat → Bool} {n k : Nat} (hb : ff so n k = none) (h : so k = true) : ff so n (k + 1) = some (e9 n k) := by rw [uen hb, h]; rfl
theorem um7 {so : Nat → Bool} {n k : Nat} {b : List Int} (hb : ff so n k = some b) (h : so k = true) : ff so n (k + 1) = bif iv (e9 n k) b then some (e9 n k) else some b := by rw [zb hb, h]; rfl
theorem uab {α : Type} {l : List α} {k : Nat} {x : α} (h : l[k]? = some x) : l.take (k + 1) = l.take k ++ [x] := by rw [List.take_add_one, h]; rfl
theorem uf5 (p : ah) (l : List Int) (z : Int) : nd p (l ++ [z]) = nd p l ++ bif decide (z < (p.firsts.length : Int)) then [z] else [] := by
 unfold nd
 rw [List.filter_append]
 cases h : decide (z < (p.firsts.length : Int)) <;> simp [h]
theorem uf2 (p : ah) (l : List Int) (z : Int) : mi p (l ++ [z]) = mi p l ++ bif decide (z < (p.firsts.length : Int)) then [] else [z - (p.firsts.length : Int)] := by
 unfold mi
 rw [List.filter_append, List.map_append]
 cases h : decide (z < (p.firsts.length : Int)) <;> simp [h]
theorem uf6 (p : ah) (l : List Int) : (nd p l).length ≤ l.length := List.length_filter_le _ _
theorem uf3 (p : ah) (l : List Int) : (mi p l).length ≤ l.length := by
 unfold mi
 rw [List.length_map]
 exact List.length_filter_le _ _
theorem uf4 {p : ah} {z : Int} (h : z ∈ g7 p) : 0 ≤ z ∧ z < (cj p : Int) := by
 unfold g7 m7 at h
 rcases vy (qg p) (cj p) (2 ^ cj p) with ⟨q, _⟩ | ⟨b, q, k⟩
 ·rw [q] at h; cases h
 rw [q] at h
 obtain ⟨s, _, _, rfl⟩ := k.get
 obtain ⟨i, rfl, hi, _⟩ := membersL_mem.1 h
 omega
end Go.AB
namespace Go.Proofs.YtbbdginipiljdaaGreatDoor
set_option maxRecDepth 10000
open Go.RowKit Go.AB
open Go.AB.Enc (cells)
open Go.PB (ba ai PlaceD bh bj bi bu am ah cy bq dd dj)
end Go.Proofs.YtbbdginipiljdaaGreatDoor
namespace Go.AB
open Go Go.RowKit
open Go.AB.Enc (cells)
open Go.PB (ba ai PlaceD bh bj bi bu am ah cy bq dd dj)
theorem um5 {so : Nat → Bool} {n k : Nat} {b : List Int} (hb : ff so n k = some b) (h : iv (e9 n k) b = false) : ff so n (k + 1) = some b := by rw [zb hb, h, Bool.and_false]; rfl
theorem ues {p : ah} {R C : Nat → Int} (h : Bd p R C) (l : List Int) : Bd p R (kg C l) := ⟨h.r, fun j => by
 have := h.c j
 unfold kg
 cases decide ((j : Int) ∈ l)
 ·exact this
 exact ⟨Int.le_refl _, by show (0 : Int) ≤ 1000000; omega⟩, h.nr, h.np⟩
theorem ums {p : ah} {m : Int} (h : cx p ≠ 0) : i6 p m = cx p := by unfold i6; rw [decide_eq_false h]; rfl
theorem umr {p : ah} {m : Int} (h : cx p = 0) (hm : m < 0) : i6 p m = 2 := by unfold i6; rw [decide_eq_true h, decide_eq_true hm]; rfl
theorem umt {p : ah} {m : Int} (h : cx p = 0) (hm : ¬ m < 0) (ht : g8 p = false) : i6 p m = 8 := by unfold i6; rw [decide_eq_true h, decide_eq_false hm, ht]; rfl
theorem umq {p : ah} {m : Int} (h : cx p = 0) (hm : ¬ m < 0) (ht : g8 p = true) : i6 p m = 0 := by unfold i6; rw [decide_eq_true h, decide_eq_false hm, ht]; rfl
end Go.AB
namespace Go.Proofs.YtbbdginipiljdaaGreatDoor
set_option maxRecDepth 10000
open Go.RowKit Go.AB
open Go.AB.Enc (cells)
open Go.PB (ba ai PlaceD bh bj bi bu am ah cy bq dd dj)
end Go.Proofs.YtbbdginipiljdaaGreatDoor
namespace Go.AB
open Go Go.RowKit
open Go.AB.Enc (cells)
open Go.PB (ba ai PlaceD bh bj bi bu am ah cy bq dd dj)
/-- whether a set is taken, and how often one was -/
def km (so : Nat → Bool) (n k : Nat) : Bool := so k && match ff so n k with
 | none => true
 | some b => iv (e9 n k) b
def lv (so : Nat → Bool) (n : Nat) : Nat → Nat
 | 0 => 0
 | k + 1 => lv so n k + (km so n k).toNat
theorem wr {so : Nat → Bool} {n k : Nat} (h : km so n k = true) : ff so n (k + 1) = some (e9 n k) ∧ lv so n (k + 1) = lv so n k + 1 := by
 refine ⟨?_, by show lv so n k + (km so n k).toNat = _; rw [h]; rfl⟩
 unfold km at h
 rw [Bool.and_eq_true] at h
 cases hb : ff so n k with
 | none => exact um9 hb h.1
 | some b =>
  have h2 := h.2
  rw [hb] at h2
  have h3 : iv (e9 n k) b = true := h2
  rw [um7 hb h.1, h3]; rfl
theorem wt {so : Nat → Bool} {n k : Nat} (h : km so n k = false) : ff so n (k + 1) = ff so n k ∧ lv so n (k + 1) = lv so n k := by
 refine ⟨?_, by show lv so n k + (km so n k).toNat = _; rw [h]; rfl⟩
 unfold km at h
 cases hs : so k
 ·exact um6 hs
 rw [hs, Bool.true_and] at h
 cases hb : ff so n k with
 | none => rw [hb] at h; cases h
 | some b =>
  rw [hb] at h
  have h3 : iv (e9 n k) b = false := h
  rw [um5 hb h3]
theorem ugq {so : Nat → Bool} {n k : Nat} (h : so k = false) : km so n k = false := by unfold km; rw [h]; rfl
theorem ugr {so : Nat → Bool} {n k : Nat} (h : so k = true) (hb : ff so n k = none) : km so n k = true := by unfold km; rw [h, hb]; rfl
theorem uc {so : Nat → Bool} {n k : Nat} {b : List Int} (h : so k = true) (hb : ff so n k = some b) : km so n k = iv (e9 n k) b := by unfold km; rw [h, hb]; rfl
end Go.AB
namespace Go.Proofs.YtbbdginipiljdaaGreatDoor
set_option maxRecDepth 10000
open Go Go.RowKit Go.AB
open Go.AB.Enc (cells)
open Go.PB (ba ai PlaceD bh bj bi bu am ah cy bq dd dj)
theorem uar (m : Nat) : Pure Tryz.prog 54 [.v (.int .i64 (m : Int))] (.fn (.func 89) [.elem [.v (.int .i64 (m : Int))]]) := by
 refine cz Tryz.func54 rfl (fun m => (.fn (cm (.elem (cm .v dh)) dh))) fun G nx => ?_
 simp only [Tryz.ntmps54, List.length_cons, List.length_nil, Nat.reduceAdd, Nat.reduceSub]
 refine bx fun hlt => ?_
 dsimp only at hlt
 refine yS fun _ K1 => ?_
 refine yR ?_
 try dsimp only [St.put]
 refine yB rfl rfl rfl ?_
 refine yA rfl rfl ?_
 refine yN ?_
 dsimp only [St.put]
 refine K1 _ ?_
 refine yS fun _ K2 => ?_
 refine yR ?_
 refine aa rfl (pu rfl rfl) ?_
 refine yA rfl rfl ?_
 refine yN ?_
 dsimp only [St.put]
 refine K2 _ ?_
 refine ax ?_
 refine bf rfl (by constructor) zN zS ?_
 rfl
set_option maxHeartbeats 1000000 in
theorem udm (n : Nat) (m : Nat) (so : Nat → Bool) (k0 : FuncId) (caps : List C) [Fun Tryz.prog k0] (hm : m ≤ 8) (hcl : ∀ N, ∀ c ∈ caps, C.low N c) (hso : ∀ s : Nat, s < 2 ^ m → AB.Pure Tryz.prog k0 (.v (.int .i64 (s : Int)) :: lst (e9 m s) :: caps) (.v (.bool (so s)))) : fa n e8 Tryz.prog 53 [.fn (.func 89) [.elem [.v (.int .i64 (m : Int))]], .fn (.func k0) caps, .fn (.func 57) []] (lst (m7 so m)) := fun G nx hF hnx => by
 refine il (G) (nx) Tryz.func53 rfl ((ca _ _)) zN (fun hlt => zH) ?_
 simp only [Tryz.ntmps53, List.length_cons, List.length_nil, Nat.reduceAdd, Nat.reduceSub]
 refine bx fun hlt => ?_
 dsimp only at hlt
 refine yS fun _ K1 => ?_
 refine yR ?_
 try dsimp only [St.put]
 refine yB rfl rfl rfl ?_
 try dsimp only [St.put]
 refine yB rfl rfl rfl ?_
 refine yA rfl rfl ?_
 refine yN ?_
 dsimp only [St.put]
 refine K1 _ ?_
 refine yS fun _ K2 => ?_
 refine yR ?_
 try dsimp only [St.put]
 refine af rfl (d8 rfl ?_)
 refine yN ?_
 dsimp only [St.put]
 refine K2 _ ?_
 refine yS fun _ K3 => ?_
 refine yR ?_
 try dsimp only [St.put]
 refine af rfl (d8 rfl ?_)
 try dsimp only [St.put]
 refine af rfl (dc rfl rfl rfl zG rfl rfl (by rfl) ?_)
 refine yN ?_
 dsimp only [St.put]
 refine K3 _ ?_
 refine yS fun _ K4 => ?_
 refine yS fun _ K5 => ?_
 refine ze nx 0 [lst ([] : List Int)] zG zW ?_
 refine yR ?_
 refine yM rfl rfl ?_
 refine yN ?_
 dsimp only [St.put]
 refine K5 _ ?_
 refine bg ?_
 refine cr 12 ?_
 refine zQ ?_
 refine c6 ((aq (aq G nx (.box (lv so m 0) [lst ((ff so m 0).getD [])])) (nx + 1) (.box (1 + lv so m 0) [.v (.bool (ff so m 0).isSome)]))) zX ?_
 dsimp only
 refine ueu [12, 13] (fun k => (aq (aq G nx (.box (lv so m k) [lst ((ff so m k).getD [])])) (nx + 1) (.box (1 + lv so m k) [.v (.bool (ff so m k).isSome)]))) (fun k => [(13, lst (e9 m k)), (12, .v (.int .i64 (k : Int)))]) (uhn n m hm) (fun k => zG) (by (try dsimp only); omega) rfl rfl (fun _ => rfl) ?_ ?_ ?_ (fun lr k hrk => ?_) ?_
 ·intro k
  rfl
 ·exact zX
 ·intro k
  exact zH
 ·have hbl := um8 (so := so) (n := m) (k := k)
  have hml := sq m k
  refine yS fun _ K6 => ?_
  refine yR ?_
  refine yA rfl rfl ?_
  refine yN ?_
  dsimp only [St.put]
  refine K6 _ ?_
  refine yR ?_
  refine yA rfl rfl ?_
  refine yN ?_
  dsimp only [St.put]
  show AW _ _ _ _ _
  refine bg ?_
  refine yS fun _ K7 => ?_
  refine yR ?_
  refine yL rfl rfl rfl ?_
  refine yM rfl rfl ?_
  refine yM rfl rfl ?_
  try dsimp only [St.put]
  refine af rfl (bd rfl rfl rfl (hso k hrk) ?_)
  refine yM rfl rfl ?_
  refine eo (fun hs => ?_) (fun hs => ?_)
  ·have hw : so k = true := hs
   try dsimp only [St.put]
   refine ci rfl (gd rfl rfl zG trivial (by first | rfl | assumption)) ?_
   refine aa rfl (dq rfl rfl) ?_
   refine yM rfl rfl ?_
   refine eo (fun hs => ?_) (fun hs => ?_)
   ·have hb0 : ff so m k = none := by simpa using hs
    have htk := wr (ugr hw hb0)
    refine yK rfl ?_
    refine yK rfl ?_
    refine yK rfl ?_
    refine yK rfl ?_
    refine yK rfl ?_
    refine aa rfl (b9 rfl rfl (by constructor)) ?_
    refine aa rfl (b9 rfl rfl (by constructor)) ?_
    refine yN ?_
    dsimp only [St.put]
    refine K7 _ ?_
    refine aw rfl (fun _ => ?_) (fun h => by cases h)
    first
    | (have hbf : iv (e9 m k) b = true := (uk _ _).symm.trans hc
       have htk := wr ((uc hw hb0).trans hbf))
    | skip
    refine yR ?_
    refine yM rfl rfl ?_
    try dsimp only [St.put]
    refine af rfl (dc rfl rfl rfl zG rfl rfl (by rfl) ?_)
    try dsimp only [St.put]
    refine af rfl (dc rfl rfl rfl zG rfl rfl (by rfl) ?_)
    refine yN ?_
    dsimp only [St.put]
    dsimp only [rm, tr]
    first
    | (rw [htk.1, htk.2]
       exact zX)
    | (rw [hke.1, hke.2]
       try rw [hb0]
       exact zX)
   obtain ⟨b, hb0⟩ : ∃ b, ff so m k = some b := by
     cases hb : ff so m k with
     | none => rw [hb] at hs; cases hs
     | some b => exact ⟨b, rfl⟩
   rw [hb0] at hbl
   rw [hb0]
   have hbl2 : b.length ≤ m := hbl
   refine yL rfl rfl rfl ?_
   refine yM rfl rfl ?_
   try dsimp only [St.put]
   refine ci rfl (gd rfl rfl zG trivial (by first | rfl | assumption)) ?_
   try dsimp only [St.put]
   refine af rfl (bd rfl rfl rfl (ui6 (e9 m k) b (by omega) (by omega)) ?_)
   refine aa rfl (cv rfl rfl rfl) ?_
   refine aa rfl (co rfl rfl (by constructor)) ?_
   refine aa rfl (b9 rfl rfl (by constructor)) ?_
   refine yN ?_
   dsimp only [St.put]
   refine K7 _ ?_
   refine aw rfl (fun hc => ?_) (fun hc => ?_)
   ·first
    | (have hbf : iv (e9 m k) b = true := (uk _ _).symm.trans hc
       have htk := wr ((uc hw hb0).trans hbf))
    | skip
    refine yR ?_
    refine yM rfl rfl ?_
    try dsimp only [St.put]
    refine af rfl (dc rfl rfl rfl zG rfl rfl (by rfl) ?_)
    try dsimp only [St.put]
    refine af rfl (dc rfl rfl rfl zG rfl rfl (by rfl) ?_)
    refine yN ?_
    dsimp only [St.put]
    dsimp only [rm, tr]
    first
    | (rw [htk.1, htk.2]
       exact zX)
    | (rw [hke.1, hke.2]
       try rw [hb0]
       exact zX)
   first
   | (have hbf : iv (e9 m k) b = false := (uk _ _).symm.trans hc
      have hke := wt ((uc hw hb0).trans hbf))
   | skip
   refine az ?_
   dsimp only [rm, tr]
   first
   | (rw [htk.1, htk.2]
      exact zX)
   | (rw [hke.1, hke.2]
      try rw [hb0]
      exact zX)
  have hw : so k = false := hs
  have hke := wt (ugq (n := m) hw)
  refine yK rfl ?_
  refine yK rfl ?_
  refine yK rfl ?_
  refine yK rfl ?_
  refine yK rfl ?_
  refine yK rfl ?_
  refine yK rfl ?_
  refine yK rfl ?_
  refine yK rfl ?_
  refine aa rfl (co rfl rfl (by constructor)) ?_
  refine yN ?_
  dsimp only [St.put]
  refine K7 _ ?_
  refine aw rfl (fun h => by cases h) (fun _ => ?_)
  first
  | (have hbf : iv (e9 m k) b = false := (uk _ _).symm.trans hc
     have hke := wt ((uc hw hb0).trans hbf))
  | skip
  refine az ?_
  dsimp only [rm, tr]
  first
  | (rw [htk.1, htk.2]
     exact zX)
  | (rw [hke.1, hke.2]
     try rw [hb0]
     exact zX)
 dsimp only
 refine K4 _ ?_
 refine yS fun _ K8 => ?_
 refine yR ?_
 try dsimp only [St.put]
 refine ci rfl (gd rfl rfl zG trivial (by first | rfl | assumption)) ?_
 refine yA rfl rfl ?_
 refine yN ?_
 dsimp only [St.put]
 refine K8 _ ?_
 refine ax ?_
 refine bf rfl (by constructor) zN zS ?_
 rfl
theorem ui4 (p : ah) (R C : Nat → Int) (a : Int) (s : Nat) (l : List Int) (h : ei p) (hB : Bd p R C) (hs : s ≤ 1000) : Pure Tryz.prog 55 [.v (.int .i64 (s : Int)), lst l, .elem (cells (ge p R C)), .elem [.v (.int .i64 a)]] (.v (.bool (decide ((bp p).f R C (fun i => s.testBit i) = a)))) := by
 refine cz Tryz.func55 rfl (fun m => .v) fun G nx => ?_
 simp only [Tryz.ntmps55, List.length_cons, List.length_nil, Nat.reduceAdd, Nat.reduceSub]
 refine bx fun hlt => ?_
 dsimp only at hlt
 refine yS fun _ K1 => ?_
 refine yR ?_
 refine yA rfl rfl ?_
 refine yN ?_
 dsimp only [St.put]
 refine K1 _ ?_
 refine yS fun _ K2 => ?_
 refine gj [(0, none), (1, none), (3, none), (2, none), (4, none), (5, none)] (fun i => [].contains i) (fun i => [2].contains i) (fun i => [1, 4, 5].contains i) [] (by kernel_rfl) (by kernel_rfl) ?_
 try dsimp only [St.put]
 refine bc rfl rfl rfl rfl (eg rfl rfl (Enc.len _)) ?_
 refine xM rfl rfl rfl rfl rfl ?_
 try dsimp only [St.put]
 refine bc rfl rfl rfl rfl (cc rfl rfl) ?_
 refine ix ?_
 try dsimp only [St.put]
 refine je rfl rfl rfl (bd rfl rfl rfl (ubn p R C s h hB hs) ⟨zD, ?_⟩)
 refine eb rfl rfl rfl rfl (fh rfl rfl rfl) ?_
 refine eb rfl rfl rfl rfl (fj rfl (by constructor)) ?_
 refine iw ?_
 dsimp only [St.put]
 refine K2 _ ?_
 refine ax ?_
 refine bf rfl (by constructor) zN zS ?_
 rfl
theorem ujd (p : ah) (m : Int) (s : Int) (l : List Int) (h : ei p) (hl : l.length ≤ 1000) (hm : ∀ z ∈ l, 0 ≤ z ∧ z < (p.pages.length : Int)) : Pure Tryz.prog 78 [.v (.int .i64 s), lst l, .elem (cells (ge p (cw p) (c5 p))), .elem [.v (.int .i64 m)]] (.v (.bool (decide (ufc p l ≤ m)))) := by
 refine cz Tryz.func78 rfl (fun m => .v) fun G nx => ?_
 simp only [Tryz.ntmps78, List.length_cons, List.length_nil, Nat.reduceAdd, Nat.reduceSub]
 refine bx fun hlt => ?_
 dsimp only at hlt
 refine yS fun _ K1 => ?_
 refine yR ?_
 refine yA rfl rfl ?_
 refine yN ?_
 dsimp only [St.put]
 refine K1 _ ?_
 refine yS fun _ K2 => ?_
 refine yR ?_
 refine yE rfl rfl rfl ?_
 try dsimp only [St.put]
 refine af rfl (d8 rfl ?_)
 try dsimp only [St.put]
 refine af rfl (dc rfl rfl rfl zG rfl rfl (by rfl) ?_)
 refine yN ?_
 dsimp only [St.put]
 rw [show cells (ge p (cw p) (c5 p)) = cells (ge p (cw p) (kg (c5 p) (l.take 0))) by rw [List.take_zero, ufk]]
 refine K2 _ ?_
 refine yS fun _ K3 => ?_
 refine yS fun _ K4 => ?_
 refine yR ?_
 refine yM rfl rfl ?_
 refine aa rfl (bk rfl rfl (List.length_map _)) ?_
 refine yM rfl rfl ?_
 refine yN ?_
 dsimp only [St.put]
 refine K4 _ ?_
 refine bg ?_
 refine cr 14 ?_
 refine zQ ?_
 refine c6 ((aq G nx (.box (0 + 1) (cells (ge p (cw p) (kg (c5 p) (l.take 0))))))) zX ?_
 dsimp only
 refine c9 (X := Nat) (fun k => k ≤ l.length) (fun k => l.length - k) (fun k => [(8, .any), (9, .any), (13, .v (.int .i64 (k : Int)))]) (fun k G' => (aq G nx (.box (k + 1) (cells (ge p (cw p) (kg (c5 p) (l.take k))))))) 0 rfl ?_ ?_ ?_ ?_ ?_ ?_
 ·exact Nat.zero_le _
 ·exact zF
 ·exact zX
 ·rintro k hI
  exact zL
 ·rintro k hI
  exact zH
 rintro k hI
 dsimp only at hI ⊢
 refine yS fun _ K5 => ?_
 refine yR ?_
 refine aa rfl (cv rfl rfl rfl) ?_
 refine yN ?_
 dsimp only [St.put]
 refine K5 _ ?_
 refine yS fun _ K6 => ?_
 refine aw rfl (fun hc => ?_) (fun hc => ?_)
 ·replace hc := of_decide_eq_true hc
  obtain ⟨z0, hz0⟩ : ∃ z, l[k]? = some z := da (by omega)
  have hzb := hm z0 (f4 hz0)
  obtain ⟨j, rfl⟩ : ∃ j : Nat, z0 = (j : Int) := ⟨z0.toNat, by omega⟩
  have hz := hz0
  obtain ⟨x, hx⟩ : ∃ x, p.pages[j]? = some x := da (by omega)
  have hB := ues (tm h) (l.take k)
  refine az ?_
  refine K6 _ ?_
  refine yS fun _ K7 => ?_
  refine bg ?_
  refine yS fun _ K8 => ?_
  refine yR ?_
  refine aa rfl (bt rfl rfl rfl rfl (br (by assumption)) (Enc.len _)) ?_
  refine yL rfl rfl rfl ?_
  refine yA rfl rfl ?_
  refine yN ?_
  dsimp only [St.put]
  refine K8 _ ?_
  refine yR ?_
  try dsimp only [St.put]
  refine ci rfl (i4 rfl rfl zG trivial (by rfl)) ?_
  refine yM rfl rfl ?_
  try dsimp only [St.put]
  refine af rfl (bd rfl rfl rfl (xi p (cw p) (kg (c5 p) (l.take k)) j x 0 h hx (by omega) hB.r) ?_)
  try dsimp only [St.put]
  refine af rfl (dc rfl rfl rfl zG rfl rfl (by rfl) ?_)
  refine yN ?_
  dsimp only [St.put]
  refine K7 _ ?_
  refine yR ?_
  refine aa rfl (bv rfl rfl rfl (by omega)) ?_
  refine yM rfl rfl ?_
  refine yN ?_
  dsimp only [St.put]
  rw [ukt, ← ufj, ← uab hz]
  exact ⟨k + 1, by omega, by omega, ⟨⟨rfl, rfl⟩, zF, zB, zN, zX⟩⟩
 replace hc := of_decide_eq_false hc
 rw [gl (show l.length ≤ k by omega)]
 refine c4 ?_
 refine K3 _ ?_
 refine yS fun _ K9 => ?_
 refine gj [(0, none), (2, none), (1, none), (3, none), (4, none)] (fun i => [].contains i) (fun i => [1].contains i) (fun i => [3, 4].contains i) [nx] (by kernel_rfl) (by kernel_rfl) ?_
 try dsimp only [St.put]
 refine bc rfl rfl rfl rfl (i4 rfl rfl zG (by simp) (by rfl)) ?_
 try dsimp only [St.put]
 refine bc rfl rfl rfl rfl (cc rfl rfl) ?_
 refine ix ?_
 try dsimp only [St.put]
 refine je rfl rfl rfl (bd rfl rfl rfl (sd p (cw p) (kg (c5 p) l) h (ues (tm h) l)) ⟨zD, ?_⟩)
 refine eb rfl rfl rfl rfl (pv rfl rfl rfl) ?_
 refine eb rfl rfl rfl rfl (fj rfl (by constructor)) ?_
 refine iw ?_
 dsimp only [St.put]
 refine K9 _ ?_
 refine ax ?_
 refine bf rfl (by constructor) zN zS ?_
 rfl
theorem ua4 (p : ah) (R Q : Nat → Int) (a : Int) (N : Nat) : ∀ c ∈ [C.elem (cells (ge p R Q)), C.elem [C.v (.int .i64 a)]], C.low N c := cm (fm _ _) (cm (.elem (cm .v dh)) dh)
set_option maxHeartbeats 1000000 in
theorem ui3 (n : Nat) (p : ah) : fa n e8 Tryz.prog 17 [val p] (.tup [lst (atE (fb p (cx p)) [] (nd p (g7 p))), lst (atE (fb p (cx p)) [] (mi p (g7 p))), .v (.int .i64 (fb p (cx p)))]) := fun G nx hF hnx => by
 refine il (G) (nx) Tryz.func17 rfl (.tup (cm (ca _ _) (cm (ca _ _) (cm .v dh)))) zN (fun hlt => zH) ?_
 simp only [Tryz.ntmps17, List.length_cons, List.length_nil, Nat.reduceAdd, Nat.reduceSub]
 refine bx fun hlt => ?_
 dsimp only at hlt
 refine yS fun _ K1 => ?_
 refine yR ?_
 try dsimp only [St.put]
 refine yB rfl rfl rfl ?_
 refine yA rfl rfl ?_
 refine yA rfl rfl ?_
 refine yA rfl rfl ?_
 refine yN ?_
 dsimp only [St.put]
 refine K1 _ ?_
 refine yS fun _ K2 => ?_
 by_cases hL : fb p (cx p) = 0
 ·refine yR ?_
  refine yE rfl rfl rfl ?_
  try dsimp only [St.put]
  refine af rfl (ed rfl rfl rfl (nm n p) zG (by dsimp only [St.put]; omega) ?_)
  refine yX rfl rfl rfl rfl ?_
  refine yX rfl rfl rfl rfl ?_
  try dsimp only [St.put]
  refine af rfl (ed rfl rfl rfl (r9 n p (jo p) (cx p) pg hL) zG (by dsimp only [St.put]; omega) ?_)
  refine yM rfl rfl ?_
  refine yX rfl rfl rfl rfl ?_
  refine yX rfl rfl rfl rfl ?_
  try dsimp only [St.put]
  refine af rfl (d8 rfl ?_)
  try dsimp only [St.put]
  refine af rfl (dc rfl rfl rfl zG rfl rfl (by rfl) ?_)
  refine yA rfl rfl ?_
  refine yN ?_
  dsimp only [St.put]
  refine K2 _ ?_
  refine yS fun _ K3 => ?_
  refine yS fun _ K4 => ?_
  refine yR ?_
  refine yM rfl rfl ?_
  refine aa rfl (eu rfl rfl rfl) ?_
  refine yN ?_
  dsimp only [St.put]
  refine K4 _ ?_
  refine aw rfl (fun hc => ?_) (fun hc => ?_)
  ·exact absurd hc (by decide)
  obtain ⟨h0, hTB⟩ := qw hL
  obtain ⟨hok, _⟩ := lm h0
  have hn1 := hok.nf
  have hn2 := hok.ns
  have hnr : cj p = p.firsts.length + p.seconds.length := rfl
  have hl1 := gm (cj p) (cw p)
  have hB := tm hok
  have h64 : 2 ^ cj p ≤ 2 ^ 6 := Nat.pow_le_pow_right (by omega) (by omega)
  have hwl : (g7 p).length ≤ 6 := by
   have := ueo (qg p) (cj p)
   show (m7 (qg p) (cj p)).length ≤ 6
   omega
  refine az ?_
  refine K3 _ ?_
  refine yS fun _ K5 => ?_
  refine yR ?_
  try dsimp only [St.put]
  refine ci rfl (i4 rfl rfl zG trivial (by rfl)) ?_
  try dsimp only [St.put]
  refine af rfl (bd rfl rfl rfl (sd p (cw p) (c5 p) hok hB) ?_)
  try dsimp only [St.put]
  refine af rfl (d8 rfl ?_)
  try dsimp only [St.put]
  refine af rfl (dc rfl rfl rfl zG rfl rfl (by rfl) ?_)
  refine yN ?_
  dsimp only [St.put]
  refine K5 _ ?_
  refine f7 (i := 5) rfl zG zC ?_
  refine f7 (i := 6) rfl zG zC ?_
  dsimp only
  refine yS fun _ K6 => ?_
  refine yS fun _ K7 => ?_
  refine yR ?_
  refine yF rfl rfl rfl rfl ?_
  refine yL rfl rfl rfl ?_
  refine aa rfl (bk rfl rfl (List.length_map _)) ?_
  try dsimp only [St.put]
  refine af rfl (bd rfl rfl rfl (uar (bw (cj p) (cw p)).length) ?_)
  refine aa rfl (pu rfl rfl) ?_
  try dsimp only [St.put]
  refine af rfl (ed rfl rfl rfl (udm n (bw (cj p) (cw p)).length (qg p) 55 [.elem (cells (ge p (cw p) (c5 p))), .elem [.v (.int .i64 ((bp p).most (cw p) (c5 p)))]] (by rw [hl1]; omega) (ua4 p _ _ _) (fun s hs => ui4 p (cw p) (c5 p) _ s _ hok hB (by rw [hl1] at hs; omega))) zG (by dsimp only [St.put]; omega) ?_)
  refine aa rfl (bk rfl rfl (List.length_map _)) ?_
  refine yM rfl rfl ?_
  refine yN ?_
  dsimp only [St.put]
  rw [hl1, show m7 (qg p) (cj p) = g7 p from rfl]
  refine K7 _ ?_
  refine m8 2 3 1 rfl (by decide) ?_
  refine m8 3 3 1 rfl (by decide) ?_
  dsimp only [List.set_cons_zero, List.set_cons_succ]
  refine bg ?_
  refine cr 30 ?_
  refine zQ ?_
  refine c6 ((aq (aq G (nx + 1 + 1) (.tip (nd p ((g7 p).take 0)).length 3 1)) (nx + 1 + 1 + 1) (.tip (mi p ((g7 p).take 0)).length 3 1))) zX ?_
  dsimp only
  refine c9 (X := Nat) (fun k => k ≤ (g7 p).length) (fun k => (g7 p).length - k) (fun k => [(2, .list ((nd p ((g7 p).take k)).map cells) (.tip (nx + 1 + 1))), (3, .list ((mi p ((g7 p).take k)).map cells) (.tip (nx + 1 + 1 + 1))), (8, .any), (29, .v (.int .i64 (k : Int)))]) (fun k G' => (aq (aq G (nx + 1 + 1) (.tip (nd p ((g7 p).take k)).length 3 1)) (nx + 1 + 1 + 1) (.tip (mi p ((g7 p).take k)).length 3 1))) 0 rfl ?_ ?_ ?_ ?_ ?_ ?_
  ·exact Nat.zero_le _
  ·exact zF
  ·exact zX
  ·rintro k hI
   exact zL
  ·rintro k hI
   exact zH
  rintro k hK
  dsimp only at hK ⊢
  refine yS fun _ K8 => ?_
  refine yR ?_
  refine aa rfl (cv rfl rfl rfl) ?_
  refine yN ?_
  dsimp only [St.put]
  refine K8 _ ?_
  refine yS fun _ K9 => ?_
  refine aw rfl (fun hc => ?_) (fun hc => ?_)
  ·replace hc := of_decide_eq_true hc
   obtain ⟨z, hz⟩ : ∃ z, (g7 p)[k]? = some z := da (by omega)
   have hzb := uf4 (f4 hz)
   have hF3 := uf5 p ((g7 p).take k) z
   have hS3 := uf2 p ((g7 p).take k) z
   rw [← uab hz] at hF3 hS3
   have hlF := uf6 p ((g7 p).take k)
   have hlS := uf3 p ((g7 p).take k)
   have hlt2 : ((g7 p).take k).length ≤ 6 := by rw [List.length_take]; omega
   refine az ?_
   refine K9 _ ?_
   refine yS fun _ K10 => ?_
   refine bg ?_
   refine yS fun _ K11 => ?_
   refine yR ?_
   refine aa rfl (bt rfl rfl rfl rfl (br (by assumption)) (Enc.len _)) ?_
   refine yL rfl rfl rfl ?_
   refine yA rfl rfl ?_
   refine yN ?_
   dsimp only [St.put]
   refine K11 _ ?_
   refine yS fun _ K12 => ?_
   refine yR ?_
   refine yM rfl rfl ?_
   refine yF rfl rfl rfl rfl ?_
   refine yL rfl rfl rfl ?_
   refine aa rfl (bk rfl rfl (List.length_map _)) ?_
   refine aa rfl (cv rfl rfl rfl) ?_
   refine yN ?_
   dsimp only [St.put]
   refine K12 _ ?_
   refine aw rfl (fun hc => ?_) (fun hc => ?_)
   ·have hyes := of_decide_eq_true hc
    refine yR ?_
    refine yM rfl rfl ?_
    refine yM rfl rfl ?_
    try dsimp only [St.put]
    refine af rfl (cb rfl rfl rfl (by decide) (by decide) zR (by decide) ?_)
    try dsimp only [St.put]
    refine af rfl (cg ([z]) rfl rfl zG zE rfl rfl zA ?_ zA)
    refine yA rfl rfl ?_
    refine yN ?_
    dsimp only [St.put]
    refine K10 _ ?_
    refine yR ?_
    refine aa rfl (bv rfl rfl rfl (by omega)) ?_
    refine yM rfl rfl ?_
    refine yN ?_
    dsimp only [St.put]
    first
    | (have hy2 : z < (p.firsts.length : Int) := hyes
       rw [decide_eq_true hy2, cond_true] at hF3 hS3
       rw [List.append_nil] at hS3
       simp only [← hF3]
       rw [← hS3]
       exact ⟨k + 1, by omega, by omega, ⟨⟨rfl, rfl⟩, zF, zB, zN, zX⟩⟩)
    | (have hy2 : ¬ z < (p.firsts.length : Int) := hno
       rw [decide_eq_false hy2, cond_false] at hF3 hS3
       rw [List.append_nil] at hF3
       simp only [← hS3]
       rw [← hF3]
       exact ⟨k + 1, by omega, by omega, ⟨⟨rfl, rfl⟩, zF, zB, zN, zX⟩⟩)
   have hno := of_decide_eq_false hc
   refine yR ?_
   refine yM rfl rfl ?_
   refine yM rfl rfl ?_
   refine yF rfl rfl rfl rfl ?_
   refine yL rfl rfl rfl ?_
   refine aa rfl (bk rfl rfl (List.length_map _)) ?_
   refine aa rfl (gy rfl rfl rfl (by omega)) ?_
   try dsimp only [St.put]
   refine af rfl (cb rfl rfl rfl (by decide) (by decide) zR (by decide) ?_)
   try dsimp only [St.put]
   refine af rfl (cg ([z - (p.firsts.length : Int)]) rfl rfl zG zE rfl rfl zA ?_ zA)
   refine yA rfl rfl ?_
   refine yN ?_
   dsimp only [St.put]
   refine K10 _ ?_
   refine yR ?_
   refine aa rfl (bv rfl rfl rfl (by omega)) ?_
   refine yM rfl rfl ?_
   refine yN ?_
   dsimp only [St.put]
   first
   | (have hy2 : z < (p.firsts.length : Int) := hyes
      rw [decide_eq_true hy2, cond_true] at hF3 hS3
      rw [List.append_nil] at hS3
      simp only [← hF3]
      rw [← hS3]
      exact ⟨k + 1, by omega, by omega, ⟨⟨rfl, rfl⟩, zF, zB, zN, zX⟩⟩)
   | (have hy2 : ¬ z < (p.firsts.length : Int) := hno
      rw [decide_eq_false hy2, cond_false] at hF3 hS3
      rw [List.append_nil] at hF3
      simp only [← hS3]
      rw [← hF3]
      exact ⟨k + 1, by omega, by omega, ⟨⟨rfl, rfl⟩, zF, zB, zN, zX⟩⟩)
  replace hc := of_decide_eq_false hc
  refine c4 ?_
  refine K6 _ ?_
  refine yS fun _ K13 => ?_
  refine yR ?_
  refine yM rfl rfl ?_
  refine yM rfl rfl ?_
  refine yA rfl rfl ?_
  refine yA rfl rfl ?_
  refine yA rfl rfl ?_
  refine yN ?_
  dsimp only [St.put]
  refine K13 _ ?_
  refine ax ?_
  refine udv rfl (ec (by constructor)) (ec (by constructor)) (ec (by constructor)) zN zS ?_ ?_ ?_
  ·rw [hL, pj, gl (show (g7 p).length ≤ k by omega)]; exact zW
  ·rw [hL, pj, gl (show (g7 p).length ≤ k by omega)]; exact zW
  rw [hL]; exact zW
 refine yR ?_
 refine yE rfl rfl rfl ?_
 try dsimp only [St.put]
 refine af rfl (ed rfl rfl rfl (nm n p) zG (by dsimp only [St.put]; omega) ?_)
 refine yX rfl rfl rfl rfl ?_
 refine yX rfl rfl rfl rfl ?_
 try dsimp only [St.put]
 refine af rfl (ed rfl rfl rfl (sb n p (jo p) (cx p) pg hL) zG (by dsimp only [St.put]; omega) ?_)
 refine yM rfl rfl ?_
 refine yX rfl rfl rfl rfl ?_
 refine yX rfl rfl rfl rfl ?_
 try dsimp only [St.put]
 refine af rfl (d8 rfl ?_)
 try dsimp only [St.put]
 refine af rfl (dc rfl rfl rfl zG rfl rfl (by rfl) ?_)
 refine yA rfl rfl ?_
 refine yN ?_
 dsimp only [St.put]
 refine K2 _ ?_
 refine yS fun _ K14 => ?_
 refine yS fun _ K15 => ?_
 refine yR ?_
 refine yM rfl rfl ?_
 refine aa rfl (eu rfl rfl rfl) ?_
 refine yN ?_
 dsimp only [St.put]
 refine K15 _ ?_
 refine aw rfl (fun hc => ?_) (fun hc => ?_)
 ·try replace hc := of_decide_eq_true hc
  refine yS fun _ K16 => ?_
  refine yR ?_
  refine yM rfl rfl ?_
  refine yA rfl rfl ?_
  refine yA rfl rfl ?_
  refine yA rfl rfl ?_
  refine yN ?_
  dsimp only [St.put]
  refine K16 _ ?_
  refine ax ?_
  refine udv rfl (ec (by constructor)) (ec (by constructor)) (ec (by constructor)) zN zS ?_ ?_ ?_
  ·rw [ld hL]; exact zW
  ·rw [ld hL]; exact zW
  exact zW
 exact absurd (ia hc) hL
set_option maxHeartbeats 1000000 in
theorem ujc (n : Nat) (p : ah) (m : Int) : fa n e8 Tryz.prog 35 [val p, .v (.int .i64 m)] (.tup [lst (j3 p m), .v (.int .i64 (i6 p m))]) := fun G nx hF hnx => by
 refine il (G) (nx) Tryz.func35 rfl (.tup (cm (ca _ _) (cm .v dh))) zN (fun hlt => zH) ?_
 simp only [Tryz.ntmps35, List.length_cons, List.length_nil, Nat.reduceAdd, Nat.reduceSub]
 refine bx fun hlt => ?_
 dsimp only at hlt
 refine yS fun _ K1 => ?_
 refine yR ?_
 try dsimp only [St.put]
 refine yB rfl rfl rfl ?_
 try dsimp only [St.put]
 refine yB rfl rfl rfl ?_
 refine yA rfl rfl ?_
 refine yA rfl rfl ?_
 refine yN ?_
 dsimp only [St.put]
 refine K1 _ ?_
 refine yS fun _ K2 => ?_
 refine yR ?_
 refine yE rfl rfl rfl ?_
 try dsimp only [St.put]
 refine af rfl (ed rfl rfl rfl (nm n p) zG (by dsimp only [St.put]; omega) ?_)
 refine yM rfl rfl ?_
 refine yX rfl rfl rfl rfl ?_
 refine yX rfl rfl rfl rfl ?_
 refine yA rfl rfl ?_
 refine yA rfl rfl ?_
 refine yN ?_
 dsimp only [St.put]
 refine K2 _ ?_
 refine yS fun _ K3 => ?_
 refine yS fun _ K4 => ?_
 refine yR ?_
 refine yM rfl rfl ?_
 refine aa rfl (eu rfl rfl rfl) ?_
 refine yN ?_
 dsimp only [St.put]
 refine K4 _ ?_
 refine aw rfl (fun hc => ?_) (fun hc => ?_)
 ·have h0 : cx p ≠ 0 := jp hc
  have hE : i6 p m = cx p := ums h0
  have hV : j3 p m = [] := by unfold j3; rw [hE, ld h0]
  refine yS fun _ K5 => ?_
  refine yR ?_
  refine yM rfl rfl ?_
  refine yA rfl rfl ?_
  refine yA rfl rfl ?_
  refine yN ?_
  dsimp only [St.put]
  refine K5 _ ?_
  refine ax ?_
  refine g6 rfl (ec (by constructor)) (ec (by constructor)) zN zS ?_ ?_
  ·rw [hV]; exact zW
  rw [hE]; exact zW
 have h0 : cx p = 0 := ia hc
 obtain ⟨hok, _⟩ := lm h0
 have hnp := hok.np
 refine az ?_
 refine K3 _ ?_
 refine yS fun _ K6 => ?_
 refine yS fun _ K7 => ?_
 refine yR ?_
 refine yL rfl rfl rfl ?_
 refine aa rfl (cv rfl rfl rfl) ?_
 refine yN ?_
 dsimp only [St.put]
 refine K7 _ ?_
 refine aw rfl (fun hc => ?_) (fun hc => ?_)
 ·have hm : m < 0 := of_decide_eq_true hc
  have hE : i6 p m = 2 := umr h0 hm
  have hV : j3 p m = [] := by unfold j3; rw [hE, ld (by decide)]
  refine yS fun _ K8 => ?_
  refine yR ?_
  refine yA rfl rfl ?_
  refine yA rfl rfl ?_
  refine yN ?_
  dsimp only [St.put]
  refine K8 _ ?_
  refine ax ?_
  refine g6 rfl (ec (by constructor)) (ec (by constructor)) zN zS ?_ ?_
  ·rw [hV]; exact zW
  rw [hE]; exact zW
 have hm : ¬ m < 0 := of_decide_eq_false hc
 refine az ?_
 refine K6 _ ?_
 refine yS fun _ K9 => ?_
 by_cases hL : fb p (cx p) = 0
 ·refine yR ?_
  refine yM rfl rfl ?_
  refine yM rfl rfl ?_
  try dsimp only [St.put]
  refine af rfl (ed rfl rfl rfl (r9 n p (jo p) (cx p) pg hL) zG (by dsimp only [St.put]; omega) ?_)
  refine yM rfl rfl ?_
  refine yX rfl rfl rfl rfl ?_
  refine yX rfl rfl rfl rfl ?_
  try dsimp only [St.put]
  refine af rfl (d8 rfl ?_)
  try dsimp only [St.put]
  refine af rfl (dc rfl rfl rfl zG rfl rfl (by rfl) ?_)
  refine yA rfl rfl ?_
  refine yN ?_
  dsimp only [St.put]
  refine K9 _ ?_
  refine f7 (i := 8) rfl zG zC ?_
  dsimp only
  refine yS fun _ K10 => ?_
  refine yS fun _ K11 => ?_
  refine yR ?_
  refine yM rfl rfl ?_
  refine aa rfl (eu rfl rfl rfl) ?_
  refine yN ?_
  dsimp only [St.put]
  refine K11 _ ?_
  refine aw rfl (fun hc => ?_) (fun hc => ?_)
  ·exact absurd hc (by decide)
  have hTB := (qw hL).2
  have hE : i6 p m = 0 := umq h0 hm hTB
  have hV : j3 p m = m7 (ti p m) p.pages.length := by unfold j3; rw [hE, pj]
  refine az ?_
  refine K10 _ ?_
  refine yS fun _ K12 => ?_
  refine yR ?_
  refine yF rfl rfl rfl rfl ?_
  refine yL rfl rfl rfl ?_
  refine aa rfl (bk rfl rfl (List.length_map _)) ?_
  try dsimp only [St.put]
  refine af rfl (bd rfl rfl rfl (uar p.pages.length) ?_)
  refine aa rfl (pu rfl rfl) ?_
  try dsimp only [St.put]
  refine af rfl (ed rfl rfl rfl (udm n p.pages.length (ti p m) 78 [.elem (cells (ge p (cw p) (c5 p))), .elem [.v (.int .i64 m)]] hnp (ua4 p _ _ _) (fun s _ => ujd p m s _ hok (by have := sq p.pages.length s; omega) (fun z hz => by obtain ⟨i, rfl, hi, _⟩ := membersL_mem.1 hz; omega))) zG (by dsimp only [St.put]; omega) ?_)
  refine yA rfl rfl ?_
  refine yA rfl rfl ?_
  refine yN ?_
  dsimp only [St.put]
  refine K12 _ ?_
  refine ax ?_
  refine g6 rfl (ec (by constructor)) (ec (by constructor)) zN zS ?_ ?_
  ·rw [hV]; exact zW
  rw [hE]; exact zW
 refine yR ?_
 refine yM rfl rfl ?_
 refine yM rfl rfl ?_
 try dsimp only [St.put]
 refine af rfl (ed rfl rfl rfl (sb n p (jo p) (cx p) pg hL) zG (by dsimp only [St.put]; omega) ?_)
 refine yM rfl rfl ?_
 refine yX rfl rfl rfl rfl ?_
 refine yX rfl rfl rfl rfl ?_
 try dsimp only [St.put]
 refine af rfl (d8 rfl ?_)
 try dsimp only [St.put]
 refine af rfl (dc rfl rfl rfl zG rfl rfl (by rfl) ?_)
 refine yA rfl rfl ?_
 refine yN ?_
 dsimp only [St.put]
 refine K9 _ ?_
 refine f7 (i := 8) rfl zG zC ?_
 dsimp only
 refine yS fun _ K13 => ?_
 refine yS fun _ K14 => ?_
 refine yR ?_
 refine yM rfl rfl ?_
 refine aa rfl (eu rfl rfl rfl) ?_
 refine yN ?_
 dsimp only [St.put]
 refine K14 _ ?_
 refine aw rfl (fun hc => ?_) (fun hc => ?_)
 ·have hTB : g8 p = false := by
   cases h : g8 p
   ·rfl
   exact absurd (by rw [h0, qv, h]; rfl) hL
  have hE : i6 p m = 8 := umt h0 hm hTB
  have hV : j3 p m = [] := by unfold j3; rw [hE, ld (by decide)]
  have hL8 : fb p (cx p) = 8 := by rw [h0, qv, hTB]; rfl
  refine yS fun _ K15 => ?_
  refine yR ?_
  refine yM rfl rfl ?_
  refine yA rfl rfl ?_
  refine yA rfl rfl ?_
  refine yN ?_
  dsimp only [St.put]
  refine K15 _ ?_
  refine ax ?_
  refine g6 rfl (ec (by constructor)) (ec (by constructor)) zN zS ?_ ?_
  ·rw [hV]; exact zW
  rw [hE, hL8]; exact zW
 exact absurd (ia hc) hL
end Go.Proofs.YtbbdginipiljdaaGreatDoor
namespace Go.AB
open Go Go.RowKit
open Go.AB.Enc (cells)
open Go.PB (ba ai PlaceD bh bj bi bu am ah cy bq dd dj)
def qm (p : ah) : Bool := !n2 p && decide (cx p = 0)
section
variable {P : Program} {o : Oper} {st : St} {K : St → Prop}
/-- What stands in a slot is known less well, ahead of an operation. -/
theorem e_wk (i : Nat) {c : C} (c' : C) (h0 : st.at i = c) (hw : Wk c c') (h : EStep P o { st with r := (i, c') :: st.r } K) : EStep P o st K := by
 intro E w a hs
 have hp := hs.at i
 rw [h0] at hp
 refine h E w a ⟨hs.d, hs.sz, fun j v hj => ?_, hs.g⟩
 simp only [dr]
 cases hb : Nat.beq i j
 ·exact hs.t j v hj
 have hij := Nat.eq_of_beq_eq_true hb
 subst hij
 have hv : a.tmps.getD i undef = v := by rw [Array.getD_eq_getD_getElem?, hj]; rfl
 rw [hv] at hp
 exact hw.2 _ _ _ hp
end
theorem lg {α : Type} [Enc α] (l : List α) : ∀ r ∈ l.map cells, r.length = Enc.n α := fun r hr => by
 obtain ⟨y, _, rfl⟩ := List.mem_map.1 hr
 exact Enc.len y
theorem readyP_true {p : ah} : qm p = true ↔ n2 p = false ∧ cx p = 0 := by simp [qm]
end Go.AB
namespace Go.Proofs.YtbbdginipiljdaaGreatDoor
set_option maxRecDepth 10000
open Go Go.RowKit Go.AB
open Go.AB.Enc (cells)
open Go.PB (ba ai PlaceD bh bj bi bu am ah cy bq dd dj)
theorem ucx (a : List PlaceD) : Pure Tryz.prog 61 [lst a, lst a] (.v (.bool true)) := by
 have := un2 a a
 rwa [decide_eq_true rfl] at this
theorem ucy (a : List Int) (ha : a.length ≤ 1000) : Pure Tryz.prog 19 [lst a, lst a] (.v (.bool true)) := by
 have := ubb a a ha
 rwa [decide_eq_true rfl] at this
theorem p3 (a b c : Int) : Pure Tryz.prog 68 [.v (.int .i64 a), .v (.int .i64 b), .v (.int .i64 c)] (val (⟨a, b, c⟩ : PlaceD)) := by
 refine cz Tryz.func68 rfl (fun m => (el _ _)) fun G nx => ?_
 simp only [Tryz.ntmps68, List.length_cons, List.length_nil, Nat.reduceAdd, Nat.reduceSub]
 refine bx fun hlt => ?_
 dsimp only at hlt
 refine yS fun _ K1 => ?_
 refine yR ?_
 try dsimp only [St.put]
 refine af rfl (d8 rfl ?_)
 refine yN ?_
 dsimp only [St.put]
 refine K1 _ ?_
 refine yS fun _ K2 => ?_
 refine yR ?_
 refine yM rfl rfl ?_
 refine yM rfl rfl ?_
 refine yM rfl rfl ?_
 refine aa rfl (ie rfl rfl) ?_
 try dsimp only [St.put]
 refine af rfl (dc rfl rfl rfl zG rfl rfl (by rfl) ?_)
 refine yN ?_
 dsimp only [St.put]
 refine K2 _ ?_
 refine ax ?_
 refine pf rfl (j0 rfl zG (by rfl) zC rfl) zN zS ?_
 exact zW
theorem s9 (l : List PlaceD) : Pure Tryz.prog 67 [lst l] (lst l) := by
 refine cz Tryz.func67 rfl (fun m => (ca _ _)) fun G nx => ?_
 simp only [Tryz.ntmps67, List.length_cons, List.length_nil, Nat.reduceAdd, Nat.reduceSub]
 refine bx fun hlt => ?_
 dsimp only at hlt
 refine yS fun _ K1 => ?_
 refine yR ?_
 refine yA rfl rfl ?_
 refine yN ?_
 dsimp only [St.put]
 refine K1 _ ?_
 refine yS fun _ K2 => ?_
 refine yR ?_
 refine yM rfl rfl ?_
 refine yA rfl rfl ?_
 refine yN ?_
 dsimp only [St.put]
 refine K2 _ ?_
 refine ax ?_
 refine bf rfl (by constructor) zN zS ?_
 rfl
theorem my : Pure Tryz.prog 63 [] (val exPr) := by
 refine cz Tryz.func63 rfl (fun m => (el _ _)) fun G nx => ?_
 simp only [Tryz.ntmps63, List.length_cons, List.length_nil, Nat.reduceAdd, Nat.reduceSub]
 refine bx fun hlt => ?_
 dsimp only at hlt
 refine yS fun _ K1 => ?_
 refine yR ?_
 try dsimp only [St.put]
 refine af rfl (d8 rfl ?_)
 refine yN ?_
 dsimp only [St.put]
 refine K1 _ ?_
 refine yS fun _ K2 => ?_
 refine yR ?_
 try dsimp only [St.put]
 refine af rfl (cb (rows := ([mf, i2, xIs, mg] : List ByteArray).map cells) rfl rfl rfl (by decide) (by decide) (lg _) (by decide) ?_)
 try dsimp only [St.put]
 refine af rfl (cb (rows := ([mg, mf, i2] : List ByteArray).map cells) rfl rfl rfl (by decide) (by decide) (lg _) (by decide) ?_)
 try dsimp only [St.put]
 refine af rfl (cb (rows := ([[mf, i2, xIs, mg], [mg, mf, i2]] : List (List ByteArray)).map cells) rfl rfl rfl (by decide) (by decide) (lg _) (by decide) ?_)
 refine aa rfl (ie (cs := cells (⟨7, [[mf, i2, xIs, mg], [mg, mf, i2]]⟩ : ba)) rfl rfl) ?_
 try dsimp only [St.put]
 refine af rfl (cb (rows := ([i2, rn, i2] : List ByteArray).map cells) rfl rfl rfl (by decide) (by decide) (lg _) (by decide) ?_)
 try dsimp only [St.put]
 refine af rfl (cb (rows := ([[i2, rn, i2]] : List (List ByteArray)).map cells) rfl rfl rfl (by decide) (by decide) (lg _) (by decide) ?_)
 refine aa rfl (ie (cs := cells (⟨3, [[i2, rn, i2]]⟩ : ba)) rfl rfl) ?_
 try dsimp only [St.put]
 refine af rfl (cb (rows := ([⟨7, [[mf, i2, xIs, mg], [mg, mf, i2]]⟩, ⟨3, [[i2, rn, i2]]⟩] : List ba).map cells) rfl rfl rfl (by decide) (by decide) (lg _) (by decide) ?_)
 refine aa rfl (ie (cs := [lst exTx]) rfl rfl) ?_
 refine aa rfl (ie (cs := cells (⟨1, 50⟩ : bu)) rfl rfl) ?_
 refine aa rfl (ie (cs := cells (⟨2, 0⟩ : bu)) rfl rfl) ?_
 try dsimp only [St.put]
 refine af rfl (cb (rows := ([⟨1, 50⟩, ⟨2, 0⟩] : List bu).map cells) rfl rfl rfl (by decide) (by decide) (lg _) (by decide) ?_)
 refine aa rfl (ie (cs := cells (⟨3, 60⟩ : bu)) rfl rfl) ?_
 try dsimp only [St.put]
 refine af rfl (cb (rows := ([⟨3, 60⟩] : List bu).map cells) rfl rfl rfl (by decide) (by decide) (lg _) (by decide) ?_)
 try dsimp only [St.put]
 refine af rfl (bd rfl rfl rfl (p3 _ _ _) ?_)
 try dsimp only [St.put]
 refine af rfl (cb (rows := ([⟨0, 0, 0⟩] : List PlaceD).map cells) rfl rfl rfl (by decide) (by decide) (lg _) (by decide) ?_)
 try dsimp only [St.put]
 refine af rfl (bd rfl rfl rfl (s9 [⟨0, 0, 0⟩]) ?_)
 try dsimp only [St.put]
 refine af rfl (bd rfl rfl rfl (p3 _ _ _) ?_)
 try dsimp only [St.put]
 refine af rfl (bd rfl rfl rfl (p3 _ _ _) ?_)
 try dsimp only [St.put]
 refine af rfl (cb (rows := ([⟨0, 0, 0⟩, ⟨0, 0, 3⟩] : List PlaceD).map cells) rfl rfl rfl (by decide) (by decide) (lg _) (by decide) ?_)
 try dsimp only [St.put]
 refine af rfl (bd rfl rfl rfl (s9 [⟨0, 0, 0⟩, ⟨0, 0, 3⟩]) ?_)
 refine aa rfl (ie (cs := cells (⟨0, 0, 0, 0, [⟨0, 0, 0⟩], [⟨0, 0, 0⟩, ⟨0, 0, 3⟩]⟩ : am)) rfl rfl) ?_
 try dsimp only [St.put]
 refine af rfl (bd rfl rfl rfl (p3 _ _ _) ?_)
 try dsimp only [St.put]
 refine af rfl (cb (rows := ([⟨0, 1, 1⟩] : List PlaceD).map cells) rfl rfl rfl (by decide) (by decide) (lg _) (by decide) ?_)
 try dsimp only [St.put]
 refine af rfl (bd rfl rfl rfl (s9 [⟨0, 1, 1⟩]) ?_)
 refine aa rfl (ie (cs := [.v (.int .i64 1), .v (.int .i64 2), .v (.int .i64 0), .v (.int .i64 (-1)), lst ([⟨0, 1, 1⟩] : List PlaceD), .list [] .nil]) rfl rfl) ?_
 try dsimp only [St.put]
 refine af rfl (e_wk 26 (val (⟨1, 2, 0, -1, [⟨0, 1, 1⟩], []⟩ : am)) rfl (by show Wk _ (.agg _); exact zW) ?_)
 dsimp only
 refine cb (rows := ([⟨0, 0, 0, 0, [⟨0, 0, 0⟩], [⟨0, 0, 0⟩, ⟨0, 0, 3⟩]⟩, ⟨1, 2, 0, -1, [⟨0, 1, 1⟩], []⟩] : List am).map cells) rfl rfl rfl (by decide) (by decide) (lg _) (by decide) ?_
 refine aa rfl (ie (cs := [lst exTx, lst exPr.firsts, lst exPr.seconds, lst exPr.pages]) rfl rfl) ?_
 try dsimp only [St.put]
 refine af rfl (dc rfl rfl rfl zG rfl rfl (by rfl) ?_)
 refine yN ?_
 dsimp only [St.put]
 refine K2 _ ?_
 refine ax ?_
 refine pf rfl (j0 rfl zG (by rfl) zC rfl) zN zS ?_
 exact zW
theorem ulc (n : Nat) (b : Bool) (r want : Int) : fa n e8 Tryz.prog 69 [.v (.bool b), .v (.int .i64 r), .v (.int .i64 want)] (.v (.bool (decide (j7 exPr b r = 0) && decide (n8 exPr b r = want)))) := fun G nx hF hnx => by
 refine il (G) (nx) Tryz.func69 rfl (.v) zN (fun hlt => zH) ?_
 simp only [Tryz.ntmps69, List.length_cons, List.length_nil, Nat.reduceAdd, Nat.reduceSub]
 refine bx fun hlt => ?_
 dsimp only at hlt
 refine yS fun _ K1 => ?_
 refine yR ?_
 refine yA rfl rfl ?_
 refine yN ?_
 dsimp only [St.put]
 refine K1 _ ?_
 refine yS fun _ K2 => ?_
 refine yR ?_
 try dsimp only [St.put]
 refine af rfl (bd rfl rfl rfl (my) ?_)
 refine yM rfl rfl ?_
 refine yM rfl rfl ?_
 try dsimp only [St.put]
 refine af rfl (ed rfl rfl rfl (uje n exPr b r) zG (by dsimp only [St.put]; omega) ?_)
 refine yM rfl rfl ?_
 refine yX rfl rfl rfl rfl ?_
 refine yX rfl rfl rfl rfl ?_
 refine yA rfl rfl ?_
 refine yA rfl rfl ?_
 refine yN ?_
 dsimp only [St.put]
 refine K2 _ ?_
 refine yS fun _ K3 => ?_
 refine yR ?_
 refine yM rfl rfl ?_
 refine aa rfl (fh rfl rfl rfl) ?_
 refine eo (fun hs => ?_) (fun hs => ?_)
 ·have h1 : decide (j7 exPr b r = 0) = true := hs
  refine yM rfl rfl ?_
  refine yM rfl rfl ?_
  refine yM rfl rfl ?_
  refine aa rfl (fh rfl rfl rfl) ?_
  refine aa rfl (b9 rfl rfl (by constructor)) ?_
  refine yA rfl rfl ?_
  refine yN ?_
  dsimp only [St.put]
  refine K3 _ ?_
  refine ax ?_
  refine bf rfl (by constructor) zN zS ?_
  exact vb (by rw [h1]; rfl)
 have h1 : decide (j7 exPr b r = 0) = false := hs
 refine yM rfl rfl ?_
 refine yK rfl ?_
 refine yK rfl ?_
 refine yK rfl ?_
 refine aa rfl (co rfl rfl (by constructor)) ?_
 refine yA rfl rfl ?_
 refine yN ?_
 dsimp only [St.put]
 refine K3 _ ?_
 refine ax ?_
 refine bf rfl (by constructor) zN zS ?_
 exact vb (by rw [h1]; rfl)
theorem ulb (n : Nat) (m : Int) (want : List Int) : fa n e8 Tryz.prog 70 [.v (.int .i64 m), lst want] (.v (.bool (decide (i6 exPr m = 0) && decide (j3 exPr m = want)))) := fun G nx hF hnx => by
 refine il (G) (nx) Tryz.func70 rfl (.v) zN (fun hlt => zH) ?_
 simp only [Tryz.ntmps70, List.length_cons, List.length_nil, Nat.reduceAdd, Nat.reduceSub]
 refine bx fun hlt => ?_
 dsimp only at hlt
 have hcl : (j3 exPr m).length ≤ 1000 := by
  unfold j3 atE
  cases decide (i6 exPr m = 0)
  ·exact Nat.zero_le _
  have := ueo (ti exPr m) exPr.pages.length
  have e : exPr.pages.length = 2 := rfl
  show (m7 (ti exPr m) exPr.pages.length).length ≤ 1000
  omega
 refine yS fun _ K1 => ?_
 refine yR ?_
 refine yA rfl rfl ?_
 refine yN ?_
 dsimp only [St.put]
 refine K1 _ ?_
 refine yS fun _ K2 => ?_
 refine yR ?_
 try dsimp only [St.put]
 refine af rfl (bd rfl rfl rfl (my) ?_)
 refine yM rfl rfl ?_
 try dsimp only [St.put]
 refine af rfl (ed rfl rfl rfl (ujc n exPr m) zG (by dsimp only [St.put]; omega) ?_)
 refine yM rfl rfl ?_
 refine yX rfl rfl rfl rfl ?_
 refine yX rfl rfl rfl rfl ?_
 refine yA rfl rfl ?_
 refine yA rfl rfl ?_
 refine yN ?_
 dsimp only [St.put]
 refine K2 _ ?_
 refine yS fun _ K3 => ?_
 refine yR ?_
 refine yM rfl rfl ?_
 refine aa rfl (fh rfl rfl rfl) ?_
 refine eo (fun hs => ?_) (fun hs => ?_)
 ·have h1 : decide (i6 exPr m = 0) = true := hs
  refine yM rfl rfl ?_
  refine yM rfl rfl ?_
  refine yM rfl rfl ?_
  try dsimp only [St.put]
  refine af rfl (bd rfl rfl rfl (ubb (j3 exPr m) want hcl) ?_)
  refine aa rfl (b9 rfl rfl (by constructor)) ?_
  refine yA rfl rfl ?_
  refine yN ?_
  dsimp only [St.put]
  refine K3 _ ?_
  refine ax ?_
  refine bf rfl (by constructor) zN zS ?_
  exact vb (by rw [h1]; rfl)
 have h1 : decide (i6 exPr m = 0) = false := hs
 refine yM rfl rfl ?_
 refine yK rfl ?_
 refine yK rfl ?_
 refine yK rfl ?_
 refine aa rfl (co rfl rfl (by constructor)) ?_
 refine yA rfl rfl ?_
 refine yN ?_
 dsimp only [St.put]
 refine K3 _ ?_
 refine ax ?_
 refine bf rfl (by constructor) zN zS ?_
 exact vb (by rw [h1]; rfl)
theorem unq (n : Nat) : fa n e8 Tryz.prog 62 [val exPr, .v (.int .i64 1)] (.tup [.v (.int .i64 6), .v (.int .i64 0)]) := by
 have := ui0 n exPr 1
 rwa [xp_words.1, xp_words.2.1] at this
theorem unv (n : Nat) : fa n e8 Tryz.prog 64 [val exPr, .v (.int .i64 0)] (.tup [lst ([⟨0, 0, 0⟩, ⟨0, 0, 3⟩] : List PlaceD), .v (.int .i64 0)]) := by
 have := ubq n exPr 0
 rwa [xp_found.1, xp_words.2.2.2] at this
theorem uny (n : Nat) : fa n e8 Tryz.prog 65 [val exPr, .v (.int .i64 0)] (.tup [lst ([⟨0, 0, 0⟩] : List PlaceD), .v (.int .i64 0)]) := by
 have := ujf n exPr 0
 rwa [xp_found.2, xp_words.2.2.2] at this
theorem unu (n : Nat) : fa n e8 Tryz.prog 66 [val exPr, .v (.int .i64 0)] (.tup [val (⟨2, 2⟩ : bq), .v (.int .i64 0)]) := by
 have := ujb n exPr 0
 rwa [xp_guess.1, xp_guess.2] at this
theorem uns (n : Nat) : fa n e8 Tryz.prog 11 [val exPr, .v (.int .i64 1)] (.tup [val (⟨0, 1⟩ : bq), .v (.int .i64 0)]) := by
 have := ubm n exPr 1
 rwa [xp_remain.1, xp_remain.2.1] at this
theorem unr (n : Nat) : fa n e8 Tryz.prog 13 [val exPr] (.tup [val (⟨0, 1⟩ : bq), .v (.int .i64 0)]) := by
 have := xj n exPr
 rwa [ufm, tx] at this
theorem unp (n : Nat) : fa n e8 Tryz.prog 15 [val exPr] (.tup [lst ([1, 0] : List Int), .v (.int .i64 0)]) := by
 have := xh n exPr
 rwa [ufl, tx] at this
theorem alWhy (n : Nat) : fa n e8 Tryz.prog 17 [val exPr] (.tup [lst ([0] : List Int), lst ([] : List Int), .v (.int .i64 0)]) := by
 have := ui3 n exPr
 rwa [tx, pj, pj, xp_why.1, xp_why.2] at this
theorem unx (n : Nat) : fa n e8 Tryz.prog 69 [.v (.bool false), .v (.int .i64 0), .v (.int .i64 4)] (.v (.bool true)) := by
 have := ulc n false 0 4
 rwa [xp_bound.1, xp_bound.2.1] at this
theorem unw (n : Nat) : fa n e8 Tryz.prog 70 [.v (.int .i64 0), lst ([0, 1] : List Int)] (.v (.bool true)) := by
 have := ulb n 0 [0, 1]
 rwa [xp_chief.1, xp_chief.2.1] at this
set_option maxHeartbeats 4000000 in
theorem uno (n : Nat) : fa n e8 Tryz.prog 21 [] (.v (.bool true)) := fun G nx hF hnx => by
 refine il (G) (nx) Tryz.func21 rfl (.v) zN (fun hlt => zH) ?_
 simp only [Tryz.ntmps21, List.length_cons, List.length_nil, Nat.reduceAdd, Nat.reduceSub]
 refine bx fun hlt => ?_
 dsimp only at hlt
 refine yS fun _ K1 => ?_
 refine yR ?_
 refine yA rfl rfl ?_
 refine yN ?_
 dsimp only [St.put]
 refine K1 _ ?_
 refine yS fun _ K2 => ?_
 refine yR ?_
 try dsimp only [St.put]
 refine af rfl (bd rfl rfl rfl (my) ?_)
 try dsimp only [St.put]
 refine af rfl ((ed rfl rfl rfl ((unq n)) zG (by dsimp only [St.put]; omega) ?_))
 refine yM rfl rfl ?_
 refine yX rfl rfl rfl rfl ?_
 refine yX rfl rfl rfl rfl ?_
 refine yA rfl rfl ?_
 refine yA rfl rfl ?_
 refine yN ?_
 dsimp only [St.put]
 refine K2 _ ?_
 refine yS fun _ K3 => ?_
 refine yR ?_
 try dsimp only [St.put]
 refine af rfl (bd rfl rfl rfl (my) ?_)
 try dsimp only [St.put]
 refine af rfl ((ed rfl rfl rfl ((unv n)) zG (by dsimp only [St.put]; omega) ?_))
 refine yM rfl rfl ?_
 refine yX rfl rfl rfl rfl ?_
 refine yX rfl rfl rfl rfl ?_
 refine yA rfl rfl ?_
 refine yA rfl rfl ?_
 refine yN ?_
 dsimp only [St.put]
 refine K3 _ ?_
 refine yS fun _ K4 => ?_
 refine yR ?_
 try dsimp only [St.put]
 refine af rfl (bd rfl rfl rfl (my) ?_)
 try dsimp only [St.put]
 refine af rfl ((ed rfl rfl rfl ((uny n)) zG (by dsimp only [St.put]; omega) ?_))
 refine yM rfl rfl ?_
 refine yX rfl rfl rfl rfl ?_
 refine yX rfl rfl rfl rfl ?_
 refine yA rfl rfl ?_
 refine yA rfl rfl ?_
 refine yN ?_
 dsimp only [St.put]
 refine K4 _ ?_
 refine yS fun _ K5 => ?_
 refine yR ?_
 try dsimp only [St.put]
 refine af rfl (bd rfl rfl rfl (my) ?_)
 try dsimp only [St.put]
 refine af rfl ((ed rfl rfl rfl ((unu n)) zG (by dsimp only [St.put]; omega) ?_))
 refine yM rfl rfl ?_
 refine yX rfl rfl rfl rfl ?_
 refine yX rfl rfl rfl rfl ?_
 try dsimp only [St.put]
 refine af rfl (d8 rfl ?_)
 try dsimp only [St.put]
 refine af rfl (dc rfl rfl rfl zG rfl rfl (by rfl) ?_)
 refine yA rfl rfl ?_
 refine yN ?_
 dsimp only [St.put]
 refine K5 _ ?_
 refine f7 (i := 7) rfl zG zC ?_
 dsimp only
 refine yS fun _ K6 => ?_
 refine yR ?_
 try dsimp only [St.put]
 refine af rfl (bd rfl rfl rfl (my) ?_)
 try dsimp only [St.put]
 refine af rfl ((ed rfl rfl rfl ((uns n)) zG (by dsimp only [St.put]; omega) ?_))
 refine yM rfl rfl ?_
 refine yX rfl rfl rfl rfl ?_
 refine yX rfl rfl rfl rfl ?_
 try dsimp only [St.put]
 refine af rfl (d8 rfl ?_)
 try dsimp only [St.put]
 refine af rfl (dc rfl rfl rfl zG rfl rfl (by rfl) ?_)
 refine yA rfl rfl ?_
 refine yN ?_
 dsimp only [St.put]
 refine K6 _ ?_
 refine f7 (i := 9) rfl zG zC ?_
 dsimp only
 refine yS fun _ K7 => ?_
 refine yR ?_
 try dsimp only [St.put]
 refine af rfl (bd rfl rfl rfl (my) ?_)
 try dsimp only [St.put]
 refine af rfl ((ed rfl rfl rfl ((unr n)) zG (by dsimp only [St.put]; omega) ?_))
 refine yM rfl rfl ?_
 refine yX rfl rfl rfl rfl ?_
 refine yX rfl rfl rfl rfl ?_
 try dsimp only [St.put]
 refine af rfl (d8 rfl ?_)
 try dsimp only [St.put]
 refine af rfl (dc rfl rfl rfl zG rfl rfl (by rfl) ?_)
 refine yA rfl rfl ?_
 refine yN ?_
 dsimp only [St.put]
 refine K7 _ ?_
 refine f7 (i := 11) rfl zG zC ?_
 dsimp only
 refine yS fun _ K8 => ?_
 refine yR ?_
 try dsimp only [St.put]
 refine af rfl (bd rfl rfl rfl (my) ?_)
 try dsimp only [St.put]
 refine af rfl ((ed rfl rfl rfl ((unp n)) zG (by dsimp only [St.put]; omega) ?_))
 refine yM rfl rfl ?_
 refine yX rfl rfl rfl rfl ?_
 refine yX rfl rfl rfl rfl ?_
 refine yA rfl rfl ?_
 refine yA rfl rfl ?_
 refine yN ?_
 dsimp only [St.put]
 refine K8 _ ?_
 refine yS fun _ K9 => ?_
 refine yR ?_
 try dsimp only [St.put]
 refine af rfl (bd rfl rfl rfl (my) ?_)
 try dsimp only [St.put]
 refine af rfl ((ed rfl rfl rfl ((alWhy n)) zG (by dsimp only [St.put]; omega) ?_))
 refine yM rfl rfl ?_
 refine yX rfl rfl rfl rfl ?_
 refine yX rfl rfl rfl rfl ?_
 refine yX rfl rfl rfl rfl ?_
 refine yA rfl rfl ?_
 refine yA rfl rfl ?_
 refine yA rfl rfl ?_
 refine yN ?_
 dsimp only [St.put]
 refine K9 _ ?_
 refine yS fun _ K10 => ?_
 refine cr 18 ?_
 refine zQ ?_
 refine c6 G zX ?_
 dsimp only
 refine yR ?_
 refine yM rfl rfl ?_
 refine aa rfl (eh (fh rfl rfl rfl) (decide_eq_true (by omega))) ?_
 refine yM rfl rfl ?_
 refine yM rfl rfl ?_
 ((first | refine aa rfl ((eh (c := true) (fh rfl rfl rfl) (decide_eq_true rfl))) ?_ | refine ae rfl rfl rfl rfl ((eh (c := true) (fh rfl rfl rfl) (decide_eq_true rfl))) ?_ | refine eb rfl rfl rfl rfl ((eh (c := true) (fh rfl rfl rfl) (decide_eq_true rfl))) ?_ | refine tp rfl rfl rfl ((eh (c := true) (fh rfl rfl rfl) (decide_eq_true rfl))) ?_))
 refine aa rfl (b9 rfl rfl (by constructor)) ?_
 refine yM rfl rfl ?_
 refine yM rfl rfl ?_
 refine aa rfl (eh (fh rfl rfl rfl) (decide_eq_true (by omega))) ?_
 refine aa rfl (b9 rfl rfl (by constructor)) ?_
 refine yM rfl rfl ?_
 refine yM rfl rfl ?_
 try dsimp only [St.put]
 refine af rfl (bd rfl rfl rfl (p3 _ _ _) ?_)
 try dsimp only [St.put]
 refine af rfl (bd rfl rfl rfl (p3 _ _ _) ?_)
 try dsimp only [St.put]
 refine af rfl (cb rfl rfl rfl (by decide) (by decide) zR (by decide) ?_)
 try dsimp only [St.put]
 refine af rfl (bd rfl rfl rfl (s9 [⟨0, 0, 0⟩, ⟨0, 0, 3⟩]) ?_)
 try dsimp only [St.put]
 refine af rfl (bd rfl rfl rfl (ucx [⟨0, 0, 0⟩, ⟨0, 0, 3⟩]) ?_)
 refine aa rfl (b9 rfl rfl (by constructor)) ?_
 refine yM rfl rfl ?_
 refine yM rfl rfl ?_
 refine aa rfl (eh (fh rfl rfl rfl) (decide_eq_true (by omega))) ?_
 refine aa rfl (b9 rfl rfl (by constructor)) ?_
 refine yM rfl rfl ?_
 refine yM rfl rfl ?_
 try dsimp only [St.put]
 refine af rfl (bd rfl rfl rfl (p3 _ _ _) ?_)
 try dsimp only [St.put]
 refine af rfl (cb rfl rfl rfl (by decide) (by decide) zR (by decide) ?_)
 try dsimp only [St.put]
 refine af rfl (bd rfl rfl rfl (s9 [⟨0, 0, 0⟩]) ?_)
 try dsimp only [St.put]
 refine af rfl (bd rfl rfl rfl (ucx [⟨0, 0, 0⟩]) ?_)
 refine aa rfl (b9 rfl rfl (by constructor)) ?_
 refine yM rfl rfl ?_
 try dsimp only [St.put]
 refine af rfl ((ed rfl rfl rfl ((unx n)) zG (by dsimp only [St.put]; omega) ?_))
 refine aa rfl (b9 rfl rfl (by constructor)) ?_
 refine yM rfl rfl ?_
 refine yM rfl rfl ?_
 refine aa rfl (eh (fh rfl rfl rfl) (decide_eq_true (by omega))) ?_
 refine aa rfl (b9 rfl rfl (by constructor)) ?_
 refine yM rfl rfl ?_
 refine yE rfl rfl rfl ?_
 refine aa rfl (ie rfl rfl) ?_
 ((first | refine aa rfl ((eh (c := true) (kx (x := (⟨2, 2⟩ : bq)) (y := (⟨2, 2⟩ : bq)) rfl rfl rfl) (decide_eq_true rfl))) ?_ | refine ae rfl rfl rfl rfl ((eh (c := true) (kx (x := (⟨2, 2⟩ : bq)) (y := (⟨2, 2⟩ : bq)) rfl rfl rfl) (decide_eq_true rfl))) ?_ | refine eb rfl rfl rfl rfl ((eh (c := true) (kx (x := (⟨2, 2⟩ : bq)) (y := (⟨2, 2⟩ : bq)) rfl rfl rfl) (decide_eq_true rfl))) ?_ | refine tp rfl rfl rfl ((eh (c := true) (kx (x := (⟨2, 2⟩ : bq)) (y := (⟨2, 2⟩ : bq)) rfl rfl rfl) (decide_eq_true rfl))) ?_))
 refine aa rfl (b9 rfl rfl (by constructor)) ?_
 refine yM rfl rfl ?_
 refine yM rfl rfl ?_
 refine aa rfl (eh (fh rfl rfl rfl) (decide_eq_true (by omega))) ?_
 refine aa rfl (b9 rfl rfl (by constructor)) ?_
 refine yM rfl rfl ?_
 refine yE rfl rfl rfl ?_
 refine aa rfl (ie rfl rfl) ?_
 ((first | refine aa rfl ((eh (c := true) (kx (x := (⟨0, 1⟩ : bq)) (y := (⟨0, 1⟩ : bq)) rfl rfl rfl) (decide_eq_true rfl))) ?_ | refine ae rfl rfl rfl rfl ((eh (c := true) (kx (x := (⟨0, 1⟩ : bq)) (y := (⟨0, 1⟩ : bq)) rfl rfl rfl) (decide_eq_true rfl))) ?_ | refine eb rfl rfl rfl rfl ((eh (c := true) (kx (x := (⟨0, 1⟩ : bq)) (y := (⟨0, 1⟩ : bq)) rfl rfl rfl) (decide_eq_true rfl))) ?_ | refine tp rfl rfl rfl ((eh (c := true) (kx (x := (⟨0, 1⟩ : bq)) (y := (⟨0, 1⟩ : bq)) rfl rfl rfl) (decide_eq_true rfl))) ?_))
 refine aa rfl (b9 rfl rfl (by constructor)) ?_
 refine yM rfl rfl ?_
 refine yM rfl rfl ?_
 refine aa rfl (eh (fh rfl rfl rfl) (decide_eq_true (by omega))) ?_
 refine aa rfl (b9 rfl rfl (by constructor)) ?_
 refine yM rfl rfl ?_
 refine yE rfl rfl rfl ?_
 refine aa rfl (ie rfl rfl) ?_
 ((first | refine aa rfl ((eh (c := true) (kx (x := (⟨0, 1⟩ : bq)) (y := (⟨0, 1⟩ : bq)) rfl rfl rfl) (decide_eq_true rfl))) ?_ | refine ae rfl rfl rfl rfl ((eh (c := true) (kx (x := (⟨0, 1⟩ : bq)) (y := (⟨0, 1⟩ : bq)) rfl rfl rfl) (decide_eq_true rfl))) ?_ | refine eb rfl rfl rfl rfl ((eh (c := true) (kx (x := (⟨0, 1⟩ : bq)) (y := (⟨0, 1⟩ : bq)) rfl rfl rfl) (decide_eq_true rfl))) ?_ | refine tp rfl rfl rfl ((eh (c := true) (kx (x := (⟨0, 1⟩ : bq)) (y := (⟨0, 1⟩ : bq)) rfl rfl rfl) (decide_eq_true rfl))) ?_))
 refine aa rfl (b9 rfl rfl (by constructor)) ?_
 refine yM rfl rfl ?_
 refine yM rfl rfl ?_
 refine aa rfl (eh (fh rfl rfl rfl) (decide_eq_true (by omega))) ?_
 refine aa rfl (b9 rfl rfl (by constructor)) ?_
 refine yM rfl rfl ?_
 refine yM rfl rfl ?_
 try dsimp only [St.put]
 refine af rfl (cb rfl rfl rfl (by decide) (by decide) zR (by decide) ?_)
 try dsimp only [St.put]
 refine af rfl (bd rfl rfl rfl (ucy [1, 0] (by decide)) ?_)
 refine aa rfl (b9 rfl rfl (by constructor)) ?_
 refine yM rfl rfl ?_
 refine yM rfl rfl ?_
 refine aa rfl (eh (fh rfl rfl rfl) (decide_eq_true (by omega))) ?_
 refine aa rfl (b9 rfl rfl (by constructor)) ?_
 refine yM rfl rfl ?_
 refine yM rfl rfl ?_
 try dsimp only [St.put]
 refine af rfl (cb rfl rfl rfl (by decide) (by decide) zR (by decide) ?_)
 try dsimp only [St.put]
 refine af rfl (bd rfl rfl rfl (ucy [0] (by decide)) ?_)
 refine aa rfl (b9 rfl rfl (by constructor)) ?_
 refine yM rfl rfl ?_
 refine yM rfl rfl ?_
 refine aa rfl (bk rfl rfl (List.length_map _)) ?_
 ((first | refine aa rfl ((eh (c := true) (fh rfl rfl rfl) (decide_eq_true rfl))) ?_ | refine ae rfl rfl rfl rfl ((eh (c := true) (fh rfl rfl rfl) (decide_eq_true rfl))) ?_ | refine eb rfl rfl rfl rfl ((eh (c := true) (fh rfl rfl rfl) (decide_eq_true rfl))) ?_ | refine tp rfl rfl rfl ((eh (c := true) (fh rfl rfl rfl) (decide_eq_true rfl))) ?_))
 refine aa rfl (b9 rfl rfl (by constructor)) ?_
 refine yM rfl rfl ?_
 try dsimp only [St.put]
 refine af rfl (cb rfl rfl rfl (by decide) (by decide) zR (by decide) ?_)
 try dsimp only [St.put]
 refine af rfl ((ed rfl rfl rfl ((unw n)) zG (by dsimp only [St.put]; omega) ?_))
 refine aa rfl (b9 rfl rfl (by constructor)) ?_
 refine yA rfl rfl ?_
 refine yN ?_
 dsimp only [St.put]
 refine K10 _ ?_
 refine ax ?_
 refine bf rfl (by constructor) zN zS ?_
 rfl
theorem uk9 (p : ah) : Pure Tryz.prog 22 [val p] (.v (.bool (qm p))) := by
 refine cz Tryz.func22 rfl (fun m => .v) fun G nx => ?_
 simp only [Tryz.ntmps22, List.length_cons, List.length_nil, Nat.reduceAdd, Nat.reduceSub]
 refine bx fun hlt => ?_
 dsimp only at hlt
 refine yS fun _ K1 => ?_
 refine yR ?_
 try dsimp only [St.put]
 refine yB rfl rfl rfl ?_
 refine yA rfl rfl ?_
 refine yN ?_
 dsimp only [St.put]
 refine K1 _ ?_
 refine yS fun _ K2 => ?_
 refine yR ?_
 refine yE rfl rfl rfl ?_
 try dsimp only [St.put]
 refine af rfl (bd rfl rfl rfl (uiq p) ?_)
 refine aa rfl (dq rfl rfl) ?_
 refine yM rfl rfl ?_
 refine eo (fun hs => ?_) (fun hs => ?_)
 ·have h1 : n2 p = false := by simpa using hs
  refine yE rfl rfl rfl ?_
  try dsimp only [St.put]
  refine af rfl (bd rfl rfl rfl (uir p) ?_)
  refine aa rfl (fh rfl rfl rfl) ?_
  refine aa rfl (b9 rfl rfl (by constructor)) ?_
  refine yA rfl rfl ?_
  refine yN ?_
  dsimp only [St.put]
  refine K2 _ ?_
  refine ax ?_
  refine bf rfl (by constructor) zN zS ?_
  exact vb (by simp [qm, h1])
 have h1 : n2 p = true := by simpa using hs
 refine yK rfl ?_
 refine yK rfl ?_
 refine yK rfl ?_
 refine aa rfl (co rfl rfl (by constructor)) ?_
 refine yA rfl rfl ?_
 refine yN ?_
 dsimp only [St.put]
 refine K2 _ ?_
 refine ax ?_
 refine bf rfl (by constructor) zN zS ?_
 exact vb (by simp [qm, h1])
end Go.Proofs.YtbbdginipiljdaaGreatDoor
namespace Go.AB
open Go Go.RowKit
open Go.AB.Enc (cells)
open Go.PB (ba ai PlaceD bh bj bi bu am ah cy bq)
end Go.AB
namespace Go.AB
open Go Go.RowKit
open Go.AB.Enc (cells)
open Go.PB (ba ai PlaceD bh bj bi bu am ah cy bq dd dj)
theorem uj1 {P : Program} {o : Oper} {st : St} {xt yt : TypeId} {x y : Operand} {m n r : Int} (hr : m % n = r) (ho : o.op = .binOp .rem xt x y yt) (hx : evC st x = .v (.int .i64 m)) (hy : evC st y = .v (.int .i64 n)) (hm : 0 ≤ m ∧ m ≤ 9223372036854775807) (hn : 0 < n) : NStep P o st (.v (.int .i64 r)) := hr ▸ n_rem ho hx hy hm hn
theorem uiy {α : Type} {l : List α} {a : Int} (ha : 0 ≤ a) (h : l.length ≠ 0) : ∃ (i : Nat) (x : α), a % (l.length : Int) = (i : Int) ∧ l[i]? = some x := by
 have h2 := Int.emod_nonneg a (show (l.length : Int) ≠ 0 by omega)
 have h3 := Int.emod_lt_of_pos a (show (0 : Int) < (l.length : Int) by omega)
 have hlt : (a % (l.length : Int)).toNat < l.length := by omega
 exact ⟨_, l[(a % (l.length : Int)).toNat], by omega, List.getElem?_eq_getElem hlt⟩
section
variable {p : ah} {i : Nat} {x : am}
theorem zh (h : cx p = 0) (hx : p.pages[i]? = some x) : em p (i : Int) = 0 := by
 have := (List.getElem?_eq_some_iff.1 hx).1
 unfold em
 rw [decide_eq_true h, cond_true, inB_true.2 (by omega)]
 rfl
theorem uiz (hx : p.pages[i]? = some x) : ly p (i : Int) = x := by
 unfold ly
 rw [Int.toNat_natCast, hx]; rfl
end
end Go.AB
namespace Go.Proofs.YtbbdginipiljdaaGreatDoor
set_option maxRecDepth 10000
open Go Go.RowKit Go.AB
open Go.AB.Enc (cells)
open Go.PB (ba ai PlaceD bh bj bi bu am ah cy bq dd dj)
section
variable {p : ah} {i : Nat} {x : am}
theorem ula (n : Nat) (h : cx p = 0) (hx : p.pages[i]? = some x) : fa n e8 Tryz.prog 64 [val p, .v (.int .i64 (i : Int))] (.tup [lst (cp p.text x), .v (.int .i64 0)]) := by
 have := ubq n p (i : Int)
 rwa [zh h hx, show pd p (i : Int) = cp p.text x by unfold pd; rw [zh h hx, uiz hx]; rfl] at this
end
end Go.Proofs.YtbbdginipiljdaaGreatDoor
namespace Go.AB
open Go Go.RowKit
open Go.AB.Enc (cells)
open Go.PB (ba ai PlaceD bh bj bi bu am ah cy bq dd dj)
theorem uc2 (g : Nat → Int) : ∀ n, (bw n g).sum = sm n g
 | 0 => rfl
 | n + 1 => by rw [rt, List.sum_append, uc2 g n]; simp [sm]
theorem uad {l : List Int} {k : Nat} {z : Int} (h : l[k]? = some z) : (l.take (k + 1)).sum = (l.take k).sum + z := by
 rw [List.take_add_one, h, Option.toList_some, List.sum_append]; simp
theorem uae {l : List Int} {m : Int} (h0 : 0 ≤ m) (h : ∀ z ∈ l, -m ≤ z ∧ z ≤ m) : ∀ k, k ≤ l.length → -(k * m) ≤ (l.take k).sum ∧ (l.take k).sum ≤ k * m
 | 0, _ => by simp
 | k + 1, hk => by
  have ih := uae h0 h k (by omega)
  have e := List.getElem?_eq_getElem (show k < l.length by omega)
  have hz := h _ (List.mem_of_getElem? e)
  rw [uad e]
  have e2 : ((k + 1 : Nat) : Int) * m = (k : Int) * m + m := by rw [Int.natCast_add, Int.add_mul]; simp
  omega
theorem z8 {p : ah} (h : ei p) (j : Nat) : 0 ≤ ef p j ∧ ef p j ≤ 600 := by
 refine ⟨wj p j, ?_⟩
 have hq := lf h.text
 unfold ef mo
 cases p.pages[j]? with
 | none => show (0 : Int) ≤ 600; omega
 | some x => have := ra p.text x; show ((cp p.text x).length : Int) ≤ 600; omega
theorem ugt {n : Nat} {g : Nat → Int} {z : Int} (h : z ∈ bw n g) : ∃ i, i < n ∧ z = g i := by
 unfold bw at h
 obtain ⟨i, h1, h2⟩ := List.mem_map.1 h
 exact ⟨i, List.mem_range.1 h1, h2.symm⟩
theorem yo {n i : Nat} {g : Nat → Int} (h : i < n) : (di (bw n g))[i * 1]? = some (.v (.int .i64 (g i))) := udj (by rw [Nat.mul_one]; exact jg g h)
end Go.AB
namespace Go.Proofs.YtbbdginipiljdaaGreatDoor
set_option maxRecDepth 10000
open Go Go.RowKit Go.AB
open Go.AB.Enc (cells)
open Go.PB (ba ai PlaceD bh bj bi bu am ah cy bq dd dj)
theorem uk7 (l : List Int) (hl : l.length ≤ 100) (hb : ∀ z ∈ l, -1000000000 ≤ z ∧ z ≤ 1000000000) : Pure Tryz.prog 30 [lst l] (.v (.int .i64 l.sum)) := by
 refine cz Tryz.func30 rfl (fun m => .v) fun G nx => ?_
 simp only [Tryz.ntmps30, List.length_cons, List.length_nil, Nat.reduceAdd, Nat.reduceSub]
 refine bx fun hlt => ?_
 dsimp only at hlt
 refine yS fun _ K1 => ?_
 refine yR ?_
 refine yA rfl rfl ?_
 refine yN ?_
 dsimp only [St.put]
 refine K1 _ ?_
 refine yS fun _ K2 => ?_
 refine yR ?_
 refine yA rfl rfl ?_
 refine yN ?_
 dsimp only [St.put]
 refine K2 _ ?_
 refine yS fun _ K3 => ?_
 refine yS fun _ K4 => ?_
 refine yR ?_
 refine yM rfl rfl ?_
 refine aa rfl (bk rfl rfl (List.length_map _)) ?_
 refine yM rfl rfl ?_
 refine yN ?_
 dsimp only [St.put]
 refine K4 _ ?_
 refine bg ?_
 refine cr 9 ?_
 refine zQ ?_
 refine c6 (G) zX ?_
 dsimp only
 refine c9 (X := Nat) (fun k => k ≤ l.length) (fun k => l.length - k) (fun k => [(3, .v (.int .i64 (l.take k).sum)), (5, .any), (8, .v (.int .i64 (k : Int)))]) (fun k G' => G') 0 rfl ?_ ?_ (fun _ _ h => h) ?_ ?_ ?_
 ·exact Nat.zero_le _
 ·exact zF
 ·rintro k hI
  exact zL
 ·exact fun _ _ _ _ h => .inl h
 rintro k hI
 dsimp only at hI ⊢
 refine yS fun _ K5 => ?_
 refine yR ?_
 refine aa rfl (cv rfl rfl rfl) ?_
 refine yN ?_
 dsimp only [St.put]
 refine K5 _ ?_
 refine yS fun _ K6 => ?_
 refine aw rfl (fun hc => ?_) (fun hc => ?_)
 ·replace hc := of_decide_eq_true hc
  obtain ⟨z, hz⟩ : ∃ z, l[k]? = some z := da (by omega)
  have h1 := uae (m := 1000000000) (by omega) hb k (by omega)
  have h2 := hb z (f4 hz)
  refine az ?_
  refine K6 _ ?_
  refine yS fun _ K7 => ?_
  refine bg ?_
  refine yS fun _ K8 => ?_
  refine yR ?_
  refine aa rfl (bt rfl rfl rfl rfl (br (by assumption)) (Enc.len _)) ?_
  refine yL rfl rfl rfl ?_
  refine yA rfl rfl ?_
  refine yN ?_
  dsimp only [St.put]
  refine K8 _ ?_
  refine yR ?_
  refine yM rfl rfl ?_
  refine yM rfl rfl ?_
  refine aa rfl (bv rfl rfl rfl (by omega)) ?_
  refine yA rfl rfl ?_
  refine yN ?_
  dsimp only [St.put]
  refine K7 _ ?_
  refine yR ?_
  refine aa rfl (bv rfl rfl rfl (by omega)) ?_
  refine yM rfl rfl ?_
  refine yN ?_
  dsimp only [St.put]
  rw [← uad hz]
  exact ⟨k + 1, by omega, by omega, ⟨⟨rfl, rfl⟩, zF, zB, zN, zX⟩⟩
 replace hc := of_decide_eq_false hc
 refine c4 ?_
 refine K3 _ ?_
 refine yS fun _ K9 => ?_
 refine yR ?_
 refine yM rfl rfl ?_
 refine yA rfl rfl ?_
 refine yN ?_
 dsimp only [St.put]
 refine K9 _ ?_
 refine ax ?_
 refine bf rfl (by constructor) zN zS ?_
 exact vi (by rw [gl (show l.length ≤ k by omega)])
theorem ucz (n : Nat) (p : ah) (h : cx p = 0) : fa n e8 Tryz.prog 27 [val p] (.tup [lst (bw p.pages.length (ef p)), .v (.bool true)]) := fun G nx hF hnx => by
 refine il (G) (nx) Tryz.func27 rfl (.tup (cm (ca _ _) (cm .v dh))) zN (fun hlt => zH) ?_
 simp only [Tryz.ntmps27, List.length_cons, List.length_nil, Nat.reduceAdd, Nat.reduceSub]
 refine bx fun hlt => ?_
 dsimp only at hlt
 have hnp := (lm h).1.np
 refine yS fun _ K1 => ?_
 refine yR ?_
 try dsimp only [St.put]
 refine yB rfl rfl rfl ?_
 refine yA rfl rfl ?_
 refine yA rfl rfl ?_
 refine yN ?_
 dsimp only [St.put]
 refine K1 _ ?_
 refine yS fun _ K2 => ?_
 refine yR ?_
 refine yA rfl rfl ?_
 refine yN ?_
 dsimp only [St.put]
 refine K2 _ ?_
 refine m8 4 3 1 rfl (by decide) ?_
 dsimp only [List.set_cons_zero, List.set_cons_succ]
 refine yS fun _ K3 => ?_
 refine yS fun _ K4 => ?_
 refine yR ?_
 refine yF rfl rfl rfl rfl ?_
 refine yL rfl rfl rfl ?_
 refine aa rfl (bk rfl rfl (List.length_map _)) ?_
 refine yM rfl rfl ?_
 refine yN ?_
 dsimp only [St.put]
 refine K4 _ ?_
 refine bg ?_
 refine cr 12 ?_
 refine zQ ?_
 refine c6 ((aq G nx (.tip (bw 0 (ef p)).length 3 1))) zX ?_
 dsimp only
 refine c9 (X := Nat) (fun k => k ≤ p.pages.length) (fun k => p.pages.length - k) (fun k => [(4, .list ((bw k (ef p)).map cells) (.tip nx)), (5, .any), (6, .any), (7, .any), (11, .v (.int .i64 (k : Int)))]) (fun k G' => (aq G nx (.tip (bw k (ef p)).length 3 1))) 0 rfl ?_ ?_ ?_ ?_ ?_ ?_
 ·exact Nat.zero_le _
 ·exact zF
 ·exact zX
 ·rintro k hI
  exact zL
 ·rintro k hI
  exact zH
 rintro k hI
 dsimp only at hI ⊢
 refine yS fun _ K5 => ?_
 refine yR ?_
 refine aa rfl (cv rfl rfl rfl) ?_
 refine yN ?_
 dsimp only [St.put]
 refine K5 _ ?_
 refine yS fun _ K6 => ?_
 refine aw rfl (fun hc => ?_) (fun hc => ?_)
 ·replace hc := of_decide_eq_true hc
  obtain ⟨x, hx⟩ : ∃ x, p.pages[k]? = some x := da (by omega)
  have e := rt k (ef p)
  rw [show ef p k = ((cp p.text x).length : Int) from oz hx _] at e
  have hll := gm k (ef p)
  refine az ?_
  refine K6 _ ?_
  refine yS fun _ K7 => ?_
  refine bg ?_
  refine yS fun _ K8 => ?_
  refine yR ?_
  refine yM rfl rfl ?_
  refine yA rfl rfl ?_
  refine yN ?_
  dsimp only [St.put]
  refine K8 _ ?_
  refine yS fun _ K9 => ?_
  refine yR ?_
  refine yE rfl rfl rfl ?_
  refine yM rfl rfl ?_
  try dsimp only [St.put]
  refine af rfl ((ed rfl rfl rfl ((ula n h hx)) zG (by dsimp only [St.put]; omega) ?_))
  refine yM rfl rfl ?_
  refine yX rfl rfl rfl rfl ?_
  refine yX rfl rfl rfl rfl ?_
  refine yA rfl rfl ?_
  refine yA rfl rfl ?_
  refine yN ?_
  dsimp only [St.put]
  refine K9 _ ?_
  refine yS fun _ K10 => ?_
  refine yS fun _ K11 => ?_
  refine yR ?_
  refine yM rfl rfl ?_
  refine aa rfl (eh (c := false) (eu rfl rfl rfl) (nt rfl)) ?_
  refine yN ?_
  dsimp only [St.put]
  refine K11 _ ?_
  refine aw rfl (fun h => by cases h) (fun _ => ?_)
  refine az ?_
  refine K10 _ ?_
  refine yR ?_
  refine yM rfl rfl ?_
  refine yM rfl rfl ?_
  refine aa rfl (bk rfl rfl (List.length_map _)) ?_
  try dsimp only [St.put]
  refine af rfl (cb rfl rfl rfl (by decide) (by decide) zR (by decide) ?_)
  try dsimp only [St.put]
  refine af rfl (cg ([((cp p.text x).length : Int)]) rfl rfl zG zE rfl rfl zA ?_ zA)
  refine yA rfl rfl ?_
  refine yN ?_
  dsimp only [St.put]
  refine K7 _ ?_
  refine yR ?_
  refine aa rfl (bv rfl rfl rfl (by omega)) ?_
  refine yM rfl rfl ?_
  refine yN ?_
  dsimp only [St.put]
  rw [← e]
  exact ⟨k + 1, by omega, by omega, ⟨⟨rfl, rfl⟩, zF, zB, zN, zX⟩⟩
 replace hc := of_decide_eq_false hc
 obtain rfl : k = p.pages.length := by omega
 refine c4 ?_
 refine K3 _ ?_
 refine yS fun _ K12 => ?_
 refine yR ?_
 refine yM rfl rfl ?_
 refine yA rfl rfl ?_
 refine yA rfl rfl ?_
 refine yN ?_
 dsimp only [St.put]
 refine K12 _ ?_
 refine ax ?_
 refine g6 rfl (ec (by constructor)) (ec (by constructor)) zN zS ?_ ?_
 ·exact zW
 exact zW
theorem s7 (p : ah) (h : ei p) (es : List Int) (hl : es.length ≤ 100) {b : Bool} (hb : i7 p es = b) : Pure Tryz.prog 28 [val p, lst es] (.v (.bool b)) := hb ▸ uio p es h (by omega)
theorem uk6 (n : Nat) (p : ah) (h : fb p (cx p) = 0) : fa n e8 Tryz.prog 13 [val p] (.tup [val (⟨0, po p⟩ : bq), .v (.int .i64 0)]) := by
 have := xj n p
 rwa [h, show oo p = ⟨0, po p⟩ by unfold oo; rw [h]; rfl] at this
theorem uk5 (n : Nat) (p : ah) (h : fb p (cx p) = 0) : fa n e8 Tryz.prog 15 [val p] (.tup [lst (bw p.pages.length (fq p)), .v (.int .i64 0)]) := by
 have := xh n p
 rwa [h, show na p = bw p.pages.length (fq p) by unfold na; rw [h]; rfl] at this
theorem uk8 (n : Nat) (p : ah) (h : fb p (cx p) = 0) {i : Nat} {x : am} (hx : p.pages[i]? = some x) : fa n e8 Tryz.prog 11 [val p, .v (.int .i64 (i : Int))] (.tup [val (⟨0, (bp p).alone (cw p) (c5 p) i⟩ : bq), .v (.int .i64 0)]) := by
 have hC := (qw h).1
 have hA : fb p (em p (i : Int)) = 0 := by
  rw [hC] at h
  rw [zh hC hx]
  exact h
 have := ubm n p (i : Int)
 rwa [hA, show nl p (i : Int) = ⟨0, (bp p).alone (cw p) (c5 p) i⟩ by unfold nl; rw [hA, Int.toNat_natCast]; rfl] at this
end Go.Proofs.YtbbdginipiljdaaGreatDoor
namespace Go.AB
open Go Go.RowKit
open Go.AB.Enc (cells)
open Go.PB (ba ai PlaceD bh bj bi bu am ah cy bq dd dj)
/-- what is told, with what remains in the worst truth on the first pages -/
def iy (p : ah) (k j : Nat) : Int := ef p j + bif decide (j < k) then fq p j else 0
theorem zr (p : ah) : iy p 0 = ef p := by funext j; simp [iy]
theorem ufu (p : ah) (k : Nat) : (fun j => bif decide (j = k) then iy p k k + fq p k else iy p k j) = iy p (k + 1) := by
 funext j
 unfold iy
 by_cases e : j = k
 ·subst e
  rw [decide_eq_true rfl, cond_true, decide_eq_false (Nat.lt_irrefl j), decide_eq_true (Nat.lt_succ_self j)]
  simp
 rw [decide_eq_false e, cond_false]
 by_cases q : j < k
 ·rw [decide_eq_true q, decide_eq_true (show j < k + 1 by omega)]
 rw [decide_eq_false q, decide_eq_false (show ¬ j < k + 1 by omega)]
theorem ufv (p : ah) : bw p.pages.length (iy p p.pages.length) = bw p.pages.length fun j => ef p j + fq p j := ugv fun i hi => by unfold iy; rw [decide_eq_true hi]; rfl
/-- what is told, with so much more on one page -/
def jb (p : ah) (i : Nat) (v : Int) (j : Nat) : Int := ef p j + kp i v j
theorem ujo (p : ah) (i : Nat) : jb p i 0 = ef p := by
 funext j
 unfold jb kp
 cases decide (j = i) <;> simp
theorem uu (p : ah) (i : Nat) (v : Int) : jb p i v i = ef p i + v := by unfold jb kp; rw [decide_eq_true rfl]; rfl
theorem ubt (p : ah) (i : Nat) (v w : Int) : (fun j => bif decide (j = i) then jb p i v i + w else jb p i v j) = jb p i (v + w) := by
 funext j
 by_cases e : j = i
 ·subst e
  rw [decide_eq_true rfl, cond_true, uu, uu]
  omega
 unfold jb kp
 rw [decide_eq_false e]; rfl
end
section
variable {p : ah}
theorem ul3 (h : ei p) (ht : g8 p = true) : sm p.pages.length (fq p) = po p ∧ i7 p (bw p.pages.length (iy p p.pages.length)) = true := by
 refine ⟨Net.worst_sum (mr h) (ne ht) fun j _ => p7 h j, ?_⟩
 rw [ufv]
 exact (ub h (fq p)).2 (Net.worst_feas (mr h) (ne ht) fun j _ => p7 h j)
theorem ul2 (h : ei p) (ht : g8 p = true) {i : Nat} (hi : i < p.pages.length) : i7 p (bw p.pages.length (jb p i ((bp p).alone (cw p) (c5 p) i))) = true ∧ i7 p (bw p.pages.length (jb p i ((bp p).alone (cw p) (c5 p) i + 1))) = false ∧ fq p i ≤ (bp p).alone (cw p) (c5 p) i ∧ (bp p).alone (cw p) (c5 p) i ≤ po p ∧ 0 ≤ (bp p).alone (cw p) (c5 p) i := by
 have hC : ∀ j, j < (bp p).np → 0 ≤ c5 p j := fun j _ => p7 h j
 have h0 := Net.alone_nn (mr h) (i := i) hi (ne ht) hC
 refine ⟨(ub h _).2 (Net.feas_one_of (mr h) hi (ne ht) hC h0 (Int.le_refl _)), ?_, Net.feas_alone (mr h) (Net.worst_feas (mr h) (ne ht) hC) hi, Net.alone_most (mr h) hi (ne ht) hC, h0⟩
 rw [← Bool.not_eq_true]
 intro hq
 have := Net.feas_one_le (mr h) (i := i) hi ((ub h _).1 hq)
 omega
theorem zu (h : ei p) (ht : g8 p = true) {i : Nat} (hi : i < p.pages.length) : 0 ≤ fq p i ∧ fq p i ≤ 600 := by
 have h1 := ((Net.worst_feas (mr h) (ne ht) fun j _ => p7 h j).page i hi)
 have h2 := y9 h i
 exact ⟨h1.1, Int.le_trans h1.2 h2.2⟩
end
end Go.AB
namespace Go.Proofs.YtbbdginipiljdaaGreatDoor
set_option maxRecDepth 10000
open Go Go.RowKit Go.AB
open Go.AB.Enc (cells)
open Go.PB (ba ai PlaceD bh bj bi bu am ah cy bq dd dj)
set_option maxHeartbeats 4000000 in
theorem ul1 (p : ah) (a : Int) : fa 0 e8 Tryz.prog 5 [val p, .v (.int .u8 a)] (.v (.bool true)) := fun G nx hF hnx => by
 refine il (G) (nx) Tryz.func5 rfl (.v) zN (fun hlt => zH) ?_
 simp only [Tryz.ntmps5, List.length_cons, List.length_nil, Nat.reduceAdd, Nat.reduceSub]
 refine bx fun hlt => ?_
 dsimp only at hlt
 refine la 1 (fun hfa => ?_)
 replace hfa := uge hfa
 refine yS fun _ K1 => ?_
 refine yR ?_
 try dsimp only [St.put]
 refine yB rfl rfl rfl ?_
 refine yA rfl rfl ?_
 refine yN ?_
 dsimp only [St.put]
 refine K1 _ ?_
 refine yS fun _ K2 => ?_
 refine yR ?_
 try dsimp only [St.put]
 refine af rfl ((ed rfl rfl rfl ((uno 0)) zG (by dsimp only [St.put]; omega) ?_))
 refine yA rfl rfl ?_
 refine yN ?_
 dsimp only [St.put]
 refine K2 _ ?_
 refine yS fun _ K3 => ?_
 refine yS fun _ K4 => ?_
 refine yR ?_
 refine yE rfl rfl rfl ?_
 try dsimp only [St.put]
 refine af rfl (bd rfl rfl rfl (uk9 p) ?_)
 refine aa rfl (dq rfl rfl) ?_
 refine yM rfl rfl ?_
 refine eo (fun hs => ?_) (fun hs => ?_)
 ·skip
  refine yK rfl ?_
  refine yK rfl ?_
  refine aa rfl (b9 rfl rfl (by constructor)) ?_
  refine yN ?_
  dsimp only [St.put]
  refine K4 _ ?_
  refine aw rfl (fun _ => ?_) (fun h => by cases h)
  refine yS fun _ K5 => ?_
  refine yR ?_
  refine yM rfl rfl ?_
  refine yA rfl rfl ?_
  refine yN ?_
  dsimp only [St.put]
  refine K5 _ ?_
  refine ax ?_
  refine bf rfl (by constructor) zN zS ?_
  rfl
 have hrd : qm p = true := by simpa using hs
 have hC := (readyP_true.1 hrd).2
 obtain ⟨hok, _⟩ := lm hC
 have hnp := hok.np
 have htl := gm p.pages.length (ef p)
 have hwl := gm p.pages.length (fq p)
 have hL0 : fb p (cx p) = bif g8 p then 0 else 8 := by rw [hC, qv]
 refine yM rfl rfl ?_
 refine aa rfl (dq rfl rfl) ?_
 refine aa rfl (co rfl rfl (by constructor)) ?_
 refine yN ?_
 dsimp only [St.put]
 refine K4 _ ?_
 refine aw rfl (fun h => by cases h) (fun _ => ?_)
 refine az ?_
 refine K3 _ ?_
 refine yS fun _ K6 => ?_
 by_cases hT : g8 p = true
 ·have hL : fb p (cx p) = 0 := by rw [hL0, hT]; rfl
  obtain ⟨hws, hwt⟩ := ul3 hok hT
  have htt : i7 p (bw p.pages.length (ef p)) = true := by rw [z7 hok, hT]
  refine yR ?_
  refine yE rfl rfl rfl ?_
  try dsimp only [St.put]
  refine af rfl ((ed rfl rfl rfl ((uk6 0 p hL)) zG (by dsimp only [St.put]; omega) ?_))
  refine yM rfl rfl ?_
  refine yX rfl rfl rfl rfl ?_
  refine yX rfl rfl rfl rfl ?_
  try dsimp only [St.put]
  refine af rfl (d8 rfl ?_)
  try dsimp only [St.put]
  refine af rfl (dc rfl rfl rfl zG rfl rfl (by rfl) ?_)
  refine yA rfl rfl ?_
  refine yN ?_
  dsimp only [St.put]
  refine K6 _ ?_
  refine f7 (i := 6) rfl zG zC ?_
  dsimp only
  refine yS fun _ K7 => ?_
  refine yR ?_
  refine yE rfl rfl rfl ?_
  try dsimp only [St.put]
  refine af rfl ((ed rfl rfl rfl ((uk5 0 p hL)) zG (by dsimp only [St.put]; omega) ?_))
  refine yM rfl rfl ?_
  refine yX rfl rfl rfl rfl ?_
  refine yX rfl rfl rfl rfl ?_
  refine yA rfl rfl ?_
  refine yA rfl rfl ?_
  refine yN ?_
  dsimp only [St.put]
  refine K7 _ ?_
  refine yS fun _ K8 => ?_
  refine yR ?_
  refine yE rfl rfl rfl ?_
  try dsimp only [St.put]
  refine af rfl ((ed rfl rfl rfl ((ucz 0 p hC)) zG (by dsimp only [St.put]; omega) ?_))
  refine yM rfl rfl ?_
  refine yX rfl rfl rfl rfl ?_
  refine yX rfl rfl rfl rfl ?_
  refine yA rfl rfl ?_
  refine yA rfl rfl ?_
  refine yN ?_
  dsimp only [St.put]
  refine K8 _ ?_
  refine yS fun _ K9 => ?_
  refine yS fun _ K10 => ?_
  refine yR ?_
  refine yM rfl rfl ?_
  refine aa rfl (dq rfl rfl) ?_
  refine yM rfl rfl ?_
  refine yM rfl rfl ?_
  refine yM rfl rfl ?_
  refine aa rfl (eh (c := false) (eu rfl rfl rfl) (nt rfl)) ?_
  refine aa rfl (co rfl rfl (by constructor)) ?_
  refine yM rfl rfl ?_
  refine yM rfl rfl ?_
  refine aa rfl (eh (c := false) (eu rfl rfl rfl) (nt rfl)) ?_
  refine yM rfl rfl ?_
  refine yK rfl ?_
  refine yK rfl ?_
  refine aa rfl (co rfl rfl (by constructor)) ?_
  refine aa rfl (co rfl rfl (by constructor)) ?_
  refine yN ?_
  dsimp only [St.put]
  refine K10 _ ?_
  refine aw rfl (fun h => by cases h) (fun _ => ?_)
  refine az ?_
  refine K9 _ ?_
  refine yS fun _ K11 => ?_
  refine yS fun _ K12 => ?_
  refine yR ?_
  refine yM rfl rfl ?_
  refine aa rfl (eh (c := false) (eu rfl rfl rfl) (nt rfl)) ?_
  refine yN ?_
  dsimp only [St.put]
  refine K12 _ ?_
  refine aw rfl (fun h => by cases h) (fun _ => ?_)
  refine az ?_
  refine K11 _ ?_
  refine yS fun _ K13 => ?_
  refine yS fun _ K14 => ?_
  refine gj [(0, none), (1, none), (2, none), (3, none), (4, none), (5, none), (6, none), (7, none), (8, none), (9, none), (10, none), (11, none), (12, none), (14, none), (15, none), (13, none), (16, none), (17, none), (18, none), (20, none), (19, none), (21, none), (22, none), (23, none)] (fun i => [19, 21].contains i) (fun i => [13, 19, 21].contains i) (fun i => [0, 2, 3, 4, 5, 6, 8, 9, 10, 11, 12, 14, 16, 17, 18, 20, 22, 23].contains i) [] (by kernel_rfl) (by kernel_rfl) ?_
  refine ae rfl rfl rfl rfl (cn rfl rfl rfl) ?_
  try dsimp only [St.put]
  refine bc rfl rfl rfl rfl (cc rfl rfl) ?_
  refine ae rfl rfl rfl rfl (eh (c := false) (eu rfl rfl rfl) (nt rfl)) ?_
  refine xM rfl rfl rfl rfl rfl ?_
  refine xM rfl rfl rfl rfl rfl ?_
  refine ae rfl rfl rfl rfl (bk rfl rfl (List.length_map _)) ?_
  refine ae rfl rfl rfl rfl (cn rfl rfl rfl) ?_
  try dsimp only [St.put]
  refine bc rfl rfl rfl rfl (cc rfl rfl) ?_
  refine ae rfl rfl rfl rfl (bk rfl rfl (List.length_map _)) ?_
  refine ae rfl rfl rfl rfl (eh (c := false) (eu rfl rfl rfl) (nt (by rw [hwl]))) ?_
  refine ae rfl rfl rfl rfl (co rfl rfl (by constructor)) ?_
  refine xM rfl rfl rfl rfl rfl ?_
  refine xM rfl rfl rfl rfl rfl ?_
  refine ae rfl rfl rfl rfl (cn rfl rfl rfl) ?_
  try dsimp only [St.put]
  refine bc rfl rfl rfl rfl (cc rfl rfl) ?_
  refine ix ?_
  try dsimp only [St.put]
  refine je rfl rfl rfl (bd rfl rfl rfl (uk7 (bw p.pages.length (fq p)) (by omega) (fun z hz => by obtain ⟨i, hi, rfl⟩ := ugt hz; have := zu hok hT hi; omega)) ⟨zD, ?_⟩)
  refine eb rfl rfl rfl rfl (eh (c := false) (eu rfl rfl rfl) (nt (by rw [uc2]; exact hws))) ?_
  refine eb rfl rfl rfl rfl (co rfl rfl (by constructor)) ?_
  refine eb rfl rfl rfl rfl (gp rfl (by constructor)) ?_
  refine eb rfl rfl rfl rfl (gp rfl (by constructor)) ?_
  try dsimp only [St.put]
  refine gw rfl rfl rfl rfl (SStep.e' (D := fun _ => True) (eg rfl rfl (Enc.len _)) ?_)
  try dsimp only [St.put]
  refine gw rfl rfl rfl rfl (bd rfl rfl rfl (s7 p hok _ (by omega) htt) ?_)
  refine eb rfl rfl rfl rfl (dq rfl rfl) ?_
  refine eb rfl rfl rfl rfl (co rfl rfl (by constructor)) ?_
  refine iw ?_
  dsimp only [St.put]
  refine K14 _ ?_
  refine aw rfl (fun h => by cases h) (fun _ => ?_)
  refine az ?_
  refine K13 _ ?_
  refine yS fun _ K15 => ?_
  refine cr 20 ?_
  refine zQ ?_
  refine c6 G zX ?_
  dsimp only
  refine yR ?_
  try dsimp only [St.put]
  refine af rfl (ud9 rfl (by decide) ?_)
  refine yM rfl rfl ?_
  try dsimp only [St.put]
  refine af rfl (re (xs := ([] : List Int)) (bw p.pages.length (ef p)) rfl rfl zG rfl rfl rfl rfl zA zA (fun v1 => ?_))
  refine yA rfl rfl ?_
  refine yN ?_
  dsimp only [St.put]
  simp only [List.nil_append, htl]
  rw [show ef p = iy p 0 from (zr p).symm]
  refine K15 _ ?_
  refine yS fun _ K16 => ?_
  refine yS fun _ K17 => ?_
  refine yR ?_
  refine yM rfl rfl ?_
  refine aa rfl (bk rfl rfl (List.length_map _)) ?_
  refine yM rfl rfl ?_
  refine yN ?_
  dsimp only [St.put]
  refine K17 _ ?_
  refine bg ?_
  refine cr 98 ?_
  refine zQ ?_
  refine c6 ((aq G (nx + 1) (.arr v1 0 3 1 p.pages.length (di (bw p.pages.length (iy p 0)))))) zX ?_
  dsimp only
  refine c9 (X := Nat) (fun k => k ≤ p.pages.length) (fun k => p.pages.length - k) (fun k => [(13, .any), (14, .any), (97, .v (.int .i64 (k : Int)))]) (fun k G' => (aq G (nx + 1) (.arr v1 k 3 1 p.pages.length (di (bw p.pages.length (iy p k)))))) 0 rfl ?_ ?_ ?_ ?_ ?_ ?_
  ·exact Nat.zero_le _
  ·exact zF
  ·exact zX
  ·rintro k hI
   exact zL
  ·rintro k hI
   exact zH
  rintro k hI
  dsimp only at hI ⊢
  refine yS fun _ K18 => ?_
  refine yR ?_
  refine aa rfl (cv rfl rfl rfl) ?_
  refine yN ?_
  dsimp only [St.put]
  refine K18 _ ?_
  refine yS fun _ K19 => ?_
  refine aw rfl (fun hc => ?_) (fun hc => ?_)
  ·replace hc := of_decide_eq_true hc
   have hkl : k < p.pages.length := by omega
   have hgw := jg (fq p) hkl
   have hwb := zu hok hT hkl
   have htb := z8 hok k
   have hwk : iy p k k = ef p k := by unfold iy; rw [decide_eq_false (Nat.lt_irrefl k)]; simp
   refine az ?_
   refine K19 _ ?_
   refine yS fun _ K20 => ?_
   refine bg ?_
   refine yS fun _ K21 => ?_
   refine yR ?_
   refine yM rfl rfl ?_
   refine aa rfl (bt rfl rfl rfl rfl (br (by assumption)) (Enc.len _)) ?_
   refine yL rfl rfl rfl ?_
   refine yA rfl rfl ?_
   refine yA rfl rfl ?_
   refine yN ?_
   dsimp only [St.put]
   refine K21 _ ?_
   refine yR ?_
   refine yM rfl rfl ?_
   refine yM rfl rfl ?_
   try dsimp only [St.put]
   refine aa rfl (ms rfl rfl zG rfl rfl hkl) ?_
   try dsimp only [St.put]
   refine ci rfl (jv rfl rfl zG (by simp) (yo hkl)) ?_
   refine yM rfl rfl ?_
   refine aa rfl (bv rfl rfl rfl (by omega)) ?_
   try dsimp only [St.put]
   refine aa rfl (ms rfl rfl zG rfl rfl hkl) ?_
   try dsimp only [St.put]
   refine af rfl (rb (k := k) (j := 0) (z := iy p k k) (z' := iy p k k + fq p k) rfl rfl rfl zG rfl rfl (jg (iy p k) hkl) rfl (by decide) rfl ?_)
   refine yN ?_
   dsimp only [St.put]
   refine K20 _ ?_
   refine yR ?_
   refine aa rfl (bv rfl rfl rfl (by omega)) ?_
   refine yM rfl rfl ?_
   refine yN ?_
   dsimp only [St.put]
   rw [qh _ _ hkl, ufu]
   exact ⟨k + 1, by omega, by omega, ⟨⟨rfl, rfl⟩, zF, zB, zN, zX⟩⟩
  replace hc := of_decide_eq_false hc
  obtain rfl : k = p.pages.length := by omega
  refine c4 ?_
  refine K16 _ ?_
  refine yS fun _ K22 => ?_
  refine yS fun _ K23 => ?_
  refine yR ?_
  refine yE rfl rfl rfl ?_
  refine yM rfl rfl ?_
  try dsimp only [St.put]
  refine af rfl (yw (as' := [val p, lst (bw p.pages.length (iy p p.pages.length))]) rfl rfl rfl (s7 p hok _ (by rw [gm]; omega) hwt) ⟨.low (el _ _), .own _ zG rfl rfl (gm _ _).symm, trivial⟩ (yn _) ?_)
  refine aa rfl (dq rfl rfl) ?_
  refine yN ?_
  dsimp only [St.put]
  refine K23 _ ?_
  refine aw rfl (fun h => by cases h) (fun _ => ?_)
  refine az ?_
  refine K22 _ ?_
  refine yS fun _ K24 => ?_
  refine yS fun _ K25 => ?_
  refine yR ?_
  refine yF rfl rfl rfl rfl ?_
  refine yL rfl rfl rfl ?_
  refine aa rfl (bk rfl rfl (List.length_map _)) ?_
  refine aa rfl (fh rfl rfl rfl) ?_
  refine yN ?_
  dsimp only [St.put]
  refine K25 _ ?_
  refine aw rfl (fun hc => ?_) (fun hc => ?_)
  ·have hn0 : p.pages.length = 0 := by have := of_decide_eq_true hc; omega
   have ht0 : po p = 0 := by rw [← hws, hn0]; rfl
   refine yS fun _ K26 => ?_
   refine yR ?_
   refine yM rfl rfl ?_
   refine yM rfl rfl ?_
   refine yF rfl rfl rfl rfl ?_
   refine yL rfl rfl rfl ?_
   refine aa rfl (eh (c := true) (fh rfl rfl rfl) (decide_eq_true ht0)) ?_
   refine aa rfl (b9 rfl rfl (by constructor)) ?_
   refine yA rfl rfl ?_
   refine yN ?_
   dsimp only [St.put]
   refine K26 _ ?_
   refine ax ?_
   refine bf rfl (by constructor) zN zS ?_
   rfl
  have hne : p.pages.length ≠ 0 := by have := of_decide_eq_false hc; omega
  obtain ⟨i, x, hi, hx⟩ := uiy hfa.1 hne
  have hil := (List.getElem?_eq_some_iff.1 hx).1
  obtain ⟨o1, o2, o3, o4, o5⟩ := ul2 hok hT hil
  have hcb := y9 hok i
  have hac := (Net.le_alone.1 (Int.le_refl ((bp p).alone (cw p) (c5 p) i))).1
  have htb := z8 hok i
  have hgt := jg (ef p) hil
  have hgw := jg (fq p) hil
  obtain ⟨AL, hAL⟩ : ∃ AL, (bp p).alone (cw p) (c5 p) i = AL := ⟨_, rfl⟩
  have hRM := uk8 0 p hL hx
  rw [hAL] at o1 o2 o3 o4 o5 hac hRM
  have hw0 := gm p.pages.length (iy p 0)
  have hpt : (0 : Int) < (p.pages.length : Int) := by omega
  refine az ?_
  refine K24 _ ?_
  refine yS fun _ K27 => ?_
  refine yR ?_
  refine yM rfl rfl ?_
  refine aa rfl (uj9 rfl rfl rfl rfl (by omega)) ?_
  refine yF rfl rfl rfl rfl ?_
  refine yL rfl rfl rfl ?_
  refine aa rfl (bk rfl rfl (List.length_map _)) ?_
  refine aa rfl (uj1 hi rfl rfl rfl (by omega) (by omega)) ?_
  refine yA rfl rfl ?_
  refine yN ?_
  dsimp only [St.put]
  refine K27 _ ?_
  refine yS fun _ K28 => ?_
  refine yR ?_
  refine yE rfl rfl rfl ?_
  refine yM rfl rfl ?_
  try dsimp only [St.put]
  refine af rfl ((ed rfl rfl rfl (hRM) zG (by dsimp only [St.put]; omega) ?_))
  refine yM rfl rfl ?_
  refine yX rfl rfl rfl rfl ?_
  refine yX rfl rfl rfl rfl ?_
  try dsimp only [St.put]
  refine af rfl (d8 rfl ?_)
  try dsimp only [St.put]
  refine af rfl (dc rfl rfl rfl zG rfl rfl (by rfl) ?_)
  refine yA rfl rfl ?_
  refine yN ?_
  dsimp only [St.put]
  refine K28 _ ?_
  refine f7 (i := 16) rfl zG zC ?_
  dsimp only
  refine yS fun _ K29 => ?_
  refine cr 20 ?_
  refine zQ ?_
  refine c6 G zX ?_
  dsimp only
  refine yR ?_
  try dsimp only [St.put]
  refine af rfl (ud9 rfl (by decide) ?_)
  refine yM rfl rfl ?_
  try dsimp only [St.put]
  refine af rfl (re (xs := ([] : List Int)) (bw p.pages.length (iy p 0)) rfl rfl zG rfl rfl rfl rfl zA zA (fun v2 => ?_))
  refine yA rfl rfl ?_
  refine yN ?_
  dsimp only [St.put]
  simp only [List.nil_append, gm]
  rw [show iy p 0 = jb p i 0 from (zr p).trans (ujo p i).symm]
  refine K29 _ ?_
  refine yS fun _ K30 => ?_
  refine gj [(0, none), (1, none), (2, none), (3, none), (4, none), (5, none), (6, none), (7, none), (8, none)] (fun i => [8].contains i) (fun i => [8].contains i) (fun i => [0, 1, 2, 4, 6, 7].contains i) [nx + 1 + 1 + 1] (by kernel_rfl) (by kernel_rfl) ?_
  refine xM rfl rfl rfl rfl rfl ?_
  refine xM rfl rfl rfl rfl rfl ?_
  try dsimp only [St.put]
  refine ae rfl rfl rfl rfl (ms rfl rfl zG rfl rfl hil) ?_
  try dsimp only [St.put]
  refine bc rfl rfl rfl rfl (jv rfl rfl zG (by simp) (yo hil)) ?_
  refine ae rfl rfl rfl rfl (cn rfl rfl rfl) ?_
  try dsimp only [St.put]
  refine bc rfl rfl rfl rfl (cc rfl rfl) ?_
  refine ae rfl rfl rfl rfl (bv rfl rfl rfl (by rw [uu]; omega)) ?_
  try dsimp only [St.put]
  refine ae rfl rfl rfl rfl (ms rfl rfl zG rfl rfl hil) ?_
  refine ix ?_
  try dsimp only [St.put]
  refine gw rfl rfl rfl rfl (rb (k := i) (j := 0) (z := jb p i 0 i) (z' := jb p i 0 i + AL) rfl rfl rfl zG rfl rfl (jg (jb p i 0) hil) rfl (by decide) rfl ?_)
  refine iw ?_
  dsimp only [St.put]
  rw [qh _ _ hil, ubt, Int.zero_add]
  refine K30 _ ?_
  refine yS fun _ K31 => ?_
  refine yR ?_
  refine yE rfl rfl rfl ?_
  refine yM rfl rfl ?_
  try dsimp only [St.put]
  refine af rfl (yw (as' := [val p, lst (bw p.pages.length (jb p i AL))]) rfl rfl rfl (s7 p hok _ (by rw [gm]; omega) o1) ⟨.low (el _ _), .own _ zG rfl rfl (gm _ _).symm, trivial⟩ (yn _) ?_)
  refine yA rfl rfl ?_
  refine yN ?_
  dsimp only [St.put]
  refine K31 _ ?_
  refine yS fun _ K32 => ?_
  refine yR ?_
  refine yM rfl rfl ?_
  refine yM rfl rfl ?_
  try dsimp only [St.put]
  refine aa rfl (ms rfl rfl zG rfl rfl hil) ?_
  try dsimp only [St.put]
  refine ci rfl (jv rfl rfl zG (by simp) (yo hil)) ?_
  refine aa rfl (bv rfl rfl rfl (by rw [uu]; omega)) ?_
  try dsimp only [St.put]
  refine aa rfl (ms rfl rfl zG rfl rfl hil) ?_
  try dsimp only [St.put]
  refine af rfl (rb (k := i) (j := 0) (z := jb p i AL i) (z' := jb p i AL i + 1) rfl rfl rfl zG rfl rfl (jg (jb p i AL) hil) rfl (by decide) rfl ?_)
  refine yN ?_
  dsimp only [St.put]
  rw [qh _ _ hil, ubt]
  refine K32 _ ?_
  refine yS fun _ K33 => ?_
  refine qa [(0, none), (1, none), (2, none), (3, none), (4, none), (5, none), (6, none), (7, none), (8, none), (9, none), (10, none), (11, none), (12, none), (13, none), (14, none), (15, none)] (fun _ => false) (fun i => [0, 1, 2, 3, 4, 5, 6, 8, 9, 10, 11, 12, 13, 15].contains i) 20 (rl [16, 20]) (by kernel_rfl) (by kernel_rfl) ?_
  refine xM rfl rfl rfl rfl rfl ?_
  refine xM rfl rfl rfl rfl rfl ?_
  refine xM rfl rfl rfl rfl rfl ?_
  refine ae rfl rfl rfl rfl (eh (c := true) (fh rfl rfl rfl) (decide_eq_true rfl)) ?_
  refine ae rfl rfl rfl rfl (b9 rfl rfl (by constructor)) ?_
  refine xM rfl rfl rfl rfl rfl ?_
  refine ae rfl rfl rfl rfl (cn rfl rfl rfl) ?_
  try dsimp only [St.put]
  refine bc rfl rfl rfl rfl (cc rfl rfl) ?_
  refine ae rfl rfl rfl rfl (eh (c := true) (fh rfl rfl rfl) (decide_eq_true rfl)) ?_
  refine ae rfl rfl rfl rfl (b9 rfl rfl (by constructor)) ?_
  refine xM rfl rfl rfl rfl rfl ?_
  refine xM rfl rfl rfl rfl rfl ?_
  refine ae rfl rfl rfl rfl (b9 rfl rfl (by constructor)) ?_
  refine xM rfl rfl rfl rfl rfl ?_
  try dsimp only [St.put]
  refine bc rfl rfl rfl rfl (eg rfl rfl (Enc.len _)) ?_
  refine xM rfl rfl rfl rfl rfl ?_
  refine ay ?_
  refine d7 [16] (by kernel_rfl) (by simp) ?_
  refine dz ?_ ?_
  ·try dsimp only [St.put]
   refine iq rfl rfl rfl (yw (as' := [val p, lst (bw p.pages.length (jb p i (AL + 1)))]) rfl rfl rfl (s7 p hok _ (by rw [gm]; omega) o2) ⟨.low (el _ _), .own _ zG rfl rfl (gm _ _).symm, trivial⟩ (yn _) ?_)
   refine ep [(17, none), (18, none), (19, none), (20, none), (21, none), (22, none), (23, none), (24, none), (25, none), (26, none), (27, none), (28, none), (29, none), (30, none), (31, none), (32, none), (33, none), (34, none), (35, none)] (fun i => [17, 18, 19, 20, 21, 22, 24, 26, 27, 28, 29, 31, 33, 34, 35].contains i) 0 (rl [36]) (by kernel_rfl) ?_
   refine ae rfl rfl rfl rfl (dq rfl rfl) ?_
   refine ae rfl rfl rfl rfl (b9 rfl rfl (by constructor)) ?_
   refine xM rfl rfl rfl rfl rfl ?_
   refine xM rfl rfl rfl rfl rfl ?_
   refine xM rfl rfl rfl rfl rfl ?_
   try dsimp only [St.put]
   refine ae rfl rfl rfl rfl (bt rfl rfl rfl rfl (br (by assumption)) (Enc.len _)) ?_
   try dsimp only [St.put]
   refine bc rfl rfl rfl rfl (cc rfl rfl) ?_
   refine ae rfl rfl rfl rfl (cn rfl rfl rfl) ?_
   try dsimp only [St.put]
   refine bc rfl rfl rfl rfl (cc rfl rfl) ?_
   refine ae rfl rfl rfl rfl (eh (c := true) (pv rfl rfl rfl) (decide_eq_true o3)) ?_
   refine ae rfl rfl rfl rfl (b9 rfl rfl (by constructor)) ?_
   refine xM rfl rfl rfl rfl rfl ?_
   refine ae rfl rfl rfl rfl (cn rfl rfl rfl) ?_
   try dsimp only [St.put]
   refine bc rfl rfl rfl rfl (cc rfl rfl) ?_
   refine ae rfl rfl rfl rfl (cn rfl rfl rfl) ?_
   try dsimp only [St.put]
   refine bc rfl rfl rfl rfl (cc rfl rfl) ?_
   refine ae rfl rfl rfl rfl (eh (c := true) (pv rfl rfl rfl) (decide_eq_true o4)) ?_
   refine ae rfl rfl rfl rfl (b9 rfl rfl (by constructor)) ?_
   refine ae rfl rfl rfl rfl (fj rfl (by constructor)) ?_
   refine ay ?_
   dsimp only [St.put]
   refine ij (by kernel_rfl) ?_
   refine K33 _ ?_
   refine ax ?_
   refine bf rfl (by constructor) zN zS ?_
   rfl
  exact dx
 have hT0 : g8 p = false := by simpa using hT
 have hL : fb p (cx p) = 8 := by rw [hL0, hT0]; rfl
 have htt : i7 p (bw p.pages.length (ef p)) = false := by rw [z7 hok, hT0]
 refine yR ?_
 refine yE rfl rfl rfl ?_
 try dsimp only [St.put]
 refine af rfl ((ed rfl rfl rfl ((xj 0 p)) zG (by dsimp only [St.put]; omega) ?_))
 refine yM rfl rfl ?_
 refine yX rfl rfl rfl rfl ?_
 refine yX rfl rfl rfl rfl ?_
 try dsimp only [St.put]
 refine af rfl (d8 rfl ?_)
 try dsimp only [St.put]
 refine af rfl (dc rfl rfl rfl zG rfl rfl (by rfl) ?_)
 refine yA rfl rfl ?_
 refine yN ?_
 dsimp only [St.put]
 refine K6 _ ?_
 refine f7 (i := 6) rfl zG zC ?_
 dsimp only
 refine yS fun _ K34 => ?_
 refine yR ?_
 refine yE rfl rfl rfl ?_
 try dsimp only [St.put]
 refine af rfl ((ed rfl rfl rfl ((xh 0 p)) zG (by dsimp only [St.put]; omega) ?_))
 refine yM rfl rfl ?_
 refine yX rfl rfl rfl rfl ?_
 refine yX rfl rfl rfl rfl ?_
 refine yA rfl rfl ?_
 refine yA rfl rfl ?_
 refine yN ?_
 dsimp only [St.put]
 refine K34 _ ?_
 refine yS fun _ K35 => ?_
 refine yR ?_
 refine yE rfl rfl rfl ?_
 try dsimp only [St.put]
 refine af rfl ((ed rfl rfl rfl ((ucz 0 p hC)) zG (by dsimp only [St.put]; omega) ?_))
 refine yM rfl rfl ?_
 refine yX rfl rfl rfl rfl ?_
 refine yX rfl rfl rfl rfl ?_
 refine yA rfl rfl ?_
 refine yA rfl rfl ?_
 refine yN ?_
 dsimp only [St.put]
 refine K35 _ ?_
 refine yS fun _ K36 => ?_
 refine yS fun _ K37 => ?_
 refine yR ?_
 refine yM rfl rfl ?_
 refine aa rfl (dq rfl rfl) ?_
 refine yM rfl rfl ?_
 refine yM rfl rfl ?_
 refine yM rfl rfl ?_
 refine aa rfl (eh (c := false) (eu rfl rfl rfl) (nt rfl)) ?_
 refine aa rfl (co rfl rfl (by constructor)) ?_
 refine yM rfl rfl ?_
 refine yM rfl rfl ?_
 refine aa rfl (eh (c := true) (eu rfl rfl rfl) (by rw [hL]; rfl)) ?_
 refine yM rfl rfl ?_
 refine yM rfl rfl ?_
 refine aa rfl (eh (c := false) (eu rfl rfl rfl) (nt hL)) ?_
 refine aa rfl (b9 rfl rfl (by constructor)) ?_
 refine aa rfl (co rfl rfl (by constructor)) ?_
 refine yN ?_
 dsimp only [St.put]
 refine K37 _ ?_
 refine aw rfl (fun h => by cases h) (fun _ => ?_)
 refine az ?_
 refine K36 _ ?_
 refine yS fun _ K38 => ?_
 refine yS fun _ K39 => ?_
 refine yR ?_
 refine yM rfl rfl ?_
 refine aa rfl (eh (c := true) (eu rfl rfl rfl) (by rw [hL]; rfl)) ?_
 refine yN ?_
 dsimp only [St.put]
 refine K39 _ ?_
 refine aw rfl (fun _ => ?_) (fun h => by cases h)
 refine yS fun _ K40 => ?_
 refine yR ?_
 refine yM rfl rfl ?_
 refine yM rfl rfl ?_
 refine yE rfl rfl rfl ?_
 refine yM rfl rfl ?_
 try dsimp only [St.put]
 refine af rfl (bd rfl rfl rfl (s7 p hok _ (by omega) htt) ?_)
 refine aa rfl (dq rfl rfl) ?_
 refine aa rfl (b9 rfl rfl (by constructor)) ?_
 refine yA rfl rfl ?_
 refine yN ?_
 dsimp only [St.put]
 refine K40 _ ?_
 refine ax ?_
 refine bf rfl (by constructor) zN zS ?_
 rfl
end Go.Proofs.YtbbdginipiljdaaGreatDoor
namespace Go.AB
open Go Go.RowKit Go.ChangeShapes Go.WideShapes
end Go.AB
namespace Go.Proofs.YtbbdginipiljdaaGreatDoor
set_option maxRecDepth 10000
open Go.ChangeShapes Go.WideShapes Go.ChangeAt Go.RowKit Go.AB
open Go.AB.Enc (cells)
open Go.PB (ba ai PlaceD bh bj bi)
instance : OpensE Tryz.prog 3 Int := .int (by kernel_rfl)
instance : OpensE Tryz.prog 9 ByteArray := .str (by kernel_rfl)
instance : OpensE Tryz.prog 130 (List ByteArray) := .slice (e := 9) (by kernel_rfl) (by decide)
instance : OpensE Tryz.prog 127 (List (List ByteArray)) := .slice (e := 130) (by kernel_rfl) (by decide)
instance : OpensE Tryz.prog 129 ba := .chap (tI := 3) (tL := 127) (by kernel_rfl)
instance : OpensE Tryz.prog 22 (List ba) := .slice (e := 129) (by kernel_rfl) (by decide)
theorem ugn : jm Tryz.prog 24 [(0, 22, 1)] 1 = true := by kernel_rfl
instance : OpensE Tryz.prog 24 (List ba) := .one (e := 22) ugn
theorem uis : jm Tryz.prog 61 [(0, 3, 1), (1, 3, 1), (2, 3, 1)] 3 = true := by kernel_rfl
instance : OpensE Tryz.prog 61 PlaceD := .place (tI := 3) uis
theorem um3 : Tryz.prog.underlying 4 = some .bool := by kernel_rfl
theorem ownZ : ownKnob Tryz.prog.godebug = none := by kernel_rfl
end Go.Proofs.YtbbdginipiljdaaGreatDoor
namespace Go.AB
open Go Go.RowKit Go.ChangeShapes Go.WideShapes
open Go.AB.Enc (cells)
open Go.PB (ba ai PlaceD bh bj bi bu am ah cy bq)
theorem OpensE.reader {P : Program} {t tI : TypeId} [oI : OpensE P tI Int] (h : jm P t [(0, tI, 1), (1, tI, 1)] 2 = true) : OpensE P t bu :=
 .struct (α := bu) h fun w cs hl hp => by
  obtain ⟨a, ha⟩ := hp (0, tI, 1) (by simp) Int inferInstance oI
  obtain ⟨b, hb⟩ := hp (1, tI, 1) (by simp) Int inferInstance oI
  match cs, hl with
  | [u, v], _ => exact ⟨⟨a, b⟩, Rs.cons (Rs.single_inv ha) hb⟩
theorem OpensE.page {P : Program} {t tI tL : TypeId} [oI : OpensE P tI Int] [oL : OpensE P tL (List PlaceD)] (h : jm P t [(0, tI, 1), (1, tI, 1), (2, tI, 1), (3, tI, 1), (4, tL, 1), (5, tL, 1)] 6 = true) : OpensE P t am :=
 .struct (α := am) h fun w cs hl hp => by
  obtain ⟨a, ha⟩ := hp (0, tI, 1) (by simp) Int inferInstance oI
  obtain ⟨b, hb⟩ := hp (1, tI, 1) (by simp) Int inferInstance oI
  obtain ⟨c, hc⟩ := hp (2, tI, 1) (by simp) Int inferInstance oI
  obtain ⟨d, hd⟩ := hp (3, tI, 1) (by simp) Int inferInstance oI
  obtain ⟨e, he⟩ := hp (4, tL, 1) (by simp) (List PlaceD) inferInstance oL
  obtain ⟨f, hf⟩ := hp (5, tL, 1) (by simp) (List PlaceD) inferInstance oL
  match cs, hl with
  | [u0, u1, u2, u3, u4, u5], _ => exact ⟨⟨a, b, c, d, e, f⟩, Rs.cons (Rs.single_inv ha) (Rs.cons (Rs.single_inv hb) (Rs.cons (Rs.single_inv hc) (Rs.cons (Rs.single_inv hd) (Rs.cons (Rs.single_inv he) hf))))⟩
theorem OpensE.proofs {P : Program} {t tT tR tP : TypeId} [oT : OpensE P tT (List ba)] [oR : OpensE P tR (List bu)] [oP : OpensE P tP (List am)] (h : jm P t [(0, tT, 1), (1, tR, 1), (2, tR, 1), (3, tP, 1)] 4 = true) : OpensE P t ah :=
 .struct (α := ah) h fun w cs hl hp => by
  obtain ⟨a, ha⟩ := hp (0, tT, 1) (by simp) (List ba) inferInstance oT
  obtain ⟨b, hb⟩ := hp (1, tR, 1) (by simp) (List bu) inferInstance oR
  obtain ⟨c, hc⟩ := hp (2, tR, 1) (by simp) (List bu) inferInstance oR
  obtain ⟨d, hd⟩ := hp (3, tP, 1) (by simp) (List am) inferInstance oP
  match cs, hl with
  | [u0, u1, u2, u3], _ => exact ⟨⟨a, b, c, d⟩, Rs.cons (Rs.single_inv ha) (Rs.cons (Rs.single_inv hb) (Rs.cons (Rs.single_inv hc) hd))⟩
end Go.AB
namespace Go.AB
open Go Go.RowKit Go.ChangeShapes Go.WideShapes
open Go.AB.Enc (cells)
open Go.PB (ba ai PlaceD bu am ah cy bq)
def udf (P : Program) (t : TypeId) : Bool := match P.underlying t with | some (.func _ _ _) => true | _ => false
theorem ym {P : Program} {t : TypeId} (h : udf P t = true) : ∃ ps rs va, P.underlying t = some (.func ps rs va) := by
 unfold udf at h
 split at h
 ·rename_i ps rs va he; exact ⟨ps, rs, va, he⟩
 ·cases h
/-- Functions that lie in a variable's cells. -/
theorem ul8 {W : World} {b : Nat} {cs : List C} (hne : cs ≠ []) (hone : ∀ c ∈ cs, c.one = true) (us : Nat → Value) (hc : ∀ j, j < cs.length → W.cell? ⟨b, j, none⟩ = some (us j)) (hr : ∀ j c, cs[j]? = some c → R (ir W) W c (us j)) : R (ir W) W (.elem cs) (.pointer (some ⟨b, 0, none⟩)) := by
 have hl : 0 < cs.length := List.length_pos_iff.2 hne
 refine .elem hne hone (.inr ⟨b, 0, rfl, ?_, fun j hj => by rw [Nat.zero_add]; exact hc j hj⟩) hr
 have := y8 (hc (cs.length - 1) (by omega))
 show 0 + cs.length ≤ n7 W b
 omega
theorem uk3 {P : Program} {f : FuncId} {cs : List C} {v gv : Value} {gc : C} (hp : fa 0 (.fact gv gc) P f cs (.v v)) {w : World} {args : List Value} (hK : R (ir w) w gc gv) (hr : Rs (ir w) w cs args) :
  Calls P f args.toArray w fun e w' => e = .returned v ∧ Below w.heap.size w w' :=
 uk4 (fun G nx hG => by
  intro E w' as' hrs hsg
  exact hp G nx hG (by obtain ⟨t, _⟩ := hsg.obj 0 _ hG; have := hsg.lt 0 _ t; rw [hsg.nx] at this; exact this) E w' as' hrs hsg) hK hr
/-- a cell of a function's type, as it reads -/
theorem q9 {P : Program} {W : World} {t : TypeId} {ps rs : Array TypeId} {va : Bool} {v : Value} {b : UInt8} {r : List UInt8} {f0 : FuncId} (hu : P.underlying t = some (.func ps rs va)) (hv : IsFunc v) (hd : veil (funcToken P) t v = .held (b :: r))
  (hone : ((List.range P.funcs.size).filter fun f => (P.funcs[f]?).any (·.name.toUTF8.data.toList == b :: r)) = [f0]) : v = .func (.func f0) #[] #[] :=
 Go.func_of_trod (w := W) (base := 0) (sp := fun _ => true) (fuel := 1) (q := []) hu hone (by
  have := trod_func (enc := funcToken P) hu (W := W) (base := 0) (sp := fun _ => true) hv 0
  rw [hd] at this
  exact this)
end Go.AB
namespace Go.Proofs.YtbbdginipiljdaaGreatDoor
set_option maxRecDepth 10000
open Go.ChangeShapes Go.WideShapes Go.ChangeAt Go.RowKit Go.AB
open Go.AB.Enc (cells)
open Go.PB (ba ai PlaceD bu am ah cy bq)
instance : OpensE Tryz.prog 67 bu := .reader (tI := 3) (by kernel_rfl)
instance : OpensE Tryz.prog 25 (List bu) := .slice (e := 67) (by kernel_rfl) (by decide)
instance : OpensE Tryz.prog 56 (List PlaceD) := .slice (e := 61) (by kernel_rfl) (by decide)
instance : OpensE Tryz.prog 58 am := .page (tI := 3) (tL := 56) (by kernel_rfl)
instance : OpensE Tryz.prog 26 (List am) := .slice (e := 58) (by kernel_rfl) (by decide)
theorem ube : jm Tryz.prog 28 [(0, 24, 1), (1, 25, 1), (2, 25, 1), (3, 26, 1)] 4 = true := by kernel_rfl
instance : OpensE Tryz.prog 28 ah := .proofs (tT := 24) (tR := 25) (tP := 26) ube
theorem u8OkL : ta Tryz.prog 5 .u8 = true := by kernel_rfl
theorem gSides : Tryz.prog.globalNamed "postil/proof.sides" = some 0 := by kernel_rfl
theorem tSides : (Tryz.prog.globals[0]?).map (·.type) = some 141 := by kernel_rfl
theorem ugd : Tryz.prog.underlying 141 = some (.array 2 140) := by kernel_rfl
theorem um0 : Tryz.prog.cellsOf 141 = 6 := by kernel_rfl
theorem uef : Tryz.prog.cellsOf 140 = 3 := by kernel_rfl
theorem uau : jm Tryz.prog 140 [(0, 136, 1), (1, 137, 1), (2, 138, 1)] 3 = true := by kernel_rfl
theorem udq : ∃ ps rs va, Tryz.prog.underlying 136 = some (.func ps rs va) := ym (by kernel_rfl)
theorem uds : ∃ ps rs va, Tryz.prog.underlying 137 = some (.func ps rs va) := ym (by kernel_rfl)
theorem udr : ∃ ps rs va, Tryz.prog.underlying 138 = some (.func ps rs va) := ym (by kernel_rfl)
theorem uaq {W : World} {m : Nat} {cs : List Value} {y : DataW (List UInt8) × List MemPlace} {d0 d1 d2 : DataW (List UInt8)} (hy : y.1 = .agg [d0, d1, d2])
  (h : DataW.trod (funcToken Tryz.prog) Tryz.prog W 0 (fun _ => true) true m 140 cs = some y) : ∃ v0 v1 v2, cs = [v0, v1, v2] ∧ (IsFunc v0 ∧ veil (funcToken Tryz.prog) 136 v0 = d0) ∧ (IsFunc v1 ∧ veil (funcToken Tryz.prog) 137 v1 = d1) ∧ (IsFunc v2 ∧ veil (funcToken Tryz.prog) 138 v2 = d2) := by
 obtain ⟨_, fs, he⟩ := ue uau
 obtain ⟨xs, m', _, e1, hl, hlen, hf⟩ := DataW.trod_struct he h
 rw [uef] at hl
 have hfs : fs.toList.map (fun f => (f.offset, f.type, Tryz.prog.cellsOf f.type)) = [(0, 136, 1), (1, 137, 1), (2, 138, 1)] := by
  have := uau
  unfold jm at this
  rw [he] at this
  simp only [Bool.and_eq_true, beq_iff_eq] at this
  exact this.1
 obtain ⟨l⟩ := fs
 match l, hfs with
 | [f0, f1, f2], hfs =>
  simp only [List.map_cons, List.map_nil, List.cons.injEq, Prod.mk.injEq, and_true] at hfs
  obtain ⟨⟨a1, a2, a3⟩, ⟨b1, b2, b3⟩, ⟨c1, c2, c3⟩⟩ := hfs
  have h0 := hf 0 f0 rfl
  have h1 := hf 1 f1 rfl
  have h2 := hf 2 f2 rfl
  match cs, hl with
  | [u0, u1, u2], _ =>
   match xs, hlen with
   | [x0, x1, x2], _ =>
    subst e1
    simp only [List.map_cons, List.map_nil, DataW.agg.injEq, List.cons.injEq, and_true] at hy
    rw [a3, a1, a2] at h0
    rw [b3, b1, b2] at h1
    rw [c3, c1, c2] at h2
    obtain ⟨ps, rs, va, hu⟩ := udq
    obtain ⟨ps', rs', va', hu'⟩ := uds
    obtain ⟨ps2, rs2, va2, hu2⟩ := udr
    obtain ⟨v0, q0, q1, q2⟩ := Go.RowKit.func_of_trod hu h0
    obtain ⟨v1, q3, q4, q5⟩ := Go.RowKit.func_of_trod hu' h1
    obtain ⟨v2, q6, q7, q8⟩ := Go.RowKit.func_of_trod hu2 h2
    have e0 : u0 = v0 := by simpa using q0
    have e1 : u1 = v1 := by simpa using q3
    have e2 : u2 = v2 := by simpa using q6
    subst e0; subst e1; subst e2
    have hx0 : x0 = (veil (funcToken Tryz.prog) 136 u0, []) := by simpa using q2
    have hx1 : x1 = (veil (funcToken Tryz.prog) 137 u1, []) := by simpa using q5
    have hx2 : x2 = (veil (funcToken Tryz.prog) 138 u2, []) := by simpa using q8
    subst hx0; subst hx1; subst hx2
    obtain ⟨k0, k1, k2⟩ := hy
    exact ⟨u0, u1, u2, rfl, ⟨q1, k0⟩, ⟨q4, k1⟩, ⟨q7, k2⟩⟩
 | [], hfs => exact absurd hfs (by simp)
 | [_], hfs => exact absurd hfs (by simp)
 | [_, _], hfs => exact absurd hfs (by simp)
 | _ :: _ :: _ :: _ :: _, hfs => exact absurd hfs (by simp)
theorem uhc {W : World} (h : funcsAt Tryz.prog W "postil/proof.sides" (.agg [.agg [.iface "func" (.lit (.string [112, 111, 115, 116, 105, 108, 47, 112, 114, 111, 111, 102, 46, 115, 105, 100, 101, 115, 36, 49])), .iface "func" (.lit (.string [112, 111, 115, 116, 105, 108, 47, 112, 114, 111, 111, 102, 46, 115, 105, 100, 101, 115, 36, 50])), .iface "func" (.lit (.string [112, 111, 115, 116, 105, 108, 47, 112, 114, 111, 111, 102, 46, 115, 105, 100, 101, 115, 36, 51]))], .agg [.iface "func" (.lit (.string [112, 111, 115, 116, 105, 108, 47, 112, 114, 111, 111, 102, 46, 115, 105, 100, 101, 115, 36, 52])), .iface "func" (.lit (.string [112, 111, 115, 116, 105, 108, 47, 112, 114, 111, 111, 102, 46, 115, 105, 100, 101, 115, 36, 53])), .iface "func" (.lit (.string [112, 111, 115, 116, 105, 108, 47, 112, 114, 111, 111, 102, 46, 115, 105, 100, 101, 115, 36, 54]))]])) : R (ir W) W (.elem sidL) (.pointer (some ⟨0, 0, none⟩)) := by
 obtain ⟨g, t, cs, fuel, p, hg, ht, hv, hd⟩ := h
 obtain rfl := Option.some.inj (gSides.symm.trans hg)
 obtain rfl := Option.some.inj (tSides.symm.trans ht)
 obtain ⟨xs, m, _, e1, hl, hn, hel⟩ := DataW.trod_array ugd hd
 rw [um0] at hl
 rw [uef] at hel
 have hcell := fun i => World.var?_cell hg hv i
 obtain ⟨l⟩ := cs
 dsimp only at hl hel hcell
 match l, hl with
 | [u0, u1, u2, u3, u4, u5], _ =>
  match xs, hn with
  | [x0, x1], _ =>
   simp only [Prod.mk.injEq] at e1
   have e2 : (.agg [.agg [.held [112, 111, 115, 116, 105, 108, 47, 112, 114, 111, 111, 102, 46, 115, 105, 100, 101, 115, 36, 49], .held [112, 111, 115, 116, 105, 108, 47, 112, 114, 111, 111, 102, 46, 115, 105, 100, 101, 115, 36, 50], .held [112, 111, 115, 116, 105, 108, 47, 112, 114, 111, 111, 102, 46, 115, 105, 100, 101, 115, 36, 51]], .agg [.held [112, 111, 115, 116, 105, 108, 47, 112, 114, 111, 111, 102, 46, 115, 105, 100, 101, 115, 36, 52], .held [112, 111, 115, 116, 105, 108, 47, 112, 114, 111, 111, 102, 46, 115, 105, 100, 101, 115, 36, 53], .held [112, 111, 115, 116, 105, 108, 47, 112, 114, 111, 111, 102, 46, 115, 105, 100, 101, 115, 36, 54]]] : DataW (List UInt8)) = .agg [x0.1, x1.1] := e1.1
   simp only [DataW.agg.injEq, List.cons.injEq, and_true] at e2
   obtain ⟨a0, a1, a2, q0, ⟨a3, a4⟩, ⟨a5, a6⟩, ⟨a7, a8⟩⟩ := uaq e2.1.symm (hel 0 (by omega))
   obtain ⟨b0, b1, b2, q1, ⟨b3, b4⟩, ⟨b5, b6⟩, ⟨b7, b8⟩⟩ := uaq e2.2.symm (hel 1 (by omega))
   simp only [Nat.zero_mul, Nat.one_mul, List.drop_zero, List.drop_succ_cons, List.take_succ_cons, List.take_zero, List.cons.injEq, and_true] at q0 q1
   obtain ⟨rfl, rfl, rfl⟩ := q0
   obtain ⟨rfl, rfl, rfl⟩ := q1
   obtain ⟨ps, rs, va, hu⟩ := udq
   obtain ⟨ps', rs', va', hu'⟩ := uds
   obtain ⟨ps2, rs2, va2, hu2⟩ := udr
   obtain rfl := q9 (W := W) (f0 := 157) hu a3 a4 (by kernel_rfl)
   obtain rfl := q9 (W := W) (f0 := 158) hu' a5 a6 (by kernel_rfl)
   obtain rfl := q9 (W := W) (f0 := 159) hu2 a7 a8 (by kernel_rfl)
   obtain rfl := q9 (W := W) (f0 := 160) hu b3 b4 (by kernel_rfl)
   obtain rfl := q9 (W := W) (f0 := 161) hu' b5 b6 (by kernel_rfl)
   obtain rfl := q9 (W := W) (f0 := 162) hu2 b7 b8 (by kernel_rfl)
   let L : List Value := [.func (.func 157) #[] #[], .func (.func 158) #[] #[], .func (.func 159) #[] #[], .func (.func 160) #[] #[], .func (.func 161) #[] #[], .func (.func 162) #[] #[]]
   refine ul8 (by simp [sidL, nh]) (by intro c hc; simp only [sidL, nh, List.cons_append, List.nil_append, List.mem_cons, List.not_mem_nil, or_false] at hc; rcases hc with rfl | rfl | rfl | rfl | rfl | rfl <;> rfl) (fun j => L.getD j undef) (fun j hj => ?_) (fun j c hc => ?_)
   ·have := hcell j
    have hj' : j < 6 := hj
    rw [this]
    show (L.toArray)[j]? = _
    rw [List.getElem?_toArray, List.getD_eq_getElem?_getD, List.getElem?_eq_getElem (show j < L.length from hj')]
    rfl
   ·match j, hc with
    | 0, hc => cases hc; exact Rs.fn (vs := []) Rs.nil
    | 1, hc => cases hc; exact Rs.fn (vs := []) Rs.nil
    | 2, hc => cases hc; exact Rs.fn (vs := []) Rs.nil
    | 3, hc => cases hc; exact Rs.fn (vs := []) Rs.nil
    | 4, hc => cases hc; exact Rs.fn (vs := []) Rs.nil
    | 5, hc => cases hc; exact Rs.fn (vs := []) Rs.nil
abbrev sy : List (String × DataW Unit) := [("postil/proof.sides", Rows.laid_postil_proof_sides)]
set_option maxRecDepth 100000 in
/-- The door's own heap meets the condition. -/
theorem umi (os : Os) (args : Array Value) : laidMetH Tryz.prog sy ((World.doorLaid Tryz.prog 600 os).forCall (fun _ _ => 0) ⟨#[], args, []⟩).memory :=
 laidMetH_of_parts3 (fuel := 8) (laidMet_of_run' 8 (by kernel_rfl) (by kernel_rfl)) (by kernel_rfl) (by kernel_rfl)
theorem uhb {W : World} (h : laidMetH Tryz.prog sy W) : R (ir W) W (.elem sidL) (.pointer (some ⟨0, 0, none⟩)) := uhc (h.funcs (List.mem_cons_self ..))
end Go.Proofs.YtbbdginipiljdaaGreatDoor
namespace Go.AB
open Go Go.RowKit Go.ChangeShapes Go.WideShapes
section
variable {H : Type} {enc : TypeId × Value → H} {P : Program} {w : World} {base : Nat} {spare : Nat → Bool} {held : Bool}
end
end Go.AB
