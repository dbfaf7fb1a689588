/-
  What the walks through the program rest on: values, states, steps, calls (AbRem, GaMade, GbWords, GcPlain, GdAlive, GePick, GfFacts).
-/
import Derived.Test.YtjjklfgpffgnfaaGreatDoorEngB
import Derived.Test.YtjjklfgpffgnfaaGreatDoorOpenE
import Derived.Test.YtjjklfgpffgnfaaGreatDoorDbMove
import Derived.Test.YtjjklfgpffgnfaaGreatDoorCzBook
import Derived.Test.YtjjklfgpffgnfaaGreatDoorCuFuncs
import Derived.Test.YtjjklfgpffgnfaaGreatDoorCsRows
import Derived.Test.YtjjklfgpffgnfaaGreatDoorEcRefer
import Derived.Test.YtjjklfgpffgnfaaGreatDoorOpenP
import Derived.Test.YtjjklfgpffgnfaaGreatDoorFeClose
import Derived.Test.YtjjklfgpffgnfaaGreatDoorEiCross
namespace Go.AB
open Go Go.RowKit Go.ChangeShapes Go.WideShapes
open Go.AB.Enc (cells)
variable {P : Program} {o : Oper} {st : St}
end Go.AB
namespace Go.AB
open Go Go.RowKit
open Go.AB.Enc (cells)
open Go.PB (bv ai PlaceD cy c6 cz)
/-- An edition whose stretches are owned is laid for good when the call ends. -/
theorem zf {P : Program} {f : FuncId} {args : List C} {G : Nat → Option GObj} {nx : Nat} {x : av} {er : Int} {tt : TypeId}
  (h : PC P f args G nx fun r G' nx' => ∃ y : Nat × Nat, nx ≤ y.1 ∧ r = .tup [.agg [.v (.int .i64 x.id), .own y.1 x.ss.length x.ss.length], .v (.int .i64 er)] ∧ G' = ak G y.1 (.arr x.ss.length y.2 tt 5 x.ss.length (co x.ss)) ∧ nx' = y.1 + 1) :
  PC P f args G nx fun r G' nx' => r = .tup [val x, .v (.int .i64 er)] ∧ G' = G ∧ nx' = nx := by
 intro E w vs hr hg
 refine (h E w vs hr hg).mono ?_
 rintro e w' ⟨r', v, E', G', nx', e1, e2, e3, e4, y, hy, rfl, rfl, rfl⟩
 obtain ⟨E2, hE, hg2, hl⟩ := u6 e4 x.ss (ns _ _ _) rfl rfl rfl
 have hnx := hg.nx
 have key : R E2 w' (.tup [val x, .v (.int .i64 er)]) v := by
  obtain ⟨us, rfl, h1⟩ := e3.tup_inv
  refine Rs.tup ⟨h1.1, fun j c u hc hu => ?_⟩
  match j, hc, hu with
  | 0, hc, hu =>
   cases hc
   obtain ⟨ws, rfl, h2, h3⟩ := (h1.2 0 _ u rfl hu).agg_inv
   refine Rs.agg ⟨h2.1, fun i d z hd hz => ?_⟩ (Enc.one x)
   match i, hd, hz with
   | 0, hd, hz => cases hd; exact (h2.2 0 _ z rfl hz).ev hE
   | 1, hd, hz => cases hd; exact hl z (h2.2 1 _ z rfl hz)
   | i + 2, hd, _ => cases hd
  | 1, hc, hu => cases hc; exact (h1.2 1 _ u rfl hu).ev hE
  | j + 2, hc, _ => cases hc
 refine ⟨_, v, E2.drop nx, G, nx, e1, (e2.trans hE).drop (by omega), key.drop (.tup (ar (dq _ _) (ar .v bl))), ?_, rfl, rfl, rfl⟩
 refine (hg2.weak fun k o ho => ?_).drop fun k o ho => hg.lowG ho
 have := (hg.lowG ho).1
 rw [k7 (by omega), io (by omega)]
 exact ho
noncomputable def uo (t : ai) (e : av) (c l to : Int) : av := ci e (eh t e c l to) (fm t e c l to)
noncomputable def v7 (t : ai) (e : av) (c to : Int) : av := ci e (el t e c to) (fo t e c to)
end Go.AB
namespace Go.Proofs.YtjjklfgpffgnfaaGreatDoor
set_option maxRecDepth 10000
open Go.RowKit Go.AB
open Go.AB.Enc (cells)
open Go.PB (bv ai PlaceD cy c6 cz)
theorem ulb (t : ai) (e : av) (cp l to : Int) (hl : e.ss.length ≤ 20) : da cv Tryz.prog 31 [b8 t, val e, .v (.int .i64 cp), .v (.int .i64 l), .v (.int .i64 to)] (.tup [val (uo t e cp l to), .v (.int .i64 (eh t e cp l to))]) :=
 fun G nx hF => zf (ue1 t e cp l to hl G nx hF)
theorem ulh (t : ai) (e : av) (cp to : Int) (hl : e.ss.length ≤ 20) : da cv Tryz.prog 27 [b8 t, val e, .v (.int .i64 cp), .v (.int .i64 to)] (.tup [val (v7 t e cp to), .v (.int .i64 (el t e cp to))]) :=
 fun G nx hF => zf (uh7 t e cp to hl G nx hF)
end Go.Proofs.YtjjklfgpffgnfaaGreatDoor
namespace Go.AB
open Go Go.RowKit
open Go.AB.Enc (cells)
open Go.PB (bv ai PlaceD cy c6 cz)
def wThe : ByteArray := ⟨#[116, 104, 101]⟩
def wSea : ByteArray := ⟨#[115, 101, 97]⟩
def wIs : ByteArray := ⟨#[105, 115]⟩
def wOld : ByteArray := ⟨#[111, 108, 100]⟩
def wAnd : ByteArray := ⟨#[97, 110, 100]⟩
def exT : ai := [⟨7, [[wThe, wSea, wIs, wOld], [wOld, wThe, wSea]]⟩, ⟨3, [[wSea, wAnd, wSea]]⟩]
def exV : av := ⟨5, [⟨0, 0, 1, 1, 1⟩, ⟨0, 1, 2, 2, 5⟩]⟩
def exS : av := ⟨6, [⟨0, 0, 2, 7, 1⟩, ⟨1, 0, 1, 3, 1⟩]⟩
def exL : List StretchD := [⟨0, 0, 1, 7, 1⟩, ⟨0, 1, 2, 9, 1⟩, ⟨1, 0, 1, 3, 1⟩]
end Go.AB
namespace Go.Proofs.YtjjklfgpffgnfaaGreatDoor
set_option maxRecDepth 10000
open Go.RowKit Go.AB
open Go.AB.Enc (cells)
open Go.PB (bv ai PlaceD cy c6 cz)
theorem mc : c8 Tryz.prog 35 [] (b8 exT) := by
 refine dr Tryz.func35 rfl (fun m => .agg (ar (bh _ _) bl)) fun G nx => ?_
 simp only [Tryz.ntmps35, List.length_cons, List.length_nil, Nat.reduceAdd, Nat.reduceSub]
 refine bi fun hlt => ?_
 dsimp only at hlt
 refine yS fun _ K1 => ?_
 refine yR ?_
 try dsimp only [St.put]
 refine ae rfl (bp rfl ?_)
 refine yN ?_
 dsimp only [St.put]
 refine K1 _ ?_
 refine yS fun _ K2 => ?_
 refine yR ?_
 try dsimp only [St.put]
 refine ae rfl (c9 rfl rfl rfl (by decide) (by decide) zR (by decide) ?_)
 try dsimp only [St.put]
 refine ae rfl (c9 rfl rfl rfl (by decide) (by decide) zR (by decide) ?_)
 try dsimp only [St.put]
 refine ae rfl (c9 rfl rfl rfl (by decide) (by decide) zR (by decide) ?_)
 refine aa rfl (du rfl rfl) ?_
 try dsimp only [St.put]
 refine ae rfl (c9 rfl rfl rfl (by decide) (by decide) zR (by decide) ?_)
 try dsimp only [St.put]
 refine ae rfl (c9 rfl rfl rfl (by decide) (by decide) zR (by decide) ?_)
 refine aa rfl (du rfl rfl) ?_
 try dsimp only [St.put]
 refine ae rfl (c9 rfl rfl rfl (by decide) (by decide) zR (by decide) ?_)
 refine aa rfl (du rfl rfl) ?_
 try dsimp only [St.put]
 refine ae rfl (ay rfl rfl rfl zG rfl rfl (by rfl) ?_)
 refine yN ?_
 dsimp only [St.put]
 refine K2 _ ?_
 refine am ?_
 refine lp rfl (et rfl zG (by rfl) (by first | exact List.cons_ne_nil _ _ | (simp; done) | (simp [putAt]; done)) rfl) zN zS ?_
 exact zW
theorem ow : c8 Tryz.prog 36 [] (val exV) := by
 refine dr Tryz.func36 rfl (fun m => (dq _ _)) fun G nx => ?_
 simp only [Tryz.ntmps36, List.length_cons, List.length_nil, Nat.reduceAdd, Nat.reduceSub]
 refine bi fun hlt => ?_
 dsimp only at hlt
 refine yS fun _ K1 => ?_
 refine yR ?_
 try dsimp only [St.put]
 refine ae rfl (bp rfl ?_)
 refine yN ?_
 dsimp only [St.put]
 refine K1 _ ?_
 refine yS fun _ K2 => ?_
 refine yR ?_
 refine aa rfl (du rfl rfl) ?_
 refine aa rfl (du rfl rfl) ?_
 try dsimp only [St.put]
 refine ae rfl (c9 rfl rfl rfl (by decide) (by decide) zR (by decide) ?_)
 refine aa rfl (du rfl rfl) ?_
 try dsimp only [St.put]
 refine ae rfl (ay rfl rfl rfl zG rfl rfl (by rfl) ?_)
 refine yN ?_
 dsimp only [St.put]
 refine K2 _ ?_
 refine am ?_
 refine lp rfl (et rfl zG (by rfl) (by first | exact List.cons_ne_nil _ _ | (simp; done) | (simp [putAt]; done)) rfl) zN zS ?_
 exact zW
theorem rf : c8 Tryz.prog 39 [] (val exS) := by
 refine dr Tryz.func39 rfl (fun m => (dq _ _)) fun G nx => ?_
 simp only [Tryz.ntmps39, List.length_cons, List.length_nil, Nat.reduceAdd, Nat.reduceSub]
 refine bi fun hlt => ?_
 dsimp only at hlt
 refine yS fun _ K1 => ?_
 refine yR ?_
 try dsimp only [St.put]
 refine ae rfl (bp rfl ?_)
 refine yN ?_
 dsimp only [St.put]
 refine K1 _ ?_
 refine yS fun _ K2 => ?_
 refine yR ?_
 refine aa rfl (du rfl rfl) ?_
 refine aa rfl (du rfl rfl) ?_
 try dsimp only [St.put]
 refine ae rfl (c9 rfl rfl rfl (by decide) (by decide) zR (by decide) ?_)
 refine aa rfl (du rfl rfl) ?_
 try dsimp only [St.put]
 refine ae rfl (ay rfl rfl rfl zG rfl rfl (by rfl) ?_)
 refine yN ?_
 dsimp only [St.put]
 refine K2 _ ?_
 refine am ?_
 refine lp rfl (et rfl zG (by rfl) (by first | exact List.cons_ne_nil _ _ | (simp; done) | (simp [putAt]; done)) rfl) zN zS ?_
 exact zW
theorem uh1 : c8 Tryz.prog 43 [] (lst exL) := by
 refine dr Tryz.func43 rfl (fun m => (bh _ _)) fun G nx => ?_
 simp only [Tryz.ntmps43, List.length_cons, List.length_nil, Nat.reduceAdd, Nat.reduceSub]
 refine bi fun hlt => ?_
 dsimp only at hlt
 refine yS fun _ K1 => ?_
 refine yR ?_
 refine yA rfl rfl ?_
 refine yN ?_
 dsimp only [St.put]
 refine K1 _ ?_
 refine yS fun _ K2 => ?_
 refine yR ?_
 refine aa rfl (du rfl rfl) ?_
 refine aa rfl (du rfl rfl) ?_
 refine aa rfl (du rfl rfl) ?_
 try dsimp only [St.put]
 refine ae rfl (c9 rfl rfl rfl (by decide) (by decide) zR (by decide) ?_)
 refine yA rfl rfl ?_
 refine yN ?_
 dsimp only [St.put]
 refine K2 _ ?_
 refine am ?_
 refine bf rfl (by constructor) zN zS ?_
 rfl
theorem n3 (a b c : Int) : c8 Tryz.prog 38 [.v (.int .i64 a), .v (.int .i64 b), .v (.int .i64 c)] (val (⟨a, b, c⟩ : PlaceD)) := by
 refine dr Tryz.func38 rfl (fun m => (dq _ _)) fun G nx => ?_
 simp only [Tryz.ntmps38, List.length_cons, List.length_nil, Nat.reduceAdd, Nat.reduceSub]
 refine bi fun hlt => ?_
 dsimp only at hlt
 refine yS fun _ K1 => ?_
 refine yR ?_
 try dsimp only [St.put]
 refine ae rfl (bp rfl ?_)
 refine yN ?_
 dsimp only [St.put]
 refine K1 _ ?_
 refine yS fun _ K2 => ?_
 refine yR ?_
 refine yM rfl rfl ?_
 refine yM rfl rfl ?_
 refine yM rfl rfl ?_
 refine aa rfl (du rfl rfl) ?_
 try dsimp only [St.put]
 refine ae rfl (ay rfl rfl rfl zG rfl rfl (by rfl) ?_)
 refine yN ?_
 dsimp only [St.put]
 refine K2 _ ?_
 refine am ?_
 refine lp rfl (et rfl zG (by rfl) (by first | exact List.cons_ne_nil _ _ | (simp; done) | (simp [putAt]; done)) rfl) zN zS ?_
 exact zW
theorem p5 (a b c : Int) : c8 Tryz.prog 21 [.v (.int .i64 a), .v (.int .i64 b), .v (.int .i64 c)] (val (⟨a, b, c⟩ : dm)) := by
 refine dr Tryz.func21 rfl (fun m => (dq _ _)) fun G nx => ?_
 simp only [Tryz.ntmps21, List.length_cons, List.length_nil, Nat.reduceAdd, Nat.reduceSub]
 refine bi fun hlt => ?_
 dsimp only at hlt
 refine yS fun _ K1 => ?_
 refine yR ?_
 try dsimp only [St.put]
 refine ae rfl (bp rfl ?_)
 refine yN ?_
 dsimp only [St.put]
 refine K1 _ ?_
 refine yS fun _ K2 => ?_
 refine yR ?_
 refine yM rfl rfl ?_
 refine yM rfl rfl ?_
 refine yM rfl rfl ?_
 refine aa rfl (du rfl rfl) ?_
 try dsimp only [St.put]
 refine ae rfl (ay rfl rfl rfl zG rfl rfl (by rfl) ?_)
 refine yN ?_
 dsimp only [St.put]
 refine K2 _ ?_
 refine am ?_
 refine lp rfl (et rfl zG (by rfl) (by first | exact List.cons_ne_nil _ _ | (simp; done) | (simp [putAt]; done)) rfl) zN zS ?_
 exact zW
theorem uh2 (l m : List PlaceD) (e : Int) : c8 Tryz.prog 23 [lst l, .v (.int .i64 e), lst m] (.v (.bool (decide (e = 0) && decide (l = m)))) := by
 refine dr Tryz.func23 rfl (fun m => .v) fun G nx => ?_
 simp only [Tryz.ntmps23, List.length_cons, List.length_nil, Nat.reduceAdd, Nat.reduceSub]
 refine bi fun hlt => ?_
 dsimp only at hlt
 refine yS fun _ K1 => ?_
 refine yR ?_
 refine yA rfl rfl ?_
 refine yN ?_
 dsimp only [St.put]
 refine K1 _ ?_
 refine yS fun _ K2 => ?_
 refine yR ?_
 refine yM rfl rfl ?_
 refine aa rfl (g3 rfl rfl rfl) ?_
 refine yM rfl rfl ?_
 refine e7 (fun hs => ?_) (fun hs => ?_)
 ·have h1 := of_decide_eq_true hs
  refine yM rfl rfl ?_
  refine yM rfl rfl ?_
  try dsimp only [St.put]
  refine ae rfl (bd rfl rfl rfl (ums l m) ?_)
  refine aa rfl (bg rfl rfl (by constructor)) ?_
  refine yA rfl rfl ?_
  refine yN ?_
  dsimp only [St.put]
  refine K2 _ ?_
  refine am ?_
  refine bf rfl (by constructor) zN zS ?_
  exact vb (by simp [h1])
 have h1 := of_decide_eq_false hs
 refine yK rfl ?_
 refine yK rfl ?_
 refine yK rfl ?_
 refine aa rfl (cd rfl rfl (by constructor)) ?_
 refine yA rfl rfl ?_
 refine yN ?_
 dsimp only [St.put]
 refine K2 _ ?_
 refine am ?_
 refine bf rfl (by constructor) zN zS ?_
 exact vb (by simp [h1])
end Go.Proofs.YtjjklfgpffgnfaaGreatDoor
namespace Go.AB
open Go Go.RowKit
open Go.AB.Enc (cells)
open Go.PB (bv ai PlaceD cy c6 cz)
/-- no two stretches clash -/
def zx (ss : List StretchD) : Bool := (List.range ss.length).all fun b => (List.range b).all fun a => match ss[a]?, ss[b]? with
 | some x, some y => !i1 x y
 | _, _ => true
theorem uje {ss : List StretchD} (h : zx ss = true) : ef ss = none := by
 refine rm (o := none) fun a b ⟨hab, x, y, hx, hy, hc⟩ => ?_
 have h1 := List.all_eq_true.1 h b (List.mem_range.2 (List.getElem?_eq_some_iff.1 hy).1)
 have h2 := List.all_eq_true.1 h1 a (List.mem_range.2 hab)
 rw [hx, hy] at h2
 simp [hc] at h2
theorem uq {t : ai} {e : av} (h : cw t e = 0) (hn : zx e.ss = true) : bz t e = 0 := by
 simp [bz, h, uje hn]
theorem uhy {t : ai} {e : av} {r : dm} {p : PlaceD} (h : bz t e = 0) (hr : gx r = true) (hp : iv t e.ss r = some p) : jc t e r = 0 ∧ jo t e r = p := by
 have h1 : jc t e r = 0 := by simp [jc, h, j8, hr, hp]
 exact ⟨h1, by simp [jo, h1, hp]⟩
theorem y6 {t : ai} {e : av} {p : PlaceD} {v : L2} (h : bz t e = 0) (hp : gp t p = true) (hv : ax e.ss (p.ch, p.ln) = some v) : eu t e p = 0 ∧ ix t e p = ⟨v.1, v.2, p.wd + 1⟩ := by
 have h1 : eu t e p = 0 := by simp [eu, h, hp, hv]
 exact ⟨h1, by simp [ix, h1, hv]⟩
theorem ugs {t : ai} {e : av} {p : PlaceD} {L : List PlaceD} (h : bz t e = 0) (hp : gp t p = true) (hL : m7 t e.ss p = L) (h0 : L ≠ []) : jm t e p = 0 ∧ ki t e p = L := by
 have h1 : jm t e p = 0 := by simp [jm, h, hp, hL, h0]
 exact ⟨h1, by simp [ki, h1, hL]⟩
theorem ukq {t : ai} {e : av} {r : dm} {L : List PlaceD} (h : bz t e = 0) (hp : gx r = true) (hL : nm t e.ss r = L) (h0 : L ≠ []) : jq t e r = 0 ∧ kp t e r = L := by
 have h1 : jq t e r = 0 := by simp [jq, h, hp, hL, h0]
 exact ⟨h1, by simp [kp, h1, hL]⟩
theorem ucw {t : ai} {e f : av} (h : bz t e = 0) (k : bz t f = 0) : gh t e f = 0 := by
 simp [gh, (lg h).1, (lg k).1, h, k]
theorem ud8 {t : ai} {e f : av} {r : dm} {p : PlaceD} (h : bz t e = 0) (k : bz t f = 0) (hr : gx r = true) (hp : iv t e.ss r = some p) : gw t e f r = eu t f p ∧ gl t e f r = ix t f p := by
 have h1 : gw t e f r = eu t f p := by simp [gw, ucw h k, j8, hr, hp]
 refine ⟨h1, ?_⟩
 unfold gl
 rw [h1, hp, Option.getD_some]
 by_cases h2 : eu t f p = 0
 ·simp [h2]
 ·simp [h2, ix]
/-- what leads from one edition to another one, found line by line -/
def tr (es fs : List StretchD) (p : L2) : Option ec := match ax es p, ax fs p with
 | some v, some u => some (jb v u)
 | _, _ => none
theorem crossOf_some {es fs : List StretchD} {p : L2} {x : ec} : tr es fs p = some x ↔ ∃ v u, ax es p = some v ∧ ax fs p = some u ∧ x = jb v u := by
 unfold tr
 cases ax es p with
 | none => simp
 | some v => cases ax fs p with
  | none => simp
  | some u => simp [eq_comm]
theorem uke {t : ai} {es fs : List StretchD} (hS : Sound t es) {L : List ec} (h1 : L.Pairwise fun a b => ltL (pv a) (pv b)) (h2 : ∀ x, x ∈ L ↔ x ∈ (d9 t).filterMap (tr es fs)) : oa es fs L := by
 refine ⟨h1, fun x => (h2 x).trans ⟨fun h => ?_, fun ⟨p, v, u, hv, hu, e⟩ => ?_⟩⟩
 ·obtain ⟨p, hp, hx⟩ := List.mem_filterMap.1 h
  obtain ⟨v, u, q⟩ := crossOf_some.1 hx
  exact ⟨p, v, u, q⟩
 ·obtain ⟨l, hl⟩ := ua hS hv
  exact List.mem_filterMap.2 ⟨p, mem_lines.2 ⟨l, hl⟩, crossOf_some.2 ⟨v, u, hv, hu, e⟩⟩
/-! ### The examples -/
theorem oe : bz exT exV = 0 := uq (by decide +kernel) (by decide +kernel)
theorem qq : bz exT exS = 0 := uq (by decide +kernel) (by decide +kernel)
theorem ue4 : bz exT ⟨6, exL⟩ = 0 := uq (by decide +kernel) (by decide +kernel)
theorem exGaps : p8 exT exV = [⟨1, 0, 0⟩] ∧ cw exT exV = 0 := ⟨by decide +kernel, by decide +kernel⟩
theorem exLead : jc exT exV ⟨2, 5, 3⟩ = 0 ∧ jo exT exV ⟨2, 5, 3⟩ = ⟨0, 1, 2⟩ := uhy oe (by decide +kernel) (by decide +kernel)
theorem exReferV : eu exT exV ⟨0, 1, 2⟩ = 0 ∧ ix exT exV ⟨0, 1, 2⟩ = ⟨2, 5, 3⟩ := y6 (v := (2, 5)) oe (by decide +kernel) (by decide +kernel)
theorem exReferS : eu exT exS ⟨0, 1, 2⟩ = 0 ∧ ix exT exS ⟨0, 1, 2⟩ = ⟨7, 2, 3⟩ := y6 (v := (7, 2)) qq (by decide +kernel) (by decide +kernel)
theorem exNear : jm exT exV ⟨1, 0, 1⟩ = 0 ∧ ki exT exV ⟨1, 0, 1⟩ = [⟨0, 1, 2⟩] :=
 ugs oe (by decide +kernel) ((zz (by decide +kernel)).symm.trans (by decide +kernel)) (by simp)
theorem exClose : jq exT exV ⟨1, 9, 1⟩ = 0 ∧ kp exT exV ⟨1, 9, 1⟩ = [⟨0, 0, 3⟩, ⟨0, 1, 0⟩] :=
 ukq oe (by decide +kernel) ((ucg (mn oe) (by decide +kernel) (by decide +kernel) (ys := fw exT (ax exV.ss)) (List.Perm.refl _) (by decide +kernel)).symm.trans (by decide +kernel)) (by simp)
theorem exCross : gh exT exS exV = 0 ∧ nl exT exS exV = [⟨7, 1, 1, 1, 1⟩, ⟨7, 2, 2, 5, 1⟩] := by
 have h := ucw qq oe
 refine ⟨h, ?_⟩
 have hc : tq exS.ss exV.ss = [⟨7, 1, 1, 1, 1⟩, ⟨7, 2, 2, 5, 1⟩] := ucd (uke (mn qq) (by decide +kernel) fun x => by rw [show (d9 exT).filterMap (tr exS.ss exV.ss) = [⟨7, 1, 1, 1, 1⟩, ⟨7, 2, 2, 5, 1⟩] by decide +kernel])
 unfold nl
 rw [h, hc]
 decide +kernel
theorem exTurn : gw exT exV exS ⟨2, 5, 3⟩ = 0 ∧ gl exT exV exS ⟨2, 5, 3⟩ = ⟨7, 2, 3⟩ := by
 obtain ⟨h1, h2⟩ := ud8 (p := ⟨0, 1, 2⟩) oe qq (r := ⟨2, 5, 3⟩) (by decide +kernel) (by decide +kernel)
 rw [h1, h2]
 exact exReferS
theorem exSplit : eh exT exS 7 2 9 = 0 ∧ uo exT exS 7 2 9 = ⟨6, exL⟩ := by
 have h1 : eh exT exS 7 2 9 = 0 := by unfold eh; rw [qq]; decide +kernel
 refine ⟨h1, ?_⟩
 unfold uo ci
 rw [h1]
 decide +kernel
theorem exJoin : el exT ⟨6, exL⟩ 9 7 = 0 ∧ v7 exT ⟨6, exL⟩ 9 7 = exS := by
 have h1 : el exT ⟨6, exL⟩ 9 7 = 0 := by unfold el; rw [ue4]; decide +kernel
 refine ⟨h1, ?_⟩
 unfold v7 ci
 rw [h1]
 decide +kernel
end Go.AB
namespace Go.AB
open Go Go.RowKit
open Go.AB.Enc (cells)
open Go.PB (bv ai PlaceD cy c6 cz)
end Go.AB
namespace Go.Proofs.YtjjklfgpffgnfaaGreatDoor
set_option maxRecDepth 10000
open Go.RowKit Go.AB
open Go.AB.Enc (cells)
open Go.PB (bv ai PlaceD cy c6 cz)
theorem vy (l : List PlaceD) : c8 Tryz.prog 23 [lst l, .v (.int .i64 0), lst l] (.v (.bool true)) := by
 have := uh2 l l 0
 rwa [decide_eq_true rfl, decide_eq_true rfl] at this
theorem umt (a : List ec) : c8 Tryz.prog 41 [lst a, lst a] (.v (.bool true)) := by
 have := umu a a
 rwa [decide_eq_true rfl] at this
theorem umr (a : List StretchD) : c8 Tryz.prog 42 [lst a, lst a] (.v (.bool true)) := by
 have := udf a a
 rwa [decide_eq_true rfl] at this
theorem uaz (e : av) (p : PlaceD) (r : dm) (hl : e.ss.length ≤ 20) (h : eu exT e p = 0) (hv : ix exT e p = r) : da cv Tryz.prog 40 [val e, val p, val r] (.v (.bool true)) := by
 refine fy Tryz.func40 rfl (fun m => .v) fun G nx hF => ?_
 simp only [Tryz.ntmps40, List.length_cons, List.length_nil, Nat.reduceAdd, Nat.reduceSub]
 refine bi fun hlt => ?_
 dsimp only at hlt
 have hnx := hlt 0 _ hF
 refine yS fun _ K1 => ?_
 refine yR ?_
 try dsimp only [St.put]
 refine yB rfl rfl rfl ?_
 try dsimp only [St.put]
 refine yB rfl rfl rfl ?_
 try dsimp only [St.put]
 refine yB rfl rfl rfl ?_
 refine yA rfl rfl ?_
 refine yN ?_
 dsimp only [St.put]
 refine K1 _ ?_
 refine yS fun _ K2 => ?_
 refine la [(1, none), (2, none)] (fun _ => false) (fun i => [].contains i) 8 [false, true, true, false, false, false, false, false, false, false] (by kernel_rfl) (by kernel_rfl) ?_
 try dsimp only [St.put]
 refine aj rfl rfl rfl rfl (aq rfl rfl (Enc.len _)) ?_
 try dsimp only [St.put]
 refine aj rfl rfl rfl rfl (aq rfl rfl (Enc.len _)) ?_
 refine bu ?_
 refine bk [0, 7] (by kernel_rfl) (by simp) ?_
 refine bc ?_ ?_
 ·try dsimp only [St.put]
  refine br rfl rfl rfl (bd rfl rfl rfl (mc) ?_)
  refine bk [3, 7] (by kernel_rfl) (by simp) ?_
  refine bc ?_ ?_
  ·try dsimp only [St.put]
   refine br rfl rfl rfl (eb rfl rfl rfl (t6 exT e p hl) zG ?_)
   refine cq [(4, none), (5, none), (6, none)] (fun i => [4, 5, 6].contains i) 3 [true, true, true, true, true, true, true, false, false, false] (by kernel_rfl) ?_
   refine xM rfl rfl rfl rfl rfl ?_
   refine ah rfl rfl rfl rfl (c7 rfl rfl rfl) ?_
   refine ah rfl rfl rfl rfl (c7 rfl rfl rfl) ?_
   refine bu ?_
   refine bk [7] (by kernel_rfl) (by simp) ?_
   refine bc ?_ ?_
   ·try dsimp only [St.put]
    refine br rfl rfl rfl (bp rfl ?_)
    refine bk [8] (by kernel_rfl) (by simp) ?_
    refine bc ?_ ?_
    ·try dsimp only [St.put]
     refine br rfl rfl rfl (ay rfl rfl rfl zG rfl rfl (by rfl) ?_)
     refine cq [(9, none)] (fun i => [9].contains i) 0 [true, true, true, true, true, true, true, true, true, true] (by kernel_rfl) ?_
     refine ah rfl rfl rfl rfl (cg rfl (by constructor)) ?_
     refine bu ?_
     dsimp only [St.put]
     refine gk (by kernel_rfl) ?_
     rw [hv, h]
     refine K2 _ ?_
     refine yS fun _ K3 => ?_
     refine yR ?_
     refine yM rfl rfl ?_
     refine aa rfl (bt (c := true) (g3 rfl rfl rfl) (decide_eq_true rfl)) ?_
     refine yM rfl rfl ?_
     try dsimp only [St.put]
     refine af rfl (dc rfl rfl zG trivial (by rfl)) ?_
     refine yE rfl rfl rfl ?_
     refine aa rfl (bt (c := true) (nz (x := r) (y := r) rfl rfl rfl) (decide_eq_true rfl)) ?_
     refine aa rfl (bg rfl rfl (by constructor)) ?_
     refine yA rfl rfl ?_
     refine yN ?_
     dsimp only [St.put]
     refine K3 _ ?_
     refine am ?_
     refine bf rfl (by constructor) zN zS ?_
     rfl
    exact bj
   exact bj
  refine bc ?_ ?_
  ·try dsimp only [St.put]
   refine br rfl rfl rfl (bp rfl ?_)
   refine bk [3] (by kernel_rfl) (by simp) ?_
   refine bc ?_ ?_
   ·try dsimp only [St.put]
    refine br rfl rfl rfl (eb rfl rfl rfl (t6 exT e p hl) zG ?_)
    refine cq [(4, none), (5, none), (6, none)] (fun i => [4, 5, 6].contains i) 2 [true, true, true, true, true, true, true, true, false, false] (by kernel_rfl) ?_
    refine xM rfl rfl rfl rfl rfl ?_
    refine ah rfl rfl rfl rfl (c7 rfl rfl rfl) ?_
    refine ah rfl rfl rfl rfl (c7 rfl rfl rfl) ?_
    refine bu ?_
    refine bk [8] (by kernel_rfl) (by simp) ?_
    refine bc ?_ ?_
    ·try dsimp only [St.put]
     refine br rfl rfl rfl (ay rfl rfl rfl zG rfl rfl (by rfl) ?_)
     refine cq [(9, none)] (fun i => [9].contains i) 0 [true, true, true, true, true, true, true, true, true, true] (by kernel_rfl) ?_
     refine ah rfl rfl rfl rfl (cg rfl (by constructor)) ?_
     refine bu ?_
     dsimp only [St.put]
     refine gk (by kernel_rfl) ?_
     rw [hv, h]
     refine K2 _ ?_
     refine yS fun _ K4 => ?_
     refine yR ?_
     refine yM rfl rfl ?_
     refine aa rfl (bt (c := true) (g3 rfl rfl rfl) (decide_eq_true rfl)) ?_
     refine yM rfl rfl ?_
     try dsimp only [St.put]
     refine af rfl (dc rfl rfl zG trivial (by rfl)) ?_
     refine yE rfl rfl rfl ?_
     refine aa rfl (bt (c := true) (nz (x := r) (y := r) rfl rfl rfl) (decide_eq_true rfl)) ?_
     refine aa rfl (bg rfl rfl (by constructor)) ?_
     refine yA rfl rfl ?_
     refine yN ?_
     dsimp only [St.put]
     refine K4 _ ?_
     refine am ?_
     refine bf rfl (by constructor) zN zS ?_
     rfl
    exact bj
   exact bj
  exact bj
 refine bc ?_ ?_
 ·try dsimp only [St.put]
  refine br rfl rfl rfl (bp rfl ?_)
  refine bk [0] (by kernel_rfl) (by simp) ?_
  refine bc ?_ ?_
  ·try dsimp only [St.put]
   refine br rfl rfl rfl (bd rfl rfl rfl (mc) ?_)
   refine bk [3] (by kernel_rfl) (by simp) ?_
   refine bc ?_ ?_
   ·try dsimp only [St.put]
    refine br rfl rfl rfl (eb rfl rfl rfl (t6 exT e p hl) zG ?_)
    refine cq [(4, none), (5, none), (6, none)] (fun i => [4, 5, 6].contains i) 2 [true, true, true, true, true, true, true, true, false, false] (by kernel_rfl) ?_
    refine xM rfl rfl rfl rfl rfl ?_
    refine ah rfl rfl rfl rfl (c7 rfl rfl rfl) ?_
    refine ah rfl rfl rfl rfl (c7 rfl rfl rfl) ?_
    refine bu ?_
    refine bk [8] (by kernel_rfl) (by simp) ?_
    refine bc ?_ ?_
    ·try dsimp only [St.put]
     refine br rfl rfl rfl (ay rfl rfl rfl zG rfl rfl (by rfl) ?_)
     refine cq [(9, none)] (fun i => [9].contains i) 0 [true, true, true, true, true, true, true, true, true, true] (by kernel_rfl) ?_
     refine ah rfl rfl rfl rfl (cg rfl (by constructor)) ?_
     refine bu ?_
     dsimp only [St.put]
     refine gk (by kernel_rfl) ?_
     rw [hv, h]
     refine K2 _ ?_
     refine yS fun _ K5 => ?_
     refine yR ?_
     refine yM rfl rfl ?_
     refine aa rfl (bt (c := true) (g3 rfl rfl rfl) (decide_eq_true rfl)) ?_
     refine yM rfl rfl ?_
     try dsimp only [St.put]
     refine af rfl (dc rfl rfl zG trivial (by rfl)) ?_
     refine yE rfl rfl rfl ?_
     refine aa rfl (bt (c := true) (nz (x := r) (y := r) rfl rfl rfl) (decide_eq_true rfl)) ?_
     refine aa rfl (bg rfl rfl (by constructor)) ?_
     refine yA rfl rfl ?_
     refine yN ?_
     dsimp only [St.put]
     refine K5 _ ?_
     refine am ?_
     refine bf rfl (by constructor) zN zS ?_
     rfl
    exact bj
   exact bj
  exact bj
 exact bj
theorem umm : da cv Tryz.prog 19 [b8 exT, val exV] (.tup [lst ([⟨1, 0, 0⟩] : List PlaceD), .v (.int .i64 0)]) := by
 have := ulj exT exV (by decide)
 rwa [exGaps.1, exGaps.2] at this
theorem uml : da cv Tryz.prog 16 [b8 exT, val exV, val (⟨2, 5, 3⟩ : dm)] (.tup [val (⟨0, 1, 2⟩ : PlaceD), .v (.int .i64 0)]) := by
 have := ulf exT exV ⟨2, 5, 3⟩ (by decide)
 rwa [exLead.1, exLead.2] at this
theorem umk : da cv Tryz.prog 37 [b8 exT, val exV, val (⟨1, 0, 1⟩ : PlaceD)] (.tup [lst ([⟨0, 1, 2⟩] : List PlaceD), .v (.int .i64 0)]) := by
 have := uld exT exV ⟨1, 0, 1⟩ (by decide)
 rwa [exNear.1, exNear.2] at this
theorem umo : da cv Tryz.prog 22 [b8 exT, val exV, val (⟨1, 9, 1⟩ : dm)] (.tup [lst ([⟨0, 0, 3⟩, ⟨0, 1, 0⟩] : List PlaceD), .v (.int .i64 0)]) := by
 have := uln exT exV ⟨1, 9, 1⟩ (by decide)
 rwa [exClose.1, exClose.2] at this
theorem umn : da cv Tryz.prog 25 [b8 exT, val exS, val exV] (.tup [lst ([⟨7, 1, 1, 1, 1⟩, ⟨7, 2, 2, 5, 1⟩] : List ec), .v (.int .i64 0)]) := by
 have := ulk exT exS exV (by decide) (by decide)
 rwa [exCross.1, exCross.2] at this
theorem umi : da cv Tryz.prog 26 [b8 exT, val exV, val exS, val (⟨2, 5, 3⟩ : dm)] (.tup [val (⟨7, 2, 3⟩ : dm), .v (.int .i64 0)]) := by
 have := uk9 exT exV exS ⟨2, 5, 3⟩ (by decide) (by decide)
 rwa [exTurn.1, exTurn.2] at this
theorem umj : da cv Tryz.prog 31 [b8 exT, val exS, .v (.int .i64 7), .v (.int .i64 2), .v (.int .i64 9)] (.tup [val (⟨6, exL⟩ : av), .v (.int .i64 0)]) := by
 have := ulb exT exS 7 2 9 (by decide)
 rwa [exSplit.1, exSplit.2] at this
theorem xv : da cv Tryz.prog 27 [b8 exT, val (⟨6, exL⟩ : av), .v (.int .i64 9), .v (.int .i64 7)] (.tup [val exS, .v (.int .i64 0)]) := by
 have := ulh exT ⟨6, exL⟩ 9 7 (by decide)
 rwa [exJoin.1, exJoin.2] at this
set_option maxHeartbeats 4000000 in
theorem umh : da cv Tryz.prog 12 [] (.v (.bool true)) := by
 refine fy Tryz.func12 rfl (fun m => .v) fun G nx hF => ?_
 simp only [Tryz.ntmps12, List.length_cons, List.length_nil, Nat.reduceAdd, Nat.reduceSub]
 refine bi fun hlt => ?_
 dsimp only at hlt
 have hnx := hlt 0 _ hF
 refine yS fun _ K1 => ?_
 refine yR ?_
 refine yA rfl rfl ?_
 refine yN ?_
 dsimp only [St.put]
 refine K1 _ ?_
 refine yS fun _ K2 => ?_
 refine yR ?_
 try dsimp only [St.put]
 refine ae rfl (bd rfl rfl rfl (mc) ?_)
 try dsimp only [St.put]
 refine ae rfl (bd rfl rfl rfl (ow) ?_)
 try dsimp only [St.put]
 refine ae rfl (eb rfl rfl rfl (umm) zG ?_)
 refine yM rfl rfl ?_
 refine yX rfl rfl rfl rfl ?_
 refine yX rfl rfl rfl rfl ?_
 refine yA rfl rfl ?_
 refine yA rfl rfl ?_
 refine yN ?_
 dsimp only [St.put]
 refine K2 _ ?_
 refine yS fun _ K3 => ?_
 refine yR ?_
 try dsimp only [St.put]
 refine ae rfl (bd rfl rfl rfl (mc) ?_)
 try dsimp only [St.put]
 refine ae rfl (bd rfl rfl rfl (ow) ?_)
 try dsimp only [St.put]
 refine ae rfl (bd rfl rfl rfl (p5 _ _ _) ?_)
 try dsimp only [St.put]
 refine ae rfl (eb rfl rfl rfl (uml) zG ?_)
 refine yM rfl rfl ?_
 refine yX rfl rfl rfl rfl ?_
 refine yX rfl rfl rfl rfl ?_
 try dsimp only [St.put]
 refine ae rfl (bp rfl ?_)
 try dsimp only [St.put]
 refine ae rfl (ay rfl rfl rfl zG rfl rfl (by rfl) ?_)
 refine yA rfl rfl ?_
 refine yN ?_
 dsimp only [St.put]
 refine K3 _ ?_
 refine dg (i := 3) rfl zG (by first | exact List.cons_ne_nil _ _ | (simp; done) | (simp [putAt]; done)) ?_
 dsimp only
 refine yS fun _ K4 => ?_
 refine yR ?_
 try dsimp only [St.put]
 refine ae rfl (bd rfl rfl rfl (mc) ?_)
 try dsimp only [St.put]
 refine ae rfl (bd rfl rfl rfl (ow) ?_)
 try dsimp only [St.put]
 refine ae rfl (bd rfl rfl rfl (n3 _ _ _) ?_)
 try dsimp only [St.put]
 refine ae rfl (eb rfl rfl rfl (umk) zG ?_)
 refine yM rfl rfl ?_
 refine yX rfl rfl rfl rfl ?_
 refine yX rfl rfl rfl rfl ?_
 refine yA rfl rfl ?_
 refine yA rfl rfl ?_
 refine yN ?_
 dsimp only [St.put]
 refine K4 _ ?_
 refine yS fun _ K5 => ?_
 refine yR ?_
 try dsimp only [St.put]
 refine ae rfl (bd rfl rfl rfl (mc) ?_)
 try dsimp only [St.put]
 refine ae rfl (bd rfl rfl rfl (ow) ?_)
 try dsimp only [St.put]
 refine ae rfl (bd rfl rfl rfl (p5 _ _ _) ?_)
 try dsimp only [St.put]
 refine ae rfl (eb rfl rfl rfl (umo) zG ?_)
 refine yM rfl rfl ?_
 refine yX rfl rfl rfl rfl ?_
 refine yX rfl rfl rfl rfl ?_
 refine yA rfl rfl ?_
 refine yA rfl rfl ?_
 refine yN ?_
 dsimp only [St.put]
 refine K5 _ ?_
 refine yS fun _ K6 => ?_
 refine yR ?_
 try dsimp only [St.put]
 refine ae rfl (bd rfl rfl rfl (mc) ?_)
 try dsimp only [St.put]
 refine ae rfl (bd rfl rfl rfl (rf) ?_)
 try dsimp only [St.put]
 refine ae rfl (bd rfl rfl rfl (ow) ?_)
 try dsimp only [St.put]
 refine ae rfl (eb rfl rfl rfl (umn) zG ?_)
 refine yM rfl rfl ?_
 refine yX rfl rfl rfl rfl ?_
 refine yX rfl rfl rfl rfl ?_
 refine yA rfl rfl ?_
 refine yA rfl rfl ?_
 refine yN ?_
 dsimp only [St.put]
 refine K6 _ ?_
 refine yS fun _ K7 => ?_
 refine yR ?_
 try dsimp only [St.put]
 refine ae rfl (bd rfl rfl rfl (mc) ?_)
 try dsimp only [St.put]
 refine ae rfl (bd rfl rfl rfl (ow) ?_)
 try dsimp only [St.put]
 refine ae rfl (bd rfl rfl rfl (rf) ?_)
 try dsimp only [St.put]
 refine ae rfl (bd rfl rfl rfl (p5 _ _ _) ?_)
 try dsimp only [St.put]
 refine ae rfl (eb rfl rfl rfl (umi) zG ?_)
 refine yM rfl rfl ?_
 refine yX rfl rfl rfl rfl ?_
 refine yX rfl rfl rfl rfl ?_
 try dsimp only [St.put]
 refine ae rfl (bp rfl ?_)
 try dsimp only [St.put]
 refine ae rfl (ay rfl rfl rfl zG rfl rfl (by rfl) ?_)
 refine yA rfl rfl ?_
 refine yN ?_
 dsimp only [St.put]
 refine K7 _ ?_
 refine dg (i := 11) rfl zG (by first | exact List.cons_ne_nil _ _ | (simp; done) | (simp [putAt]; done)) ?_
 dsimp only
 refine yS fun _ K8 => ?_
 refine yR ?_
 try dsimp only [St.put]
 refine ae rfl (bd rfl rfl rfl (mc) ?_)
 try dsimp only [St.put]
 refine ae rfl (bd rfl rfl rfl (rf) ?_)
 try dsimp only [St.put]
 refine ae rfl (eb rfl rfl rfl (umj) zG ?_)
 refine yM rfl rfl ?_
 refine yX rfl rfl rfl rfl ?_
 refine yX rfl rfl rfl rfl ?_
 try dsimp only [St.put]
 refine ae rfl (bp rfl ?_)
 try dsimp only [St.put]
 refine ae rfl (ay rfl rfl rfl zG rfl rfl (by rfl) ?_)
 refine yA rfl rfl ?_
 refine yN ?_
 dsimp only [St.put]
 refine K8 _ ?_
 refine dg (i := 13) rfl zG (by first | exact List.cons_ne_nil _ _ | (simp; done) | (simp [putAt]; done)) ?_
 dsimp only
 refine fg G zX ?_
 dsimp only
 refine eg 17 ?_
 simp only [dj, bq, Nat.reduceAdd, List.getD_cons_zero, List.getD_cons_succ, List.getD_nil, dw, Nat.reduceBEq, cond_true, cond_false]
 refine mi (X := Unit) (fun _ => True) (fun _ => [(15, .elem (cells exS)), (16, .v (.int .i64 0))]) (fun _ G' => G') rfl ?_ (fun _ _ _ _ h => .inl h) ?_ ?_
 ·rintro _ hI
  exact zL
 ·refine la [(1, none)] (fun _ => false) (fun i => [].contains i) 8 [false, true, false, false, false, false, false, false, false] (by kernel_rfl) (by kernel_rfl) ?_
  try dsimp only [St.put]
  refine aj rfl rfl rfl rfl (aq rfl rfl (Enc.len _)) ?_
  refine bu ?_
  refine bk [0, 6] (by kernel_rfl) (by simp) ?_
  refine bc ?_ ?_
  ·try dsimp only [St.put]
   refine br rfl rfl rfl (bd rfl rfl rfl (mc) ?_)
   refine bk [2, 6] (by kernel_rfl) (by simp) ?_
   refine bc ?_ ?_
   ·try dsimp only [St.put]
    refine br rfl rfl rfl (eb rfl rfl rfl (xv) zG ?_)
    refine cq [(3, none), (4, none), (5, none)] (fun i => [3, 4, 5].contains i) 3 [true, true, true, true, true, true, false, false, false] (by kernel_rfl) ?_
    refine xM rfl rfl rfl rfl rfl ?_
    refine ah rfl rfl rfl rfl (c7 rfl rfl rfl) ?_
    refine ah rfl rfl rfl rfl (c7 rfl rfl rfl) ?_
    refine bu ?_
    refine bk [6] (by kernel_rfl) (by simp) ?_
    refine bc ?_ ?_
    ·try dsimp only [St.put]
     refine br rfl rfl rfl (bp rfl ?_)
     refine bk [7] (by kernel_rfl) (by simp) ?_
     refine bc ?_ ?_
     ·try dsimp only [St.put]
      refine br rfl rfl rfl (ay rfl rfl rfl zG rfl rfl (by rfl) ?_)
      refine cq [(8, none)] (fun i => [8].contains i) 0 [true, true, true, true, true, true, true, true, true] (by kernel_rfl) ?_
      refine ah rfl rfl rfl rfl (cg rfl (by constructor)) ?_
      refine bu ?_
      dsimp only [St.put]
      refine rx (qp (i := 15) rfl zG (by first | exact List.cons_ne_nil _ _ | (simp; done) | (simp [putAt]; done))) ?_
      dsimp only
      refine gk (by kernel_rfl) ?_
      exact ⟨(), trivial, ⟨⟨rfl, rfl⟩, zF, zB, zN, zX⟩⟩
     exact bj
    exact bj
   refine bc ?_ ?_
   ·try dsimp only [St.put]
    refine br rfl rfl rfl (bp rfl ?_)
    refine bk [2] (by kernel_rfl) (by simp) ?_
    refine bc ?_ ?_
    ·try dsimp only [St.put]
     refine br rfl rfl rfl (eb rfl rfl rfl (xv) zG ?_)
     refine cq [(3, none), (4, none), (5, none)] (fun i => [3, 4, 5].contains i) 2 [true, true, true, true, true, true, true, false, false] (by kernel_rfl) ?_
     refine xM rfl rfl rfl rfl rfl ?_
     refine ah rfl rfl rfl rfl (c7 rfl rfl rfl) ?_
     refine ah rfl rfl rfl rfl (c7 rfl rfl rfl) ?_
     refine bu ?_
     refine bk [7] (by kernel_rfl) (by simp) ?_
     refine bc ?_ ?_
     ·try dsimp only [St.put]
      refine br rfl rfl rfl (ay rfl rfl rfl zG rfl rfl (by rfl) ?_)
      refine cq [(8, none)] (fun i => [8].contains i) 0 [true, true, true, true, true, true, true, true, true] (by kernel_rfl) ?_
      refine ah rfl rfl rfl rfl (cg rfl (by constructor)) ?_
      refine bu ?_
      dsimp only [St.put]
      refine rx (qp (i := 15) rfl zG (by first | exact List.cons_ne_nil _ _ | (simp; done) | (simp [putAt]; done))) ?_
      dsimp only
      refine gk (by kernel_rfl) ?_
      exact ⟨(), trivial, ⟨⟨rfl, rfl⟩, zF, zB, zN, zX⟩⟩
     exact bj
    exact bj
   exact bj
  refine bc ?_ ?_
  ·try dsimp only [St.put]
   refine br rfl rfl rfl (bp rfl ?_)
   refine bk [0] (by kernel_rfl) (by simp) ?_
   refine bc ?_ ?_
   ·try dsimp only [St.put]
    refine br rfl rfl rfl (bd rfl rfl rfl (mc) ?_)
    refine bk [2] (by kernel_rfl) (by simp) ?_
    refine bc ?_ ?_
    ·try dsimp only [St.put]
     refine br rfl rfl rfl (eb rfl rfl rfl (xv) zG ?_)
     refine cq [(3, none), (4, none), (5, none)] (fun i => [3, 4, 5].contains i) 2 [true, true, true, true, true, true, true, false, false] (by kernel_rfl) ?_
     refine xM rfl rfl rfl rfl rfl ?_
     refine ah rfl rfl rfl rfl (c7 rfl rfl rfl) ?_
     refine ah rfl rfl rfl rfl (c7 rfl rfl rfl) ?_
     refine bu ?_
     refine bk [7] (by kernel_rfl) (by simp) ?_
     refine bc ?_ ?_
     ·try dsimp only [St.put]
      refine br rfl rfl rfl (ay rfl rfl rfl zG rfl rfl (by rfl) ?_)
      refine cq [(8, none)] (fun i => [8].contains i) 0 [true, true, true, true, true, true, true, true, true] (by kernel_rfl) ?_
      refine ah rfl rfl rfl rfl (cg rfl (by constructor)) ?_
      refine bu ?_
      dsimp only [St.put]
      refine rx (qp (i := 15) rfl zG (by first | exact List.cons_ne_nil _ _ | (simp; done) | (simp [putAt]; done))) ?_
      dsimp only
      refine gk (by kernel_rfl) ?_
      exact ⟨(), trivial, ⟨⟨rfl, rfl⟩, zF, zB, zN, zX⟩⟩
     exact bj
    exact bj
   exact bj
  exact bj
 rintro _ hI
 dsimp only at hI ⊢
 refine yS fun _ K10 => ?_
 refine la [(0, none), (1, none)] (fun _ => false) (fun i => [0, 1].contains i) 79 [true, true, false, false, false, false, false, false, false, false, false, false, false, false, false, false, false, false, false, false, false, false, false, false, false, false, false, false, false, false, false, false, false, false, false, false, false, false, false, false, false, false, false, false, false, false, false, false, false, false, false, false, false, false, false, false, false, false, false, false, false, false, false, false, false, false, false, false, false, false, false, false, false, false, false, false, false, false, false, false, false] (by kernel_rfl) (by kernel_rfl) ?_
 refine xM rfl rfl rfl rfl rfl ?_
 refine xM rfl rfl rfl rfl rfl ?_
 refine bu ?_
 refine bk [2] (by kernel_rfl) (by simp) ?_
 refine bc ?_ ?_
 ·try dsimp only [St.put]
  refine br rfl rfl rfl (bd rfl rfl rfl (n3 _ _ _) ?_)
  refine bk [3] (by kernel_rfl) (by simp) ?_
  refine bc ?_ ?_
  ·try dsimp only [St.put]
   refine br rfl rfl rfl (c9 rfl rfl rfl (by decide) (by decide) zR (by decide) ?_)
   refine bk [4] (by kernel_rfl) (by simp) ?_
   refine bc ?_ ?_
   ·try dsimp only [St.put]
    refine br rfl rfl rfl (bd rfl rfl rfl (vy [⟨1, 0, 0⟩]) ?_)
    refine cq [(5, none)] (fun i => [5].contains i) 75 [true, true, true, true, true, true, false, false, false, false, false, false, false, false, false, false, false, false, false, false, false, false, false, false, false, false, false, false, false, false, false, false, false, false, false, false, false, false, false, false, false, false, false, false, false, false, false, false, false, false, false, false, false, false, false, false, false, false, false, false, false, false, false, false, false, false, false, false, false, false, false, false, false, false, false, false, false, false, false, false, false] (by kernel_rfl) ?_
    refine xM rfl rfl rfl rfl rfl ?_
    refine bu ?_
    refine bk [6] (by kernel_rfl) (by simp) ?_
    refine bc ?_ ?_
    ·try dsimp only [St.put]
     refine br rfl rfl rfl (bd rfl rfl rfl (ow) ?_)
     refine bk [7] (by kernel_rfl) (by simp) ?_
     refine bc ?_ ?_
     ·try dsimp only [St.put]
      refine br rfl rfl rfl (bd rfl rfl rfl (n3 _ _ _) ?_)
      refine bk [8] (by kernel_rfl) (by simp) ?_
      refine bc ?_ ?_
      ·try dsimp only [St.put]
       refine br rfl rfl rfl (bd rfl rfl rfl (p5 _ _ _) ?_)
       refine bk [9] (by kernel_rfl) (by simp) ?_
       refine bc ?_ ?_
       ·try dsimp only [St.put]
        refine br rfl rfl rfl (eb rfl rfl rfl (uaz exV ⟨0, 1, 2⟩ ⟨2, 5, 3⟩ (by decide) exReferV.1 exReferV.2) zG ?_)
        refine cq [(10, none), (11, none)] (fun i => [10, 11].contains i) 69 [true, true, true, true, true, true, true, true, true, true, true, true, false, false, false, false, false, false, false, false, false, false, false, false, false, false, false, false, false, false, false, false, false, false, false, false, false, false, false, false, false, false, false, false, false, false, false, false, false, false, false, false, false, false, false, false, false, false, false, false, false, false, false, false, false, false, false, false, false, false, false, false, false, false, false, false, false, false, false, false, false] (by kernel_rfl) ?_
        refine ah rfl rfl rfl rfl (bg rfl rfl (by constructor)) ?_
        refine xM rfl rfl rfl rfl rfl ?_
        refine bu ?_
        refine bk [12] (by kernel_rfl) (by simp) ?_
        refine bc ?_ ?_
        ·try dsimp only [St.put]
         refine br rfl rfl rfl (bd rfl rfl rfl (rf) ?_)
         refine bk [13] (by kernel_rfl) (by simp) ?_
         refine bc ?_ ?_
         ·try dsimp only [St.put]
          refine br rfl rfl rfl (bd rfl rfl rfl (n3 _ _ _) ?_)
          refine bk [14] (by kernel_rfl) (by simp) ?_
          refine bc ?_ ?_
          ·try dsimp only [St.put]
           refine br rfl rfl rfl (bd rfl rfl rfl (p5 _ _ _) ?_)
           refine bk [15] (by kernel_rfl) (by simp) ?_
           refine bc ?_ ?_
           ·try dsimp only [St.put]
            refine br rfl rfl rfl (eb rfl rfl rfl (uaz exS ⟨0, 1, 2⟩ ⟨7, 2, 3⟩ (by decide) exReferS.1 exReferS.2) zG ?_)
            refine cq [(16, none), (17, none), (18, none), (19, none), (20, none), (21, none), (22, none)] (fun i => [16, 17, 18, 19, 20, 21].contains i) 58 [true, true, true, true, true, true, true, true, true, true, true, true, true, true, true, true, true, true, true, true, true, true, true, false, false, false, false, false, false, false, false, false, false, false, false, false, false, false, false, false, false, false, false, false, false, false, false, false, false, false, false, false, false, false, false, false, false, false, false, false, false, false, false, false, false, false, false, false, false, false, false, false, false, false, false, false, false, false, false, false, false] (by kernel_rfl) ?_
            refine ah rfl rfl rfl rfl (bg rfl rfl (by constructor)) ?_
            refine xM rfl rfl rfl rfl rfl ?_
            refine xM rfl rfl rfl rfl rfl ?_
            refine ah rfl rfl rfl rfl (bt (c := true) (g3 rfl rfl rfl) (decide_eq_true rfl)) ?_
            refine ah rfl rfl rfl rfl (bg rfl rfl (by constructor)) ?_
            refine xM rfl rfl rfl rfl rfl ?_
            try dsimp only [St.put]
            refine aj rfl rfl rfl rfl (aq rfl rfl (Enc.len _)) ?_
            refine bu ?_
            refine bk [23] (by kernel_rfl) (by simp) ?_
            refine bc ?_ ?_
            ·try dsimp only [St.put]
             refine br rfl rfl rfl (bd rfl rfl rfl (n3 _ _ _) ?_)
             refine cq [(24, none), (25, none), (26, none), (27, none), (28, none)] (fun i => [24, 25, 26, 27, 28].contains i) 52 [true, true, true, true, true, true, true, true, true, true, true, true, true, true, true, true, true, true, true, true, true, true, true, true, true, true, true, true, true, false, false, false, false, false, false, false, false, false, false, false, false, false, false, false, false, false, false, false, false, false, false, false, false, false, false, false, false, false, false, false, false, false, false, false, false, false, false, false, false, false, false, false, false, false, false, false, false, false, false, false, false] (by kernel_rfl) ?_
             refine ah rfl rfl rfl rfl (bt (c := true) (nz (x := (⟨0, 1, 2⟩ : PlaceD)) (y := (⟨0, 1, 2⟩ : PlaceD)) rfl rfl rfl) (decide_eq_true rfl)) ?_
             refine ah rfl rfl rfl rfl (bg rfl rfl (by constructor)) ?_
             refine xM rfl rfl rfl rfl rfl ?_
             refine xM rfl rfl rfl rfl rfl ?_
             refine xM rfl rfl rfl rfl rfl ?_
             refine bu ?_
             refine bk [29] (by kernel_rfl) (by simp) ?_
             refine bc ?_ ?_
             ·try dsimp only [St.put]
              refine br rfl rfl rfl (bd rfl rfl rfl (n3 _ _ _) ?_)
              refine bk [30] (by kernel_rfl) (by simp) ?_
              refine bc ?_ ?_
              ·try dsimp only [St.put]
               refine br rfl rfl rfl (c9 rfl rfl rfl (by decide) (by decide) zR (by decide) ?_)
               refine bk [31] (by kernel_rfl) (by simp) ?_
               refine bc ?_ ?_
               ·try dsimp only [St.put]
                refine br rfl rfl rfl (bd rfl rfl rfl (vy [⟨0, 1, 2⟩]) ?_)
                refine cq [(32, none), (33, none), (34, none), (35, none)] (fun i => [32, 33, 34, 35].contains i) 45 [true, true, true, true, true, true, true, true, true, true, true, true, true, true, true, true, true, true, true, true, true, true, true, true, true, true, true, true, true, true, true, true, true, true, true, true, false, false, false, false, false, false, false, false, false, false, false, false, false, false, false, false, false, false, false, false, false, false, false, false, false, false, false, false, false, false, false, false, false, false, false, false, false, false, false, false, false, false, false, false, false] (by kernel_rfl) ?_
                refine ah rfl rfl rfl rfl (bg rfl rfl (by constructor)) ?_
                refine xM rfl rfl rfl rfl rfl ?_
                refine xM rfl rfl rfl rfl rfl ?_
                refine xM rfl rfl rfl rfl rfl ?_
                refine bu ?_
                refine bk [36] (by kernel_rfl) (by simp) ?_
                refine bc ?_ ?_
                ·try dsimp only [St.put]
                 refine br rfl rfl rfl (bd rfl rfl rfl (n3 _ _ _) ?_)
                 refine bk [37] (by kernel_rfl) (by simp) ?_
                 refine bc ?_ ?_
                 ·try dsimp only [St.put]
                  refine br rfl rfl rfl (bd rfl rfl rfl (n3 _ _ _) ?_)
                  refine bk [38] (by kernel_rfl) (by simp) ?_
                  refine bc ?_ ?_
                  ·try dsimp only [St.put]
                   refine br rfl rfl rfl (c9 rfl rfl rfl (by decide) (by decide) zR (by decide) ?_)
                   refine bk [39] (by kernel_rfl) (by simp) ?_
                   refine bc ?_ ?_
                   ·try dsimp only [St.put]
                    refine br rfl rfl rfl (bd rfl rfl rfl (vy [⟨0, 0, 3⟩, ⟨0, 1, 0⟩]) ?_)
                    refine cq [(40, none), (41, none), (42, none), (43, none), (44, none), (45, none), (46, none), (47, none), (48, none)] (fun i => [40, 41, 42, 43, 44, 45, 46, 47, 48].contains i) 32 [true, true, true, true, true, true, true, true, true, true, true, true, true, true, true, true, true, true, true, true, true, true, true, true, true, true, true, true, true, true, true, true, true, true, true, true, true, true, true, true, true, true, true, true, true, true, true, true, true, false, false, false, false, false, false, false, false, false, false, false, false, false, false, false, false, false, false, false, false, false, false, false, false, false, false, false, false, false, false, false, false] (by kernel_rfl) ?_
                    refine ah rfl rfl rfl rfl (bg rfl rfl (by constructor)) ?_
                    refine xM rfl rfl rfl rfl rfl ?_
                    refine xM rfl rfl rfl rfl rfl ?_
                    refine ah rfl rfl rfl rfl (bt (c := true) (g3 rfl rfl rfl) (decide_eq_true rfl)) ?_
                    refine ah rfl rfl rfl rfl (bg rfl rfl (by constructor)) ?_
                    refine xM rfl rfl rfl rfl rfl ?_
                    refine xM rfl rfl rfl rfl rfl ?_
                    refine ah rfl rfl rfl rfl (du rfl rfl) ?_
                    refine ah rfl rfl rfl rfl (du rfl rfl) ?_
                    refine bu ?_
                    refine bk [49] (by kernel_rfl) (by simp) ?_
                    refine bc ?_ ?_
                    ·try dsimp only [St.put]
                     refine br rfl rfl rfl (c9 rfl rfl rfl (by decide) (by decide) zR (by decide) ?_)
                     refine bk [50] (by kernel_rfl) (by simp) ?_
                     refine bc ?_ ?_
                     ·try dsimp only [St.put]
                      refine br rfl rfl rfl (bd rfl rfl rfl (umt [⟨7, 1, 1, 1, 1⟩, ⟨7, 2, 2, 5, 1⟩]) ?_)
                      refine cq [(51, none), (52, none), (53, none), (54, none), (55, none), (56, none), (57, none)] (fun i => [51, 52, 53, 54, 55, 56].contains i) 23 [true, true, true, true, true, true, true, true, true, true, true, true, true, true, true, true, true, true, true, true, true, true, true, true, true, true, true, true, true, true, true, true, true, true, true, true, true, true, true, true, true, true, true, true, true, true, true, true, true, true, true, true, true, true, true, true, true, true, false, false, false, false, false, false, false, false, false, false, false, false, false, false, false, false, false, false, false, false, false, false, false] (by kernel_rfl) ?_
                      refine ah rfl rfl rfl rfl (bg rfl rfl (by constructor)) ?_
                      refine xM rfl rfl rfl rfl rfl ?_
                      refine xM rfl rfl rfl rfl rfl ?_
                      refine ah rfl rfl rfl rfl (bt (c := true) (g3 rfl rfl rfl) (decide_eq_true rfl)) ?_
                      refine ah rfl rfl rfl rfl (bg rfl rfl (by constructor)) ?_
                      refine xM rfl rfl rfl rfl rfl ?_
                      try dsimp only [St.put]
                      refine aj rfl rfl rfl rfl (aq rfl rfl (Enc.len _)) ?_
                      refine bu ?_
                      refine bk [58] (by kernel_rfl) (by simp) ?_
                      refine bc ?_ ?_
                      ·try dsimp only [St.put]
                       refine br rfl rfl rfl (bd rfl rfl rfl (p5 _ _ _) ?_)
                       refine cq [(59, none), (60, none), (61, none), (62, none), (63, none), (64, none), (65, none), (66, none), (67, none)] (fun i => [59, 60, 61, 62, 63, 64, 65, 66].contains i) 13 [true, true, true, true, true, true, true, true, true, true, true, true, true, true, true, true, true, true, true, true, true, true, true, true, true, true, true, true, true, true, true, true, true, true, true, true, true, true, true, true, true, true, true, true, true, true, true, true, true, true, true, true, true, true, true, true, true, true, true, true, true, true, true, true, true, true, true, true, false, false, false, false, false, false, false, false, false, false, false, false, false] (by kernel_rfl) ?_
                       refine ah rfl rfl rfl rfl (bt (c := true) (nz (x := (⟨7, 2, 3⟩ : dm)) (y := (⟨7, 2, 3⟩ : dm)) rfl rfl rfl) (decide_eq_true rfl)) ?_
                       refine ah rfl rfl rfl rfl (bg rfl rfl (by constructor)) ?_
                       refine xM rfl rfl rfl rfl rfl ?_
                       refine xM rfl rfl rfl rfl rfl ?_
                       refine ah rfl rfl rfl rfl (bt (c := true) (g3 rfl rfl rfl) (decide_eq_true rfl)) ?_
                       refine ah rfl rfl rfl rfl (bg rfl rfl (by constructor)) ?_
                       refine xM rfl rfl rfl rfl rfl ?_
                       refine ah rfl rfl rfl rfl (b9 rfl rfl rfl) ?_
                       try dsimp only [St.put]
                       refine aj rfl rfl rfl rfl (a7 rfl rfl) ?_
                       refine bu ?_
                       refine bk [68] (by kernel_rfl) (by simp) ?_
                       refine bc ?_ ?_
                       ·try dsimp only [St.put]
                        refine br rfl rfl rfl (bd rfl rfl rfl (uh1) ?_)
                        refine bk [69] (by kernel_rfl) (by simp) ?_
                        refine bc ?_ ?_
                        ·try dsimp only [St.put]
                         refine br rfl rfl rfl (bd rfl rfl rfl (umr exL) ?_)
                         refine cq [(70, none), (71, none), (72, none), (73, none), (74, none), (75, none), (76, none)] (fun i => [70, 71, 72, 73, 74, 75].contains i) 4 [true, true, true, true, true, true, true, true, true, true, true, true, true, true, true, true, true, true, true, true, true, true, true, true, true, true, true, true, true, true, true, true, true, true, true, true, true, true, true, true, true, true, true, true, true, true, true, true, true, true, true, true, true, true, true, true, true, true, true, true, true, true, true, true, true, true, true, true, true, true, true, true, true, true, true, true, true, false, false, false, false] (by kernel_rfl) ?_
                         refine ah rfl rfl rfl rfl (bg rfl rfl (by constructor)) ?_
                         refine xM rfl rfl rfl rfl rfl ?_
                         refine xM rfl rfl rfl rfl rfl ?_
                         refine ah rfl rfl rfl rfl (bt (c := true) (g3 rfl rfl rfl) (decide_eq_true rfl)) ?_
                         refine ah rfl rfl rfl rfl (bg rfl rfl (by constructor)) ?_
                         refine xM rfl rfl rfl rfl rfl ?_
                         try dsimp only [St.put]
                         refine aj rfl rfl rfl rfl (aq rfl rfl (Enc.len _)) ?_
                         refine bu ?_
                         refine bk [77] (by kernel_rfl) (by simp) ?_
                         refine bc ?_ ?_
                         ·try dsimp only [St.put]
                          refine br rfl rfl rfl (bd rfl rfl rfl (rf) ?_)
                          refine bk [78] (by kernel_rfl) (by simp) ?_
                          refine bc ?_ ?_
                          ·try dsimp only [St.put]
                           refine br rfl rfl rfl (bd rfl rfl rfl (umv exS) ?_)
                           refine cq [(79, none), (80, none)] (fun i => [79, 80].contains i) 0 [true, true, true, true, true, true, true, true, true, true, true, true, true, true, true, true, true, true, true, true, true, true, true, true, true, true, true, true, true, true, true, true, true, true, true, true, true, true, true, true, true, true, true, true, true, true, true, true, true, true, true, true, true, true, true, true, true, true, true, true, true, true, true, true, true, true, true, true, true, true, true, true, true, true, true, true, true, true, true, true, true] (by kernel_rfl) ?_
                           refine ah rfl rfl rfl rfl (bg rfl rfl (by constructor)) ?_
                           refine ah rfl rfl rfl rfl (cg rfl (by constructor)) ?_
                           refine bu ?_
                           dsimp only [St.put]
                           refine gk (by kernel_rfl) ?_
                           refine K10 _ ?_
                           refine am ?_
                           refine bf rfl (by constructor) zN zS ?_
                           rfl
                          exact bj
                         exact bj
                        exact bj
                       exact bj
                      exact bj
                     exact bj
                    exact bj
                   exact bj
                  exact bj
                 exact bj
                exact bj
               exact bj
              exact bj
             exact bj
            exact bj
           exact bj
          exact bj
         exact bj
        exact bj
       exact bj
      exact bj
     exact bj
    exact bj
   exact bj
  exact bj
 exact bj
end Go.Proofs.YtjjklfgpffgnfaaGreatDoor
namespace Go.AB
open Go Go.RowKit
open Go.AB.Enc (cells)
open Go.PB (bv ai PlaceD cy c6 cz)
end Go.AB
namespace Go.Proofs.YtjjklfgpffgnfaaGreatDoor
set_option maxRecDepth 10000
open Go.RowKit Go.AB
open Go.AB.Enc (cells)
open Go.PB (bv ai PlaceD cy c6 cz)
end Go.Proofs.YtjjklfgpffgnfaaGreatDoor
namespace Go.AB
open Go Go.RowKit
open Go.AB.Enc (cells)
open Go.PB (bv ai PlaceD cy c6 cz)
section
variable {t : ai} {e : av} {p q : PlaceD} {r : dm} {v : L2}
end
end Go.AB
