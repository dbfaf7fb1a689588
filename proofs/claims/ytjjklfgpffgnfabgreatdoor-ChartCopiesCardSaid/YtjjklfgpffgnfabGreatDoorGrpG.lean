/-
  What the walks through the program rest on: values, states, steps, calls (AbRem, GaMade, GbWords, GcPlain, GdAlive, GePick, GfFacts).
-/
import Derived.Test.YtjjklfgpffgnfabGreatDoorEngB
import Derived.Test.YtjjklfgpffgnfabGreatDoorGrpO
import Derived.Test.YtjjklfgpffgnfabGreatDoorDbMove
import Derived.Test.YtjjklfgpffgnfabGreatDoorCzBook
import Derived.Test.YtjjklfgpffgnfabGreatDoorCuFuncs
import Derived.Test.YtjjklfgpffgnfabGreatDoorCsRows
import Derived.Test.YtjjklfgpffgnfabGreatDoorEcRefer
import Derived.Test.YtjjklfgpffgnfabGreatDoorOpenP
import Derived.Test.YtjjklfgpffgnfabGreatDoorFeClose
import Derived.Test.YtjjklfgpffgnfabGreatDoorEiCross
namespace Go.AB
open Go Go.RowKit Go.ChangeShapes Go.WideShapes
open Go.AB.Enc (cells)
variable {P : Program} {o : Oper} {st : St}
theorem xp {xt yt : TypeId} {x y : Operand} {m n : Int} (ho : o.op = .binOp .rem xt x y yt) (hx : evC st x = .v (.int .i64 m)) (hy : evC st y = .v (.int .i64 n)) (hm : 0 ≤ m ∧ m ≤ 9223372036854775807) (hn : 0 < n) : NStep P o st (.v (.int .i64 (m % n))) :=
 nh ho hx hy (jq (by have h1 := Int.emod_nonneg m (b := n) (by omega); have h2 := Int.mul_ediv_add_emod m n; have h3 := Int.mul_nonneg (Int.le_of_lt hn) (Int.ediv_nonneg hm.1 (Int.le_of_lt hn)); omega)) fun w => by
  have h1 : ¬ n = 0 := by omega
  have h2 : m.tmod n = m % n := Int.tmod_eq_emod_of_nonneg hm.1
  simp [eqGuard, binOp, Op.intDiv, h1, h2]
theorem uf {s d : TypeId} {x : Operand} {k : IntKind} {n : Int} (ho : o.op = .convert s d x) (hx : evC st x = .v (.int k n)) (hs : (P.underlying s).isSome = true) (hd : P.underlying d = some (.int .i64)) (hn : -9223372036854775808 ≤ n ∧ n ≤ 9223372036854775807) : NStep P o st (.v (.int .i64 n)) := fun E w a h => by
 have e1 := (hx ▸ h.ev x).v_inv
 refine ⟨_, .v (jq hn), fun w' => ?_⟩
 have hk : P.intKind d = .i64 := by simp [Program.intKind, hd]
 have hw : IntKind.i64.wrap n = n := by rw [IntKind.wrap_i64]; omega
 have := run_convert_int (P := P) w' s d k n hs (by rw [hk]; exact hd)
 rw [hk, hw] at this
 simp [execOp, ho, e1, this]
theorem OpensE.argU8 {t : TypeId} (h : qx P t .u8 = true) {H : Type} {enc : TypeId × Value → H} {w : World} {base : Nat} {spare : Nat → Bool} {held : Bool} {r : Reach} {b0 : Nat} {v : Value} {d : DataW H} {ps : List MemPlace}
  (hv : Value.okWide P w r b0 t v) (hd : DataW.Trod enc P w base spare held t v d ps) : ∃ a : Int, R (jo w) w (.v (.int .u8 a)) v := by
 obtain ⟨i, rfl, _, _, wi⟩ := open_int (sl h).1 hv hd
 exact ⟨i, .v (wfU8 wi)⟩
theorem uaa {n : Int} (h : (C.v (.int .u8 n)).fit) : 0 ≤ n ∧ n ≤ 255 := (okV_int.1 (fit_v.1 h) : _)
end Go.AB
namespace Go.AB
open Go Go.RowKit
open Go.AB.Enc (cells)
open Go.PB (bh af PlaceD ar bp cj)
/-- An edition whose stretches are owned is laid for good when the call ends. -/
theorem ubc {P : Program} {f : FuncId} {args : List C} {G : Nat → Option GObj} {nx : Nat} {x : aw} {er : Int} {tt : TypeId}
  (h : PC P f args G nx fun r G' nx' => ∃ y : Nat × Nat, nx ≤ y.1 ∧ r = .tup [.agg [.v (.int .i64 x.id), .own y.1 x.ss.length x.ss.length], .v (.int .i64 er)] ∧ G' = ah G y.1 (.arr x.ss.length y.2 tt 5 x.ss.length (bt x.ss)) ∧ nx' = y.1 + 1) :
  PC P f args G nx fun r G' nx' => r = .tup [val x, .v (.int .i64 er)] ∧ G' = G ∧ nx' = nx := by
 intro E w vs hr hg
 refine (h E w vs hr hg).mono ?_
 rintro e w' ⟨r', v, E', G', nx', e1, e2, e3, e4, y, hy, rfl, rfl, rfl⟩
 obtain ⟨E2, hE, hg2, hl⟩ := t8 e4 x.ss (jd _ _ _) rfl rfl rfl
 have hnx := hg.nx
 have key : R E2 w' (.tup [val x, .v (.int .i64 er)]) v := by
  obtain ⟨us, rfl, h1⟩ := e3.tup_inv
  refine Rs.tup ⟨h1.1, fun j c u hc hu => ?_⟩
  match j, hc, hu with
  | 0, hc, hu =>
   cases hc
   obtain ⟨ws, rfl, h2, h3⟩ := (h1.2 0 _ u rfl hu).agg_inv
   refine Rs.agg ⟨h2.1, fun i d z hd hz => ?_⟩ (Enc.one x)
   match i, hd, hz with
   | 0, hd, hz => cases hd; exact (h2.2 0 _ z rfl hz).ev hE
   | 1, hd, hz => cases hd; exact hl z (h2.2 1 _ z rfl hz)
   | i + 2, hd, _ => cases hd
  | 1, hc, hu => cases hc; exact (h1.2 1 _ u rfl hu).ev hE
  | j + 2, hc, _ => cases hc
 refine ⟨_, v, E2.drop nx, G, nx, e1, (e2.trans hE).drop (by omega), key.drop (.tup (am (da _ _) (am .v bn))), ?_, rfl, rfl, rfl⟩
 refine (hg2.weak fun k o ho => ?_).drop fun k o ho => hg.lowG ho
 have := (hg.lowG ho).1
 rw [kn (by omega), dz (by omega)]
 exact ho
noncomputable def wq (t : af) (e : aw) (c l to : Int) : aw := cm e (dx t e c l to) (e9 t e c l to)
noncomputable def yb (t : af) (e : aw) (c to : Int) : aw := cm e (eb t e c to) (fa t e c to)
end Go.AB
namespace Go.Proofs.YtjjklfgpffgnfabGreatDoor
set_option maxRecDepth 10000
open Go.RowKit Go.AB
open Go.AB.Enc (cells)
open Go.PB (bh af PlaceD ar bp cj)
theorem upa (t : af) (e : aw) (cp l to : Int) (hl : e.ss.length ≤ 20) : c8 cr Tryz.prog 23 [b7 t, val e, .v (.int .i64 cp), .v (.int .i64 l), .v (.int .i64 to)] (.tup [val (wq t e cp l to), .v (.int .i64 (dx t e cp l to))]) :=
 fun G nx hF => ubc (uhj t e cp l to hl G nx hF)
theorem upg (t : af) (e : aw) (cp to : Int) (hl : e.ss.length ≤ 20) : c8 cr Tryz.prog 24 [b7 t, val e, .v (.int .i64 cp), .v (.int .i64 to)] (.tup [val (yb t e cp to), .v (.int .i64 (eb t e cp to))]) :=
 fun G nx hF => ubc (ul7 t e cp to hl G nx hF)
end Go.Proofs.YtjjklfgpffgnfabGreatDoor
namespace Go.AB
open Go Go.RowKit
open Go.AB.Enc (cells)
open Go.PB (bh af PlaceD ar bp cj)
def wThe : ByteArray := ⟨#[116, 104, 101]⟩
def wSea : ByteArray := ⟨#[115, 101, 97]⟩
def wIs : ByteArray := ⟨#[105, 115]⟩
def wOld : ByteArray := ⟨#[111, 108, 100]⟩
def wAnd : ByteArray := ⟨#[97, 110, 100]⟩
def exT : af := [⟨7, [[wThe, wSea, wIs, wOld], [wOld, wThe, wSea]]⟩, ⟨3, [[wSea, wAnd, wSea]]⟩]
def exV : aw := ⟨5, [⟨0, 0, 1, 1, 1⟩, ⟨0, 1, 2, 2, 5⟩]⟩
def exS : aw := ⟨6, [⟨0, 0, 2, 7, 1⟩, ⟨1, 0, 1, 3, 1⟩]⟩
def exL : List StretchD := [⟨0, 0, 1, 7, 1⟩, ⟨0, 1, 2, 9, 1⟩, ⟨1, 0, 1, 3, 1⟩]
end Go.AB
namespace Go.Proofs.YtjjklfgpffgnfabGreatDoor
set_option maxRecDepth 10000
open Go.RowKit Go.AB
open Go.AB.Enc (cells)
open Go.PB (bh af PlaceD ar bp cj)
theorem mg : ce Tryz.prog 9 [] (b7 exT) := by
 refine cv Tryz.func9 rfl (fun m => .agg (am (bd _ _) bn)) fun G nx => ?_
 simp only [Tryz.ntmps9, List.length_cons, List.length_nil, Nat.reduceAdd, Nat.reduceSub]
 refine bf fun hlt => ?_
 dsimp only at hlt
 refine yS fun _ K1 => ?_
 refine yR ?_
 try dsimp only [St.put]
 refine ae rfl (bj rfl ?_)
 refine yN ?_
 dsimp only [St.put]
 refine K1 _ ?_
 refine yS fun _ K2 => ?_
 refine yR ?_
 try dsimp only [St.put]
 refine ae rfl (cq rfl rfl rfl (by decide) (by decide) zR (by decide) ?_)
 try dsimp only [St.put]
 refine ae rfl (cq rfl rfl rfl (by decide) (by decide) zR (by decide) ?_)
 try dsimp only [St.put]
 refine ae rfl (cq rfl rfl rfl (by decide) (by decide) zR (by decide) ?_)
 refine aa rfl (dg rfl rfl) ?_
 try dsimp only [St.put]
 refine ae rfl (cq rfl rfl rfl (by decide) (by decide) zR (by decide) ?_)
 try dsimp only [St.put]
 refine ae rfl (cq rfl rfl rfl (by decide) (by decide) zR (by decide) ?_)
 refine aa rfl (dg rfl rfl) ?_
 try dsimp only [St.put]
 refine ae rfl (cq rfl rfl rfl (by decide) (by decide) zR (by decide) ?_)
 refine aa rfl (dg rfl rfl) ?_
 try dsimp only [St.put]
 refine ae rfl (ax rfl rfl rfl zG rfl rfl (by rfl) ?_)
 refine yN ?_
 dsimp only [St.put]
 refine K2 _ ?_
 refine aj ?_
 refine jw rfl (dr rfl zG (by rfl) (by first | exact List.cons_ne_nil _ _ | (simp; done) | (simp [putAt]; done)) rfl) zN zS ?_
 exact zW
theorem pg : ce Tryz.prog 12 [] (val exV) := by
 refine cv Tryz.func12 rfl (fun m => (da _ _)) fun G nx => ?_
 simp only [Tryz.ntmps12, List.length_cons, List.length_nil, Nat.reduceAdd, Nat.reduceSub]
 refine bf fun hlt => ?_
 dsimp only at hlt
 refine yS fun _ K1 => ?_
 refine yR ?_
 try dsimp only [St.put]
 refine ae rfl (bj rfl ?_)
 refine yN ?_
 dsimp only [St.put]
 refine K1 _ ?_
 refine yS fun _ K2 => ?_
 refine yR ?_
 refine aa rfl (dg rfl rfl) ?_
 refine aa rfl (dg rfl rfl) ?_
 try dsimp only [St.put]
 refine ae rfl (cq rfl rfl rfl (by decide) (by decide) zR (by decide) ?_)
 refine aa rfl (dg rfl rfl) ?_
 try dsimp only [St.put]
 refine ae rfl (ax rfl rfl rfl zG rfl rfl (by rfl) ?_)
 refine yN ?_
 dsimp only [St.put]
 refine K2 _ ?_
 refine aj ?_
 refine jw rfl (dr rfl zG (by rfl) (by first | exact List.cons_ne_nil _ _ | (simp; done) | (simp [putAt]; done)) rfl) zN zS ?_
 exact zW
theorem sf : ce Tryz.prog 7 [] (val exS) := by
 refine cv Tryz.func7 rfl (fun m => (da _ _)) fun G nx => ?_
 simp only [Tryz.ntmps7, List.length_cons, List.length_nil, Nat.reduceAdd, Nat.reduceSub]
 refine bf fun hlt => ?_
 dsimp only at hlt
 refine yS fun _ K1 => ?_
 refine yR ?_
 try dsimp only [St.put]
 refine ae rfl (bj rfl ?_)
 refine yN ?_
 dsimp only [St.put]
 refine K1 _ ?_
 refine yS fun _ K2 => ?_
 refine yR ?_
 refine aa rfl (dg rfl rfl) ?_
 refine aa rfl (dg rfl rfl) ?_
 try dsimp only [St.put]
 refine ae rfl (cq rfl rfl rfl (by decide) (by decide) zR (by decide) ?_)
 refine aa rfl (dg rfl rfl) ?_
 try dsimp only [St.put]
 refine ae rfl (ax rfl rfl rfl zG rfl rfl (by rfl) ?_)
 refine yN ?_
 dsimp only [St.put]
 refine K2 _ ?_
 refine aj ?_
 refine jw rfl (dr rfl zG (by rfl) (by first | exact List.cons_ne_nil _ _ | (simp; done) | (simp [putAt]; done)) rfl) zN zS ?_
 exact zW
theorem ulr : ce Tryz.prog 39 [] (lst exL) := by
 refine cv Tryz.func39 rfl (fun m => (bd _ _)) fun G nx => ?_
 simp only [Tryz.ntmps39, List.length_cons, List.length_nil, Nat.reduceAdd, Nat.reduceSub]
 refine bf fun hlt => ?_
 dsimp only at hlt
 refine yS fun _ K1 => ?_
 refine yR ?_
 refine yA rfl rfl ?_
 refine yN ?_
 dsimp only [St.put]
 refine K1 _ ?_
 refine yS fun _ K2 => ?_
 refine yR ?_
 refine aa rfl (dg rfl rfl) ?_
 refine aa rfl (dg rfl rfl) ?_
 refine aa rfl (dg rfl rfl) ?_
 try dsimp only [St.put]
 refine ae rfl (cq rfl rfl rfl (by decide) (by decide) zR (by decide) ?_)
 refine yA rfl rfl ?_
 refine yN ?_
 dsimp only [St.put]
 refine K2 _ ?_
 refine aj ?_
 refine ay rfl (by constructor) zN zS ?_
 rfl
theorem np (a b c : Int) : ce Tryz.prog 17 [.v (.int .i64 a), .v (.int .i64 b), .v (.int .i64 c)] (val (⟨a, b, c⟩ : PlaceD)) := by
 refine cv Tryz.func17 rfl (fun m => (da _ _)) fun G nx => ?_
 simp only [Tryz.ntmps17, List.length_cons, List.length_nil, Nat.reduceAdd, Nat.reduceSub]
 refine bf fun hlt => ?_
 dsimp only at hlt
 refine yS fun _ K1 => ?_
 refine yR ?_
 try dsimp only [St.put]
 refine ae rfl (bj rfl ?_)
 refine yN ?_
 dsimp only [St.put]
 refine K1 _ ?_
 refine yS fun _ K2 => ?_
 refine yR ?_
 refine yM rfl rfl ?_
 refine yM rfl rfl ?_
 refine yM rfl rfl ?_
 refine aa rfl (dg rfl rfl) ?_
 try dsimp only [St.put]
 refine ae rfl (ax rfl rfl rfl zG rfl rfl (by rfl) ?_)
 refine yN ?_
 dsimp only [St.put]
 refine K2 _ ?_
 refine aj ?_
 refine jw rfl (dr rfl zG (by rfl) (by first | exact List.cons_ne_nil _ _ | (simp; done) | (simp [putAt]; done)) rfl) zN zS ?_
 exact zW
theorem qs (a b c : Int) : ce Tryz.prog 13 [.v (.int .i64 a), .v (.int .i64 b), .v (.int .i64 c)] (val (⟨a, b, c⟩ : dd)) := by
 refine cv Tryz.func13 rfl (fun m => (da _ _)) fun G nx => ?_
 simp only [Tryz.ntmps13, List.length_cons, List.length_nil, Nat.reduceAdd, Nat.reduceSub]
 refine bf fun hlt => ?_
 dsimp only at hlt
 refine yS fun _ K1 => ?_
 refine yR ?_
 try dsimp only [St.put]
 refine ae rfl (bj rfl ?_)
 refine yN ?_
 dsimp only [St.put]
 refine K1 _ ?_
 refine yS fun _ K2 => ?_
 refine yR ?_
 refine yM rfl rfl ?_
 refine yM rfl rfl ?_
 refine yM rfl rfl ?_
 refine aa rfl (dg rfl rfl) ?_
 try dsimp only [St.put]
 refine ae rfl (ax rfl rfl rfl zG rfl rfl (by rfl) ?_)
 refine yN ?_
 dsimp only [St.put]
 refine K2 _ ?_
 refine aj ?_
 refine jw rfl (dr rfl zG (by rfl) (by first | exact List.cons_ne_nil _ _ | (simp; done) | (simp [putAt]; done)) rfl) zN zS ?_
 exact zW
theorem ult (l m : List PlaceD) (e : Int) : ce Tryz.prog 16 [lst l, .v (.int .i64 e), lst m] (.v (.bool (decide (e = 0) && decide (l = m)))) := by
 refine cv Tryz.func16 rfl (fun m => .v) fun G nx => ?_
 simp only [Tryz.ntmps16, List.length_cons, List.length_nil, Nat.reduceAdd, Nat.reduceSub]
 refine bf fun hlt => ?_
 dsimp only at hlt
 refine yS fun _ K1 => ?_
 refine yR ?_
 refine yA rfl rfl ?_
 refine yN ?_
 dsimp only [St.put]
 refine K1 _ ?_
 refine yS fun _ K2 => ?_
 refine yR ?_
 refine yM rfl rfl ?_
 refine aa rfl (gx rfl rfl rfl) ?_
 refine yM rfl rfl ?_
 refine et (fun hs => ?_) (fun hs => ?_)
 ·have h1 := of_decide_eq_true hs
  refine yM rfl rfl ?_
  refine yM rfl rfl ?_
  try dsimp only [St.put]
  refine ae rfl (a7 rfl rfl rfl (uft l m) ?_)
  refine aa rfl (co rfl rfl (by constructor)) ?_
  refine yA rfl rfl ?_
  refine yN ?_
  dsimp only [St.put]
  refine K2 _ ?_
  refine aj ?_
  refine ay rfl (by constructor) zN zS ?_
  exact vb (by simp [h1])
 have h1 := of_decide_eq_false hs
 refine yK rfl ?_
 refine yK rfl ?_
 refine yK rfl ?_
 refine aa rfl (dh rfl rfl (by constructor)) ?_
 refine yA rfl rfl ?_
 refine yN ?_
 dsimp only [St.put]
 refine K2 _ ?_
 refine aj ?_
 refine ay rfl (by constructor) zN zS ?_
 exact vb (by simp [h1])
end Go.Proofs.YtjjklfgpffgnfabGreatDoor
namespace Go.AB
open Go Go.RowKit
open Go.AB.Enc (cells)
open Go.PB (bh af PlaceD ar bp cj)
/-- no two stretches clash -/
def ubs (ss : List StretchD) : Bool := (List.range ss.length).all fun b => (List.range b).all fun a => match ss[a]?, ss[b]? with
 | some x, some y => !k7 x y
 | _, _ => true
theorem una {ss : List StretchD} (h : ubs ss = true) : ff ss = none := by
 refine udq (o := none) fun a b ⟨hab, x, y, hx, hy, hc⟩ => ?_
 have h1 := List.all_eq_true.1 h b (List.mem_range.2 (List.getElem?_eq_some_iff.1 hy).1)
 have h2 := List.all_eq_true.1 h1 a (List.mem_range.2 hab)
 rw [hx, hy] at h2
 simp [hc] at h2
theorem wt {t : af} {e : aw} (h : ct t e = 0) (hn : ubs e.ss = true) : cb t e = 0 := by
 simp [cb, h, una hn]
theorem ulo {t : af} {e : aw} {r : dd} {p : PlaceD} (h : cb t e = 0) (hr : gt r = true) (hp : iu t e.ss r = some p) : jg t e r = 0 ∧ jt t e r = p := by
 have h1 : jg t e r = 0 := by simp [jg, h, ki, hr, hp]
 exact ⟨h1, by simp [jt, h1, hp]⟩
theorem uav {t : af} {e : aw} {p : PlaceD} {v : L2} (h : cb t e = 0) (hp : fe t p = true) (hv : av e.ss (p.ch, p.ln) = some v) : ec t e p = 0 ∧ g7 t e p = ⟨v.1, v.2, p.wd + 1⟩ := by
 have h1 : ec t e p = 0 := by simp [ec, h, hp, hv]
 exact ⟨h1, by simp [g7, h1, hv]⟩
theorem uka {t : af} {e : aw} {p : PlaceD} {L : List PlaceD} (h : cb t e = 0) (hp : fe t p = true) (hL : nf t e.ss p = L) (h0 : L ≠ []) : jr t e p = 0 ∧ ku t e p = L := by
 have h1 : jr t e p = 0 := by simp [jr, h, hp, hL, h0]
 exact ⟨h1, by simp [ku, h1, hL]⟩
theorem uox {t : af} {e : aw} {r : dd} {L : List PlaceD} (h : cb t e = 0) (hp : gt r = true) (hL : ny t e.ss r = L) (h0 : L ≠ []) : jy t e r = 0 ∧ kz t e r = L := by
 have h1 : jy t e r = 0 := by simp [jy, h, hp, hL, h0]
 exact ⟨h1, by simp [kz, h1, hL]⟩
theorem ue9 {t : af} {e f : aw} (h : cb t e = 0) (k : cb t f = 0) : ge t e f = 0 := by
 simp [ge, (lp h).1, (lp k).1, h, k]
theorem ugl {t : af} {e f : aw} {r : dd} {p : PlaceD} (h : cb t e = 0) (k : cb t f = 0) (hr : gt r = true) (hp : iu t e.ss r = some p) : gr t e f r = ec t f p ∧ gi t e f r = g7 t f p := by
 have h1 : gr t e f r = ec t f p := by simp [gr, ue9 h k, ki, hr, hp]
 refine ⟨h1, ?_⟩
 unfold gi
 rw [h1, hp, Option.getD_some]
 by_cases h2 : ec t f p = 0
 ·simp [h2]
 ·simp [h2, g7]
/-- what leads from one edition to another one, found line by line -/
def vn (es fs : List StretchD) (p : L2) : Option dt := match av es p, av fs p with
 | some v, some u => some (jf v u)
 | _, _ => none
theorem crossOf_some {es fs : List StretchD} {p : L2} {x : dt} : vn es fs p = some x ↔ ∃ v u, av es p = some v ∧ av fs p = some u ∧ x = jf v u := by
 unfold vn
 cases av es p with
 | none => simp
 | some v => cases av fs p with
  | none => simp
  | some u => simp [eq_comm]
theorem uof {t : af} {es fs : List StretchD} (hS : Sound t es) {L : List dt} (h1 : L.Pairwise fun a b => ltL (qh a) (qh b)) (h2 : ∀ x, x ∈ L ↔ x ∈ (dn t).filterMap (vn es fs)) : ot es fs L := by
 refine ⟨h1, fun x => (h2 x).trans ⟨fun h => ?_, fun ⟨p, v, u, hv, hu, e⟩ => ?_⟩⟩
 ·obtain ⟨p, hp, hx⟩ := List.mem_filterMap.1 h
  obtain ⟨v, u, q⟩ := crossOf_some.1 hx
  exact ⟨p, v, u, q⟩
 ·obtain ⟨l, hl⟩ := vu hS hv
  exact List.mem_filterMap.2 ⟨p, mem_lines.2 ⟨l, hl⟩, crossOf_some.2 ⟨v, u, hv, hu, e⟩⟩
/-! ### The examples -/
theorem ov : cb exT exV = 0 := wt (by decide +kernel) (by decide +kernel)
theorem rp : cb exT exS = 0 := wt (by decide +kernel) (by decide +kernel)
theorem uhm : cb exT ⟨6, exL⟩ = 0 := wt (by decide +kernel) (by decide +kernel)
theorem exGaps : nv exT exV = [⟨1, 0, 0⟩] ∧ ct exT exV = 0 := ⟨by decide +kernel, by decide +kernel⟩
theorem exLead : jg exT exV ⟨2, 5, 3⟩ = 0 ∧ jt exT exV ⟨2, 5, 3⟩ = ⟨0, 1, 2⟩ := ulo ov (by decide +kernel) (by decide +kernel)
theorem exReferV : ec exT exV ⟨0, 1, 2⟩ = 0 ∧ g7 exT exV ⟨0, 1, 2⟩ = ⟨2, 5, 3⟩ := uav (v := (2, 5)) ov (by decide +kernel) (by decide +kernel)
theorem exReferS : ec exT exS ⟨0, 1, 2⟩ = 0 ∧ g7 exT exS ⟨0, 1, 2⟩ = ⟨7, 2, 3⟩ := uav (v := (7, 2)) rp (by decide +kernel) (by decide +kernel)
theorem exNear : jr exT exV ⟨1, 0, 1⟩ = 0 ∧ ku exT exV ⟨1, 0, 1⟩ = [⟨0, 1, 2⟩] :=
 uka ov (by decide +kernel) ((ubv (by decide +kernel)).symm.trans (by decide +kernel)) (by simp)
theorem exClose : jy exT exV ⟨1, 9, 1⟩ = 0 ∧ kz exT exV ⟨1, 9, 1⟩ = [⟨0, 0, 3⟩, ⟨0, 1, 0⟩] :=
 uox ov (by decide +kernel) ((ueo (mu ov) (by decide +kernel) (by decide +kernel) (ys := fh exT (av exV.ss)) (List.Perm.refl _) (by decide +kernel)).symm.trans (by decide +kernel)) (by simp)
theorem exCross : ge exT exS exV = 0 ∧ nw exT exS exV = [⟨7, 1, 1, 1, 1⟩, ⟨7, 2, 2, 5, 1⟩] := by
 have h := ue9 rp ov
 refine ⟨h, ?_⟩
 have hc : vm exS.ss exV.ss = [⟨7, 1, 1, 1, 1⟩, ⟨7, 2, 2, 5, 1⟩] := ueh (uof (mu rp) (by decide +kernel) fun x => by rw [show (dn exT).filterMap (vn exS.ss exV.ss) = [⟨7, 1, 1, 1, 1⟩, ⟨7, 2, 2, 5, 1⟩] by decide +kernel])
 unfold nw
 rw [h, hc]
 decide +kernel
theorem exTurn : gr exT exV exS ⟨2, 5, 3⟩ = 0 ∧ gi exT exV exS ⟨2, 5, 3⟩ = ⟨7, 2, 3⟩ := by
 obtain ⟨h1, h2⟩ := ugl (p := ⟨0, 1, 2⟩) ov rp (r := ⟨2, 5, 3⟩) (by decide +kernel) (by decide +kernel)
 rw [h1, h2]
 exact exReferS
theorem exSplit : dx exT exS 7 2 9 = 0 ∧ wq exT exS 7 2 9 = ⟨6, exL⟩ := by
 have h1 : dx exT exS 7 2 9 = 0 := by unfold dx; rw [rp]; decide +kernel
 refine ⟨h1, ?_⟩
 unfold wq cm
 rw [h1]
 decide +kernel
theorem exJoin : eb exT ⟨6, exL⟩ 9 7 = 0 ∧ yb exT ⟨6, exL⟩ 9 7 = exS := by
 have h1 : eb exT ⟨6, exL⟩ 9 7 = 0 := by unfold eb; rw [uhm]; decide +kernel
 refine ⟨h1, ?_⟩
 unfold yb cm
 rw [h1]
 decide +kernel
end Go.AB
namespace Go.AB
open Go Go.RowKit
open Go.AB.Enc (cells)
open Go.PB (bh af PlaceD ar bp cj)
end Go.AB
namespace Go.Proofs.YtjjklfgpffgnfabGreatDoor
set_option maxRecDepth 10000
open Go.RowKit Go.AB
open Go.AB.Enc (cells)
open Go.PB (bh af PlaceD ar bp cj)
theorem x9 (l : List PlaceD) : ce Tryz.prog 16 [lst l, .v (.int .i64 0), lst l] (.v (.bool true)) := by
 have := ult l l 0
 rwa [decide_eq_true rfl, decide_eq_true rfl] at this
theorem uq3 (a : List dt) : ce Tryz.prog 18 [lst a, lst a] (.v (.bool true)) := by
 have := uq4 a a
 rwa [decide_eq_true rfl] at this
theorem uq1 (a : List StretchD) : ce Tryz.prog 38 [lst a, lst a] (.v (.bool true)) := by
 have := ufs a a
 rwa [decide_eq_true rfl] at this
theorem ucu (e : aw) (p : PlaceD) (r : dd) (hl : e.ss.length ≤ 20) (h : ec exT e p = 0) (hv : g7 exT e p = r) : c8 cr Tryz.prog 37 [val e, val p, val r] (.v (.bool true)) := by
 refine fw Tryz.func37 rfl (fun m => .v) fun G nx hF => ?_
 simp only [Tryz.ntmps37, List.length_cons, List.length_nil, Nat.reduceAdd, Nat.reduceSub]
 refine bf fun hlt => ?_
 dsimp only at hlt
 have hnx := hlt 0 _ hF
 refine yS fun _ K1 => ?_
 refine yR ?_
 try dsimp only [St.put]
 refine yB rfl rfl rfl ?_
 try dsimp only [St.put]
 refine yB rfl rfl rfl ?_
 try dsimp only [St.put]
 refine yB rfl rfl rfl ?_
 refine yA rfl rfl ?_
 refine yN ?_
 dsimp only [St.put]
 refine K1 _ ?_
 refine yS fun _ K2 => ?_
 refine ml [(1, none), (2, none)] (fun _ => false) (fun i => [].contains i) 8 [false, true, true, false, false, false, false, false, false, false] (by kernel_rfl) (by kernel_rfl) ?_
 try dsimp only [St.put]
 refine az rfl rfl rfl rfl (bk rfl rfl (Enc.len _)) ?_
 try dsimp only [St.put]
 refine az rfl rfl rfl rfl (bk rfl rfl (Enc.len _)) ?_
 refine b9 ?_
 refine bv [0, 7] (by kernel_rfl) (by simp) ?_
 refine bo ?_ ?_
 ·try dsimp only [St.put]
  refine bz rfl rfl rfl (a7 rfl rfl rfl (mg) ?_)
  refine bv [3, 7] (by kernel_rfl) (by simp) ?_
  refine bo ?_ ?_
  ·try dsimp only [St.put]
   refine bz rfl rfl rfl (dq rfl rfl rfl (sx exT e p hl) zG ?_)
   refine cy [(4, none), (5, none), (6, none)] (fun i => [4, 5, 6].contains i) 3 [true, true, true, true, true, true, true, false, false, false] (by kernel_rfl) ?_
   refine xM rfl rfl rfl rfl rfl ?_
   refine ai rfl rfl rfl rfl (d9 rfl rfl rfl) ?_
   refine ai rfl rfl rfl rfl (d9 rfl rfl rfl) ?_
   refine b9 ?_
   refine bv [7] (by kernel_rfl) (by simp) ?_
   refine bo ?_ ?_
   ·try dsimp only [St.put]
    refine bz rfl rfl rfl (bj rfl ?_)
    refine bv [8] (by kernel_rfl) (by simp) ?_
    refine bo ?_ ?_
    ·try dsimp only [St.put]
     refine bz rfl rfl rfl (ax rfl rfl rfl zG rfl rfl (by rfl) ?_)
     refine cy [(9, none)] (fun i => [9].contains i) 0 [true, true, true, true, true, true, true, true, true, true] (by kernel_rfl) ?_
     refine ai rfl rfl rfl rfl (eh rfl (by constructor)) ?_
     refine b9 ?_
     dsimp only [St.put]
     refine g6 (by kernel_rfl) ?_
     rw [hv, h]
     refine K2 _ ?_
     refine yS fun _ K3 => ?_
     refine yR ?_
     refine yM rfl rfl ?_
     refine aa rfl (br (c := true) (gx rfl rfl rfl) (decide_eq_true rfl)) ?_
     refine yM rfl rfl ?_
     try dsimp only [St.put]
     refine ba rfl (i6 rfl rfl zG trivial (by rfl)) ?_
     refine yE rfl rfl rfl ?_
     refine aa rfl (br (c := true) (nj (x := r) (y := r) rfl rfl rfl) (decide_eq_true rfl)) ?_
     refine aa rfl (co rfl rfl (by constructor)) ?_
     refine yA rfl rfl ?_
     refine yN ?_
     dsimp only [St.put]
     refine K3 _ ?_
     refine aj ?_
     refine ay rfl (by constructor) zN zS ?_
     rfl
    exact bu
   exact bu
  refine bo ?_ ?_
  ·try dsimp only [St.put]
   refine bz rfl rfl rfl (bj rfl ?_)
   refine bv [3] (by kernel_rfl) (by simp) ?_
   refine bo ?_ ?_
   ·try dsimp only [St.put]
    refine bz rfl rfl rfl (dq rfl rfl rfl (sx exT e p hl) zG ?_)
    refine cy [(4, none), (5, none), (6, none)] (fun i => [4, 5, 6].contains i) 2 [true, true, true, true, true, true, true, true, false, false] (by kernel_rfl) ?_
    refine xM rfl rfl rfl rfl rfl ?_
    refine ai rfl rfl rfl rfl (d9 rfl rfl rfl) ?_
    refine ai rfl rfl rfl rfl (d9 rfl rfl rfl) ?_
    refine b9 ?_
    refine bv [8] (by kernel_rfl) (by simp) ?_
    refine bo ?_ ?_
    ·try dsimp only [St.put]
     refine bz rfl rfl rfl (ax rfl rfl rfl zG rfl rfl (by rfl) ?_)
     refine cy [(9, none)] (fun i => [9].contains i) 0 [true, true, true, true, true, true, true, true, true, true] (by kernel_rfl) ?_
     refine ai rfl rfl rfl rfl (eh rfl (by constructor)) ?_
     refine b9 ?_
     dsimp only [St.put]
     refine g6 (by kernel_rfl) ?_
     rw [hv, h]
     refine K2 _ ?_
     refine yS fun _ K4 => ?_
     refine yR ?_
     refine yM rfl rfl ?_
     refine aa rfl (br (c := true) (gx rfl rfl rfl) (decide_eq_true rfl)) ?_
     refine yM rfl rfl ?_
     try dsimp only [St.put]
     refine ba rfl (i6 rfl rfl zG trivial (by rfl)) ?_
     refine yE rfl rfl rfl ?_
     refine aa rfl (br (c := true) (nj (x := r) (y := r) rfl rfl rfl) (decide_eq_true rfl)) ?_
     refine aa rfl (co rfl rfl (by constructor)) ?_
     refine yA rfl rfl ?_
     refine yN ?_
     dsimp only [St.put]
     refine K4 _ ?_
     refine aj ?_
     refine ay rfl (by constructor) zN zS ?_
     rfl
    exact bu
   exact bu
  exact bu
 refine bo ?_ ?_
 ·try dsimp only [St.put]
  refine bz rfl rfl rfl (bj rfl ?_)
  refine bv [0] (by kernel_rfl) (by simp) ?_
  refine bo ?_ ?_
  ·try dsimp only [St.put]
   refine bz rfl rfl rfl (a7 rfl rfl rfl (mg) ?_)
   refine bv [3] (by kernel_rfl) (by simp) ?_
   refine bo ?_ ?_
   ·try dsimp only [St.put]
    refine bz rfl rfl rfl (dq rfl rfl rfl (sx exT e p hl) zG ?_)
    refine cy [(4, none), (5, none), (6, none)] (fun i => [4, 5, 6].contains i) 2 [true, true, true, true, true, true, true, true, false, false] (by kernel_rfl) ?_
    refine xM rfl rfl rfl rfl rfl ?_
    refine ai rfl rfl rfl rfl (d9 rfl rfl rfl) ?_
    refine ai rfl rfl rfl rfl (d9 rfl rfl rfl) ?_
    refine b9 ?_
    refine bv [8] (by kernel_rfl) (by simp) ?_
    refine bo ?_ ?_
    ·try dsimp only [St.put]
     refine bz rfl rfl rfl (ax rfl rfl rfl zG rfl rfl (by rfl) ?_)
     refine cy [(9, none)] (fun i => [9].contains i) 0 [true, true, true, true, true, true, true, true, true, true] (by kernel_rfl) ?_
     refine ai rfl rfl rfl rfl (eh rfl (by constructor)) ?_
     refine b9 ?_
     dsimp only [St.put]
     refine g6 (by kernel_rfl) ?_
     rw [hv, h]
     refine K2 _ ?_
     refine yS fun _ K5 => ?_
     refine yR ?_
     refine yM rfl rfl ?_
     refine aa rfl (br (c := true) (gx rfl rfl rfl) (decide_eq_true rfl)) ?_
     refine yM rfl rfl ?_
     try dsimp only [St.put]
     refine ba rfl (i6 rfl rfl zG trivial (by rfl)) ?_
     refine yE rfl rfl rfl ?_
     refine aa rfl (br (c := true) (nj (x := r) (y := r) rfl rfl rfl) (decide_eq_true rfl)) ?_
     refine aa rfl (co rfl rfl (by constructor)) ?_
     refine yA rfl rfl ?_
     refine yN ?_
     dsimp only [St.put]
     refine K5 _ ?_
     refine aj ?_
     refine ay rfl (by constructor) zN zS ?_
     rfl
    exact bu
   exact bu
  exact bu
 exact bu
theorem uqw : c8 cr Tryz.prog 10 [b7 exT, val exV] (.tup [lst ([⟨1, 0, 0⟩] : List PlaceD), .v (.int .i64 0)]) := by
 have := y9 exT exV (by decide)
 rwa [exGaps.1, exGaps.2] at this
theorem uqv : c8 cr Tryz.prog 21 [b7 exT, val exV, val (⟨2, 5, 3⟩ : dd)] (.tup [val (⟨0, 1, 2⟩ : PlaceD), .v (.int .i64 0)]) := by
 have := upe exT exV ⟨2, 5, 3⟩ (by decide)
 rwa [exLead.1, exLead.2] at this
theorem uqu : c8 cr Tryz.prog 25 [b7 exT, val exV, val (⟨1, 0, 1⟩ : PlaceD)] (.tup [lst ([⟨0, 1, 2⟩] : List PlaceD), .v (.int .i64 0)]) := by
 have := upc exT exV ⟨1, 0, 1⟩ (by decide)
 rwa [exNear.1, exNear.2] at this
theorem uqy : c8 cr Tryz.prog 11 [b7 exT, val exV, val (⟨1, 9, 1⟩ : dd)] (.tup [lst ([⟨0, 0, 3⟩, ⟨0, 1, 0⟩] : List PlaceD), .v (.int .i64 0)]) := by
 have := upl exT exV ⟨1, 9, 1⟩ (by decide)
 rwa [exClose.1, exClose.2] at this
theorem uqx : c8 cr Tryz.prog 14 [b7 exT, val exS, val exV] (.tup [lst ([⟨7, 1, 1, 1, 1⟩, ⟨7, 2, 2, 5, 1⟩] : List dt), .v (.int .i64 0)]) := by
 have := upi exT exS exV (by decide) (by decide)
 rwa [exCross.1, exCross.2] at this
theorem uqs : c8 cr Tryz.prog 22 [b7 exT, val exV, val exS, val (⟨2, 5, 3⟩ : dd)] (.tup [val (⟨7, 2, 3⟩ : dd), .v (.int .i64 0)]) := by
 have := uo8 exT exV exS ⟨2, 5, 3⟩ (by decide) (by decide)
 rwa [exTurn.1, exTurn.2] at this
theorem uqt : c8 cr Tryz.prog 23 [b7 exT, val exS, .v (.int .i64 7), .v (.int .i64 2), .v (.int .i64 9)] (.tup [val (⟨6, exL⟩ : aw), .v (.int .i64 0)]) := by
 have := upa exT exS 7 2 9 (by decide)
 rwa [exSplit.1, exSplit.2] at this
theorem zn : c8 cr Tryz.prog 24 [b7 exT, val (⟨6, exL⟩ : aw), .v (.int .i64 9), .v (.int .i64 7)] (.tup [val exS, .v (.int .i64 0)]) := by
 have := upg exT ⟨6, exL⟩ 9 7 (by decide)
 rwa [exJoin.1, exJoin.2] at this
set_option maxHeartbeats 4000000 in
theorem uqr : c8 cr Tryz.prog 6 [] (.v (.bool true)) := by
 refine fw Tryz.func6 rfl (fun m => .v) fun G nx hF => ?_
 simp only [Tryz.ntmps6, List.length_cons, List.length_nil, Nat.reduceAdd, Nat.reduceSub]
 refine bf fun hlt => ?_
 dsimp only at hlt
 have hnx := hlt 0 _ hF
 refine yS fun _ K1 => ?_
 refine yR ?_
 refine yA rfl rfl ?_
 refine yN ?_
 dsimp only [St.put]
 refine K1 _ ?_
 refine yS fun _ K2 => ?_
 refine yR ?_
 try dsimp only [St.put]
 refine ae rfl (a7 rfl rfl rfl (mg) ?_)
 try dsimp only [St.put]
 refine ae rfl (a7 rfl rfl rfl (pg) ?_)
 try dsimp only [St.put]
 refine ae rfl (dq rfl rfl rfl (uqw) zG ?_)
 refine yM rfl rfl ?_
 refine yX rfl rfl rfl rfl ?_
 refine yX rfl rfl rfl rfl ?_
 refine yA rfl rfl ?_
 refine yA rfl rfl ?_
 refine yN ?_
 dsimp only [St.put]
 refine K2 _ ?_
 refine yS fun _ K3 => ?_
 refine yR ?_
 try dsimp only [St.put]
 refine ae rfl (a7 rfl rfl rfl (mg) ?_)
 try dsimp only [St.put]
 refine ae rfl (a7 rfl rfl rfl (pg) ?_)
 try dsimp only [St.put]
 refine ae rfl (a7 rfl rfl rfl (qs _ _ _) ?_)
 try dsimp only [St.put]
 refine ae rfl (dq rfl rfl rfl (uqv) zG ?_)
 refine yM rfl rfl ?_
 refine yX rfl rfl rfl rfl ?_
 refine yX rfl rfl rfl rfl ?_
 try dsimp only [St.put]
 refine ae rfl (bj rfl ?_)
 try dsimp only [St.put]
 refine ae rfl (ax rfl rfl rfl zG rfl rfl (by rfl) ?_)
 refine yA rfl rfl ?_
 refine yN ?_
 dsimp only [St.put]
 refine K3 _ ?_
 refine cw (i := 3) rfl zG (by first | exact List.cons_ne_nil _ _ | (simp; done) | (simp [putAt]; done)) ?_
 dsimp only
 refine yS fun _ K4 => ?_
 refine yR ?_
 try dsimp only [St.put]
 refine ae rfl (a7 rfl rfl rfl (mg) ?_)
 try dsimp only [St.put]
 refine ae rfl (a7 rfl rfl rfl (pg) ?_)
 try dsimp only [St.put]
 refine ae rfl (a7 rfl rfl rfl (np _ _ _) ?_)
 try dsimp only [St.put]
 refine ae rfl (dq rfl rfl rfl (uqu) zG ?_)
 refine yM rfl rfl ?_
 refine yX rfl rfl rfl rfl ?_
 refine yX rfl rfl rfl rfl ?_
 refine yA rfl rfl ?_
 refine yA rfl rfl ?_
 refine yN ?_
 dsimp only [St.put]
 refine K4 _ ?_
 refine yS fun _ K5 => ?_
 refine yR ?_
 try dsimp only [St.put]
 refine ae rfl (a7 rfl rfl rfl (mg) ?_)
 try dsimp only [St.put]
 refine ae rfl (a7 rfl rfl rfl (pg) ?_)
 try dsimp only [St.put]
 refine ae rfl (a7 rfl rfl rfl (qs _ _ _) ?_)
 try dsimp only [St.put]
 refine ae rfl (dq rfl rfl rfl (uqy) zG ?_)
 refine yM rfl rfl ?_
 refine yX rfl rfl rfl rfl ?_
 refine yX rfl rfl rfl rfl ?_
 refine yA rfl rfl ?_
 refine yA rfl rfl ?_
 refine yN ?_
 dsimp only [St.put]
 refine K5 _ ?_
 refine yS fun _ K6 => ?_
 refine yR ?_
 try dsimp only [St.put]
 refine ae rfl (a7 rfl rfl rfl (mg) ?_)
 try dsimp only [St.put]
 refine ae rfl (a7 rfl rfl rfl (sf) ?_)
 try dsimp only [St.put]
 refine ae rfl (a7 rfl rfl rfl (pg) ?_)
 try dsimp only [St.put]
 refine ae rfl (dq rfl rfl rfl (uqx) zG ?_)
 refine yM rfl rfl ?_
 refine yX rfl rfl rfl rfl ?_
 refine yX rfl rfl rfl rfl ?_
 refine yA rfl rfl ?_
 refine yA rfl rfl ?_
 refine yN ?_
 dsimp only [St.put]
 refine K6 _ ?_
 refine yS fun _ K7 => ?_
 refine yR ?_
 try dsimp only [St.put]
 refine ae rfl (a7 rfl rfl rfl (mg) ?_)
 try dsimp only [St.put]
 refine ae rfl (a7 rfl rfl rfl (pg) ?_)
 try dsimp only [St.put]
 refine ae rfl (a7 rfl rfl rfl (sf) ?_)
 try dsimp only [St.put]
 refine ae rfl (a7 rfl rfl rfl (qs _ _ _) ?_)
 try dsimp only [St.put]
 refine ae rfl (dq rfl rfl rfl (uqs) zG ?_)
 refine yM rfl rfl ?_
 refine yX rfl rfl rfl rfl ?_
 refine yX rfl rfl rfl rfl ?_
 try dsimp only [St.put]
 refine ae rfl (bj rfl ?_)
 try dsimp only [St.put]
 refine ae rfl (ax rfl rfl rfl zG rfl rfl (by rfl) ?_)
 refine yA rfl rfl ?_
 refine yN ?_
 dsimp only [St.put]
 refine K7 _ ?_
 refine cw (i := 11) rfl zG (by first | exact List.cons_ne_nil _ _ | (simp; done) | (simp [putAt]; done)) ?_
 dsimp only
 refine yS fun _ K8 => ?_
 refine yR ?_
 try dsimp only [St.put]
 refine ae rfl (a7 rfl rfl rfl (mg) ?_)
 try dsimp only [St.put]
 refine ae rfl (a7 rfl rfl rfl (sf) ?_)
 try dsimp only [St.put]
 refine ae rfl (dq rfl rfl rfl (uqt) zG ?_)
 refine yM rfl rfl ?_
 refine yX rfl rfl rfl rfl ?_
 refine yX rfl rfl rfl rfl ?_
 try dsimp only [St.put]
 refine ae rfl (bj rfl ?_)
 try dsimp only [St.put]
 refine ae rfl (ax rfl rfl rfl zG rfl rfl (by rfl) ?_)
 refine yA rfl rfl ?_
 refine yN ?_
 dsimp only [St.put]
 refine K8 _ ?_
 refine cw (i := 13) rfl zG (by first | exact List.cons_ne_nil _ _ | (simp; done) | (simp [putAt]; done)) ?_
 dsimp only
 refine dv G zX ?_
 dsimp only
 refine di 17 ?_
 simp only [cx, bi, Nat.reduceAdd, List.getD_cons_zero, List.getD_cons_succ, List.getD_nil, dc, Nat.reduceBEq, cond_true, cond_false]
 refine mn (X := Unit) (fun _ => True) (fun _ => [(15, .elem (cells exS)), (16, .v (.int .i64 0))]) (fun _ G' => G') rfl ?_ (fun _ _ _ _ h => .inl h) ?_ ?_
 ·rintro _ hI
  exact zL
 ·refine ml [(1, none)] (fun _ => false) (fun i => [].contains i) 8 [false, true, false, false, false, false, false, false, false] (by kernel_rfl) (by kernel_rfl) ?_
  try dsimp only [St.put]
  refine az rfl rfl rfl rfl (bk rfl rfl (Enc.len _)) ?_
  refine b9 ?_
  refine bv [0, 6] (by kernel_rfl) (by simp) ?_
  refine bo ?_ ?_
  ·try dsimp only [St.put]
   refine bz rfl rfl rfl (a7 rfl rfl rfl (mg) ?_)
   refine bv [2, 6] (by kernel_rfl) (by simp) ?_
   refine bo ?_ ?_
   ·try dsimp only [St.put]
    refine bz rfl rfl rfl (dq rfl rfl rfl (zn) zG ?_)
    refine cy [(3, none), (4, none), (5, none)] (fun i => [3, 4, 5].contains i) 3 [true, true, true, true, true, true, false, false, false] (by kernel_rfl) ?_
    refine xM rfl rfl rfl rfl rfl ?_
    refine ai rfl rfl rfl rfl (d9 rfl rfl rfl) ?_
    refine ai rfl rfl rfl rfl (d9 rfl rfl rfl) ?_
    refine b9 ?_
    refine bv [6] (by kernel_rfl) (by simp) ?_
    refine bo ?_ ?_
    ·try dsimp only [St.put]
     refine bz rfl rfl rfl (bj rfl ?_)
     refine bv [7] (by kernel_rfl) (by simp) ?_
     refine bo ?_ ?_
     ·try dsimp only [St.put]
      refine bz rfl rfl rfl (ax rfl rfl rfl zG rfl rfl (by rfl) ?_)
      refine cy [(8, none)] (fun i => [8].contains i) 0 [true, true, true, true, true, true, true, true, true] (by kernel_rfl) ?_
      refine ai rfl rfl rfl rfl (eh rfl (by constructor)) ?_
      refine b9 ?_
      dsimp only [St.put]
      refine s5 (rn (i := 15) rfl zG (by first | exact List.cons_ne_nil _ _ | (simp; done) | (simp [putAt]; done))) ?_
      dsimp only
      refine g6 (by kernel_rfl) ?_
      exact ⟨(), trivial, ⟨⟨rfl, rfl⟩, zF, zB, zN, zX⟩⟩
     exact bu
    exact bu
   refine bo ?_ ?_
   ·try dsimp only [St.put]
    refine bz rfl rfl rfl (bj rfl ?_)
    refine bv [2] (by kernel_rfl) (by simp) ?_
    refine bo ?_ ?_
    ·try dsimp only [St.put]
     refine bz rfl rfl rfl (dq rfl rfl rfl (zn) zG ?_)
     refine cy [(3, none), (4, none), (5, none)] (fun i => [3, 4, 5].contains i) 2 [true, true, true, true, true, true, true, false, false] (by kernel_rfl) ?_
     refine xM rfl rfl rfl rfl rfl ?_
     refine ai rfl rfl rfl rfl (d9 rfl rfl rfl) ?_
     refine ai rfl rfl rfl rfl (d9 rfl rfl rfl) ?_
     refine b9 ?_
     refine bv [7] (by kernel_rfl) (by simp) ?_
     refine bo ?_ ?_
     ·try dsimp only [St.put]
      refine bz rfl rfl rfl (ax rfl rfl rfl zG rfl rfl (by rfl) ?_)
      refine cy [(8, none)] (fun i => [8].contains i) 0 [true, true, true, true, true, true, true, true, true] (by kernel_rfl) ?_
      refine ai rfl rfl rfl rfl (eh rfl (by constructor)) ?_
      refine b9 ?_
      dsimp only [St.put]
      refine s5 (rn (i := 15) rfl zG (by first | exact List.cons_ne_nil _ _ | (simp; done) | (simp [putAt]; done))) ?_
      dsimp only
      refine g6 (by kernel_rfl) ?_
      exact ⟨(), trivial, ⟨⟨rfl, rfl⟩, zF, zB, zN, zX⟩⟩
     exact bu
    exact bu
   exact bu
  refine bo ?_ ?_
  ·try dsimp only [St.put]
   refine bz rfl rfl rfl (bj rfl ?_)
   refine bv [0] (by kernel_rfl) (by simp) ?_
   refine bo ?_ ?_
   ·try dsimp only [St.put]
    refine bz rfl rfl rfl (a7 rfl rfl rfl (mg) ?_)
    refine bv [2] (by kernel_rfl) (by simp) ?_
    refine bo ?_ ?_
    ·try dsimp only [St.put]
     refine bz rfl rfl rfl (dq rfl rfl rfl (zn) zG ?_)
     refine cy [(3, none), (4, none), (5, none)] (fun i => [3, 4, 5].contains i) 2 [true, true, true, true, true, true, true, false, false] (by kernel_rfl) ?_
     refine xM rfl rfl rfl rfl rfl ?_
     refine ai rfl rfl rfl rfl (d9 rfl rfl rfl) ?_
     refine ai rfl rfl rfl rfl (d9 rfl rfl rfl) ?_
     refine b9 ?_
     refine bv [7] (by kernel_rfl) (by simp) ?_
     refine bo ?_ ?_
     ·try dsimp only [St.put]
      refine bz rfl rfl rfl (ax rfl rfl rfl zG rfl rfl (by rfl) ?_)
      refine cy [(8, none)] (fun i => [8].contains i) 0 [true, true, true, true, true, true, true, true, true] (by kernel_rfl) ?_
      refine ai rfl rfl rfl rfl (eh rfl (by constructor)) ?_
      refine b9 ?_
      dsimp only [St.put]
      refine s5 (rn (i := 15) rfl zG (by first | exact List.cons_ne_nil _ _ | (simp; done) | (simp [putAt]; done))) ?_
      dsimp only
      refine g6 (by kernel_rfl) ?_
      exact ⟨(), trivial, ⟨⟨rfl, rfl⟩, zF, zB, zN, zX⟩⟩
     exact bu
    exact bu
   exact bu
  exact bu
 rintro _ hI
 dsimp only at hI ⊢
 refine yS fun _ K10 => ?_
 refine ml [(0, none), (1, none)] (fun _ => false) (fun i => [0, 1].contains i) 79 [true, true, false, false, false, false, false, false, false, false, false, false, false, false, false, false, false, false, false, false, false, false, false, false, false, false, false, false, false, false, false, false, false, false, false, false, false, false, false, false, false, false, false, false, false, false, false, false, false, false, false, false, false, false, false, false, false, false, false, false, false, false, false, false, false, false, false, false, false, false, false, false, false, false, false, false, false, false, false, false, false] (by kernel_rfl) (by kernel_rfl) ?_
 refine xM rfl rfl rfl rfl rfl ?_
 refine xM rfl rfl rfl rfl rfl ?_
 refine b9 ?_
 refine bv [2] (by kernel_rfl) (by simp) ?_
 refine bo ?_ ?_
 ·try dsimp only [St.put]
  refine bz rfl rfl rfl (a7 rfl rfl rfl (np _ _ _) ?_)
  refine bv [3] (by kernel_rfl) (by simp) ?_
  refine bo ?_ ?_
  ·try dsimp only [St.put]
   refine bz rfl rfl rfl (cq rfl rfl rfl (by decide) (by decide) zR (by decide) ?_)
   refine bv [4] (by kernel_rfl) (by simp) ?_
   refine bo ?_ ?_
   ·try dsimp only [St.put]
    refine bz rfl rfl rfl (a7 rfl rfl rfl (x9 [⟨1, 0, 0⟩]) ?_)
    refine cy [(5, none)] (fun i => [5].contains i) 75 [true, true, true, true, true, true, false, false, false, false, false, false, false, false, false, false, false, false, false, false, false, false, false, false, false, false, false, false, false, false, false, false, false, false, false, false, false, false, false, false, false, false, false, false, false, false, false, false, false, false, false, false, false, false, false, false, false, false, false, false, false, false, false, false, false, false, false, false, false, false, false, false, false, false, false, false, false, false, false, false, false] (by kernel_rfl) ?_
    refine xM rfl rfl rfl rfl rfl ?_
    refine b9 ?_
    refine bv [6] (by kernel_rfl) (by simp) ?_
    refine bo ?_ ?_
    ·try dsimp only [St.put]
     refine bz rfl rfl rfl (a7 rfl rfl rfl (pg) ?_)
     refine bv [7] (by kernel_rfl) (by simp) ?_
     refine bo ?_ ?_
     ·try dsimp only [St.put]
      refine bz rfl rfl rfl (a7 rfl rfl rfl (np _ _ _) ?_)
      refine bv [8] (by kernel_rfl) (by simp) ?_
      refine bo ?_ ?_
      ·try dsimp only [St.put]
       refine bz rfl rfl rfl (a7 rfl rfl rfl (qs _ _ _) ?_)
       refine bv [9] (by kernel_rfl) (by simp) ?_
       refine bo ?_ ?_
       ·try dsimp only [St.put]
        refine bz rfl rfl rfl (dq rfl rfl rfl (ucu exV ⟨0, 1, 2⟩ ⟨2, 5, 3⟩ (by decide) exReferV.1 exReferV.2) zG ?_)
        refine cy [(10, none), (11, none)] (fun i => [10, 11].contains i) 69 [true, true, true, true, true, true, true, true, true, true, true, true, false, false, false, false, false, false, false, false, false, false, false, false, false, false, false, false, false, false, false, false, false, false, false, false, false, false, false, false, false, false, false, false, false, false, false, false, false, false, false, false, false, false, false, false, false, false, false, false, false, false, false, false, false, false, false, false, false, false, false, false, false, false, false, false, false, false, false, false, false] (by kernel_rfl) ?_
        refine ai rfl rfl rfl rfl (co rfl rfl (by constructor)) ?_
        refine xM rfl rfl rfl rfl rfl ?_
        refine b9 ?_
        refine bv [12] (by kernel_rfl) (by simp) ?_
        refine bo ?_ ?_
        ·try dsimp only [St.put]
         refine bz rfl rfl rfl (a7 rfl rfl rfl (sf) ?_)
         refine bv [13] (by kernel_rfl) (by simp) ?_
         refine bo ?_ ?_
         ·try dsimp only [St.put]
          refine bz rfl rfl rfl (a7 rfl rfl rfl (np _ _ _) ?_)
          refine bv [14] (by kernel_rfl) (by simp) ?_
          refine bo ?_ ?_
          ·try dsimp only [St.put]
           refine bz rfl rfl rfl (a7 rfl rfl rfl (qs _ _ _) ?_)
           refine bv [15] (by kernel_rfl) (by simp) ?_
           refine bo ?_ ?_
           ·try dsimp only [St.put]
            refine bz rfl rfl rfl (dq rfl rfl rfl (ucu exS ⟨0, 1, 2⟩ ⟨7, 2, 3⟩ (by decide) exReferS.1 exReferS.2) zG ?_)
            refine cy [(16, none), (17, none), (18, none), (19, none), (20, none), (21, none), (22, none)] (fun i => [16, 17, 18, 19, 20, 21].contains i) 58 [true, true, true, true, true, true, true, true, true, true, true, true, true, true, true, true, true, true, true, true, true, true, true, false, false, false, false, false, false, false, false, false, false, false, false, false, false, false, false, false, false, false, false, false, false, false, false, false, false, false, false, false, false, false, false, false, false, false, false, false, false, false, false, false, false, false, false, false, false, false, false, false, false, false, false, false, false, false, false, false, false] (by kernel_rfl) ?_
            refine ai rfl rfl rfl rfl (co rfl rfl (by constructor)) ?_
            refine xM rfl rfl rfl rfl rfl ?_
            refine xM rfl rfl rfl rfl rfl ?_
            refine ai rfl rfl rfl rfl (br (c := true) (gx rfl rfl rfl) (decide_eq_true rfl)) ?_
            refine ai rfl rfl rfl rfl (co rfl rfl (by constructor)) ?_
            refine xM rfl rfl rfl rfl rfl ?_
            try dsimp only [St.put]
            refine az rfl rfl rfl rfl (bk rfl rfl (Enc.len _)) ?_
            refine b9 ?_
            refine bv [23] (by kernel_rfl) (by simp) ?_
            refine bo ?_ ?_
            ·try dsimp only [St.put]
             refine bz rfl rfl rfl (a7 rfl rfl rfl (np _ _ _) ?_)
             refine cy [(24, none), (25, none), (26, none), (27, none), (28, none)] (fun i => [24, 25, 26, 27, 28].contains i) 52 [true, true, true, true, true, true, true, true, true, true, true, true, true, true, true, true, true, true, true, true, true, true, true, true, true, true, true, true, true, false, false, false, false, false, false, false, false, false, false, false, false, false, false, false, false, false, false, false, false, false, false, false, false, false, false, false, false, false, false, false, false, false, false, false, false, false, false, false, false, false, false, false, false, false, false, false, false, false, false, false, false] (by kernel_rfl) ?_
             refine ai rfl rfl rfl rfl (br (c := true) (nj (x := (⟨0, 1, 2⟩ : PlaceD)) (y := (⟨0, 1, 2⟩ : PlaceD)) rfl rfl rfl) (decide_eq_true rfl)) ?_
             refine ai rfl rfl rfl rfl (co rfl rfl (by constructor)) ?_
             refine xM rfl rfl rfl rfl rfl ?_
             refine xM rfl rfl rfl rfl rfl ?_
             refine xM rfl rfl rfl rfl rfl ?_
             refine b9 ?_
             refine bv [29] (by kernel_rfl) (by simp) ?_
             refine bo ?_ ?_
             ·try dsimp only [St.put]
              refine bz rfl rfl rfl (a7 rfl rfl rfl (np _ _ _) ?_)
              refine bv [30] (by kernel_rfl) (by simp) ?_
              refine bo ?_ ?_
              ·try dsimp only [St.put]
               refine bz rfl rfl rfl (cq rfl rfl rfl (by decide) (by decide) zR (by decide) ?_)
               refine bv [31] (by kernel_rfl) (by simp) ?_
               refine bo ?_ ?_
               ·try dsimp only [St.put]
                refine bz rfl rfl rfl (a7 rfl rfl rfl (x9 [⟨0, 1, 2⟩]) ?_)
                refine cy [(32, none), (33, none), (34, none), (35, none)] (fun i => [32, 33, 34, 35].contains i) 45 [true, true, true, true, true, true, true, true, true, true, true, true, true, true, true, true, true, true, true, true, true, true, true, true, true, true, true, true, true, true, true, true, true, true, true, true, false, false, false, false, false, false, false, false, false, false, false, false, false, false, false, false, false, false, false, false, false, false, false, false, false, false, false, false, false, false, false, false, false, false, false, false, false, false, false, false, false, false, false, false, false] (by kernel_rfl) ?_
                refine ai rfl rfl rfl rfl (co rfl rfl (by constructor)) ?_
                refine xM rfl rfl rfl rfl rfl ?_
                refine xM rfl rfl rfl rfl rfl ?_
                refine xM rfl rfl rfl rfl rfl ?_
                refine b9 ?_
                refine bv [36] (by kernel_rfl) (by simp) ?_
                refine bo ?_ ?_
                ·try dsimp only [St.put]
                 refine bz rfl rfl rfl (a7 rfl rfl rfl (np _ _ _) ?_)
                 refine bv [37] (by kernel_rfl) (by simp) ?_
                 refine bo ?_ ?_
                 ·try dsimp only [St.put]
                  refine bz rfl rfl rfl (a7 rfl rfl rfl (np _ _ _) ?_)
                  refine bv [38] (by kernel_rfl) (by simp) ?_
                  refine bo ?_ ?_
                  ·try dsimp only [St.put]
                   refine bz rfl rfl rfl (cq rfl rfl rfl (by decide) (by decide) zR (by decide) ?_)
                   refine bv [39] (by kernel_rfl) (by simp) ?_
                   refine bo ?_ ?_
                   ·try dsimp only [St.put]
                    refine bz rfl rfl rfl (a7 rfl rfl rfl (x9 [⟨0, 0, 3⟩, ⟨0, 1, 0⟩]) ?_)
                    refine cy [(40, none), (41, none), (42, none), (43, none), (44, none), (45, none), (46, none), (47, none), (48, none)] (fun i => [40, 41, 42, 43, 44, 45, 46, 47, 48].contains i) 32 [true, true, true, true, true, true, true, true, true, true, true, true, true, true, true, true, true, true, true, true, true, true, true, true, true, true, true, true, true, true, true, true, true, true, true, true, true, true, true, true, true, true, true, true, true, true, true, true, true, false, false, false, false, false, false, false, false, false, false, false, false, false, false, false, false, false, false, false, false, false, false, false, false, false, false, false, false, false, false, false, false] (by kernel_rfl) ?_
                    refine ai rfl rfl rfl rfl (co rfl rfl (by constructor)) ?_
                    refine xM rfl rfl rfl rfl rfl ?_
                    refine xM rfl rfl rfl rfl rfl ?_
                    refine ai rfl rfl rfl rfl (br (c := true) (gx rfl rfl rfl) (decide_eq_true rfl)) ?_
                    refine ai rfl rfl rfl rfl (co rfl rfl (by constructor)) ?_
                    refine xM rfl rfl rfl rfl rfl ?_
                    refine xM rfl rfl rfl rfl rfl ?_
                    refine ai rfl rfl rfl rfl (dg rfl rfl) ?_
                    refine ai rfl rfl rfl rfl (dg rfl rfl) ?_
                    refine b9 ?_
                    refine bv [49] (by kernel_rfl) (by simp) ?_
                    refine bo ?_ ?_
                    ·try dsimp only [St.put]
                     refine bz rfl rfl rfl (cq rfl rfl rfl (by decide) (by decide) zR (by decide) ?_)
                     refine bv [50] (by kernel_rfl) (by simp) ?_
                     refine bo ?_ ?_
                     ·try dsimp only [St.put]
                      refine bz rfl rfl rfl (a7 rfl rfl rfl (uq3 [⟨7, 1, 1, 1, 1⟩, ⟨7, 2, 2, 5, 1⟩]) ?_)
                      refine cy [(51, none), (52, none), (53, none), (54, none), (55, none), (56, none), (57, none)] (fun i => [51, 52, 53, 54, 55, 56].contains i) 23 [true, true, true, true, true, true, true, true, true, true, true, true, true, true, true, true, true, true, true, true, true, true, true, true, true, true, true, true, true, true, true, true, true, true, true, true, true, true, true, true, true, true, true, true, true, true, true, true, true, true, true, true, true, true, true, true, true, true, false, false, false, false, false, false, false, false, false, false, false, false, false, false, false, false, false, false, false, false, false, false, false] (by kernel_rfl) ?_
                      refine ai rfl rfl rfl rfl (co rfl rfl (by constructor)) ?_
                      refine xM rfl rfl rfl rfl rfl ?_
                      refine xM rfl rfl rfl rfl rfl ?_
                      refine ai rfl rfl rfl rfl (br (c := true) (gx rfl rfl rfl) (decide_eq_true rfl)) ?_
                      refine ai rfl rfl rfl rfl (co rfl rfl (by constructor)) ?_
                      refine xM rfl rfl rfl rfl rfl ?_
                      try dsimp only [St.put]
                      refine az rfl rfl rfl rfl (bk rfl rfl (Enc.len _)) ?_
                      refine b9 ?_
                      refine bv [58] (by kernel_rfl) (by simp) ?_
                      refine bo ?_ ?_
                      ·try dsimp only [St.put]
                       refine bz rfl rfl rfl (a7 rfl rfl rfl (qs _ _ _) ?_)
                       refine cy [(59, none), (60, none), (61, none), (62, none), (63, none), (64, none), (65, none), (66, none), (67, none)] (fun i => [59, 60, 61, 62, 63, 64, 65, 66].contains i) 13 [true, true, true, true, true, true, true, true, true, true, true, true, true, true, true, true, true, true, true, true, true, true, true, true, true, true, true, true, true, true, true, true, true, true, true, true, true, true, true, true, true, true, true, true, true, true, true, true, true, true, true, true, true, true, true, true, true, true, true, true, true, true, true, true, true, true, true, true, false, false, false, false, false, false, false, false, false, false, false, false, false] (by kernel_rfl) ?_
                       refine ai rfl rfl rfl rfl (br (c := true) (nj (x := (⟨7, 2, 3⟩ : dd)) (y := (⟨7, 2, 3⟩ : dd)) rfl rfl rfl) (decide_eq_true rfl)) ?_
                       refine ai rfl rfl rfl rfl (co rfl rfl (by constructor)) ?_
                       refine xM rfl rfl rfl rfl rfl ?_
                       refine xM rfl rfl rfl rfl rfl ?_
                       refine ai rfl rfl rfl rfl (br (c := true) (gx rfl rfl rfl) (decide_eq_true rfl)) ?_
                       refine ai rfl rfl rfl rfl (co rfl rfl (by constructor)) ?_
                       refine xM rfl rfl rfl rfl rfl ?_
                       refine ai rfl rfl rfl rfl (cd rfl rfl rfl) ?_
                       try dsimp only [St.put]
                       refine az rfl rfl rfl rfl (bq rfl rfl) ?_
                       refine b9 ?_
                       refine bv [68] (by kernel_rfl) (by simp) ?_
                       refine bo ?_ ?_
                       ·try dsimp only [St.put]
                        refine bz rfl rfl rfl (a7 rfl rfl rfl (ulr) ?_)
                        refine bv [69] (by kernel_rfl) (by simp) ?_
                        refine bo ?_ ?_
                        ·try dsimp only [St.put]
                         refine bz rfl rfl rfl (a7 rfl rfl rfl (uq1 exL) ?_)
                         refine cy [(70, none), (71, none), (72, none), (73, none), (74, none), (75, none), (76, none)] (fun i => [70, 71, 72, 73, 74, 75].contains i) 4 [true, true, true, true, true, true, true, true, true, true, true, true, true, true, true, true, true, true, true, true, true, true, true, true, true, true, true, true, true, true, true, true, true, true, true, true, true, true, true, true, true, true, true, true, true, true, true, true, true, true, true, true, true, true, true, true, true, true, true, true, true, true, true, true, true, true, true, true, true, true, true, true, true, true, true, true, true, false, false, false, false] (by kernel_rfl) ?_
                         refine ai rfl rfl rfl rfl (co rfl rfl (by constructor)) ?_
                         refine xM rfl rfl rfl rfl rfl ?_
                         refine xM rfl rfl rfl rfl rfl ?_
                         refine ai rfl rfl rfl rfl (br (c := true) (gx rfl rfl rfl) (decide_eq_true rfl)) ?_
                         refine ai rfl rfl rfl rfl (co rfl rfl (by constructor)) ?_
                         refine xM rfl rfl rfl rfl rfl ?_
                         try dsimp only [St.put]
                         refine az rfl rfl rfl rfl (bk rfl rfl (Enc.len _)) ?_
                         refine b9 ?_
                         refine bv [77] (by kernel_rfl) (by simp) ?_
                         refine bo ?_ ?_
                         ·try dsimp only [St.put]
                          refine bz rfl rfl rfl (a7 rfl rfl rfl (sf) ?_)
                          refine bv [78] (by kernel_rfl) (by simp) ?_
                          refine bo ?_ ?_
                          ·try dsimp only [St.put]
                           refine bz rfl rfl rfl (a7 rfl rfl rfl (uq5 exS) ?_)
                           refine cy [(79, none), (80, none)] (fun i => [79, 80].contains i) 0 [true, true, true, true, true, true, true, true, true, true, true, true, true, true, true, true, true, true, true, true, true, true, true, true, true, true, true, true, true, true, true, true, true, true, true, true, true, true, true, true, true, true, true, true, true, true, true, true, true, true, true, true, true, true, true, true, true, true, true, true, true, true, true, true, true, true, true, true, true, true, true, true, true, true, true, true, true, true, true, true, true] (by kernel_rfl) ?_
                           refine ai rfl rfl rfl rfl (co rfl rfl (by constructor)) ?_
                           refine ai rfl rfl rfl rfl (eh rfl (by constructor)) ?_
                           refine b9 ?_
                           dsimp only [St.put]
                           refine g6 (by kernel_rfl) ?_
                           refine K10 _ ?_
                           refine aj ?_
                           refine ay rfl (by constructor) zN zS ?_
                           rfl
                          exact bu
                         exact bu
                        exact bu
                       exact bu
                      exact bu
                     exact bu
                    exact bu
                   exact bu
                  exact bu
                 exact bu
                exact bu
               exact bu
              exact bu
             exact bu
            exact bu
           exact bu
          exact bu
         exact bu
        exact bu
       exact bu
      exact bu
     exact bu
    exact bu
   exact bu
  exact bu
 exact bu
end Go.Proofs.YtjjklfgpffgnfabGreatDoor
namespace Go.AB
open Go Go.RowKit
open Go.AB.Enc (cells)
open Go.PB (bh af PlaceD ar bp cj)
/-- a place of a valid text, by numbers -/
def o8 (t : af) (a b c : Int) : PlaceD := ⟨a % (t.length : Int), b % (f7 t (a % (t.length : Int)) : Int), c % (((ei t (a % (t.length : Int), b % (f7 t (a % (t.length : Int)) : Int))).getD []).length : Int)⟩
theorem yo {a : Int} {n : Nat} (h0 : 0 ≤ a) (hn : 1 ≤ n) : 0 ≤ a % (n : Int) ∧ a % (n : Int) < n ∧ (a % (n : Int)).toNat < n := by
 have h1 := Int.emod_nonneg a (b := (n : Int)) (by omega)
 have h2 := Int.emod_lt_of_pos a (b := (n : Int)) (by omega)
 omega
/-- .. the chapter, the line -/
theorem xf {t : af} (ht : bw t = true) {a b c : Int} (ha : 0 ≤ a) (hb : 0 ≤ b) (hc : 0 ≤ c) : ∃ k n x l, t[k]? = some x ∧ x.lines[n]? = some l ∧ 1 ≤ x.lines.length ∧ x.lines.length ≤ 10 ∧ 1 ≤ l.length ∧ l.length ≤ 10 ∧ a % (t.length : Int) = (k : Nat) ∧ b % (x.lines.length : Int) = (n : Nat) ∧ k < 6 ∧ n < 10 ∧ 0 ≤ c % (l.length : Int) ∧ c % (l.length : Int) < l.length ∧ o8 t a b c = ⟨k, n, c % (l.length : Int)⟩ := by
 obtain ⟨t1, t2, t3⟩ := kh ht
 have h1 := yo ha t1
 obtain ⟨x, hx⟩ : ∃ x, t[(a % (t.length : Int)).toNat]? = some x := ⟨_, List.getElem?_eq_getElem h1.2.2⟩
 obtain ⟨x1, x2, x3⟩ := t3 x (List.mem_of_getElem? hx)
 have h2 := yo hb x1
 obtain ⟨l, hl⟩ : ∃ l, x.lines[(b % (x.lines.length : Int)).toNat]? = some l := ⟨_, List.getElem?_eq_getElem h2.2.2⟩
 obtain ⟨l1, l2⟩ := x3 l (List.mem_of_getElem? hl)
 have h3 := yo hc l1
 have e1 : a % (t.length : Int) = ((a % (t.length : Int)).toNat : Nat) := by omega
 have e2 : b % (x.lines.length : Int) = ((b % (x.lines.length : Int)).toNat : Nat) := by omega
 refine ⟨_, _, x, l, hx, hl, x1, x2, l1, l2, e1, e2, by omega, by omega, h3.1, h3.2.1, ?_⟩
 unfold o8
 rw [ub e1 hx, e1, e2, p8 hx hl]
 rfl
theorem ujn {t : af} (ht : bw t = true) {a b c : Int} (ha : 0 ≤ a) (hb : 0 ≤ b) (hc : 0 ≤ c) : fe t (o8 t a b c) = true := by
 obtain ⟨k, n, x, l, h1, h2, _, _, _, _, _, _, _, _, h3, h4, e⟩ := xf ht ha hb hc
 rw [e]
 exact placeB_true.2 ⟨l, p8 h1 h2, h3, h4⟩
end Go.AB
namespace Go.Proofs.YtjjklfgpffgnfabGreatDoor
set_option maxRecDepth 10000
open Go.RowKit Go.AB
open Go.AB.Enc (cells)
open Go.PB (bh af PlaceD ar bp cj)
theorem u8Ok : qx Tryz.prog 5 .u8 = true := by kernel_rfl
theorem uls (t : af) (a b c : Int) (ht : bw t = true) (ha : 0 ≤ a ∧ a ≤ 255) (hb : 0 ≤ b ∧ b ≤ 255) (hc : 0 ≤ c ∧ c ≤ 255) : ce Tryz.prog 28 [b7 t, .v (.int .u8 a), .v (.int .u8 b), .v (.int .u8 c)] (val (o8 t a b c)) := by
 refine cv Tryz.func28 rfl (fun m => (da _ _)) fun G nx => ?_
 simp only [Tryz.ntmps28, List.length_cons, List.length_nil, Nat.reduceAdd, Nat.reduceSub]
 refine bf fun hlt => ?_
 dsimp only at hlt
 obtain ⟨k, n, x, l, hx, hl, x1, x2, l1, l2, e1, e2, k6, n10, c1, c2, e⟩ := xf ht ha.1 hb.1 hc.1
 obtain ⟨t1, t2, t3⟩ := kh ht
 rw [e]
 refine yS fun _ K1 => ?_
 refine yR ?_
 try dsimp only [St.put]
 refine yB rfl rfl rfl ?_
 try dsimp only [St.put]
 refine ae rfl (bj rfl ?_)
 refine yN ?_
 dsimp only [St.put]
 refine K1 _ ?_
 refine yS fun _ K2 => ?_
 refine yR ?_
 refine yM rfl rfl ?_
 refine aa rfl (uf rfl rfl (by kernel_rfl) (by kernel_rfl) (by omega)) ?_
 refine yF rfl rfl rfl rfl ?_
 refine yL rfl rfl rfl ?_
 refine aa rfl (bx rfl rfl (List.length_map _)) ?_
 refine aa rfl (xp rfl rfl rfl (by omega) (by omega)) ?_
 try dsimp only [St.put]
 refine ae rfl (a7 rfl rfl rfl (np _ _ _) ?_)
 try dsimp only [St.put]
 refine ae rfl (bj rfl ?_)
 try dsimp only [St.put]
 refine ae rfl (ax rfl rfl rfl zG rfl rfl (by rfl) ?_)
 refine yN ?_
 dsimp only [St.put]
 rw [e1]
 refine K2 _ ?_
 refine yS fun _ K3 => ?_
 refine yR ?_
 refine yF rfl rfl rfl rfl ?_
 refine yL rfl rfl rfl ?_
 refine aa rfl (ip rfl rfl) ?_
 try dsimp only [St.put]
 refine ba rfl (i7 rfl rfl zG trivial (by first | rfl | assumption)) ?_
 refine aa rfl (b8 rfl rfl rfl rfl (cg (by assumption)) (Enc.len _)) ?_
 refine yF rfl rfl rfl rfl ?_
 refine yL rfl rfl rfl ?_
 refine yA rfl rfl ?_
 refine yN ?_
 dsimp only [St.put]
 refine K3 _ ?_
 refine yS fun _ K4 => ?_
 refine yR ?_
 refine yM rfl rfl ?_
 refine aa rfl (uf rfl rfl (by kernel_rfl) (by kernel_rfl) (by omega)) ?_
 refine yM rfl rfl ?_
 refine aa rfl (bx rfl rfl (List.length_map _)) ?_
 refine aa rfl (xp rfl rfl rfl (by omega) (by omega)) ?_
 refine aa rfl (ip rfl rfl) ?_
 try dsimp only [St.put]
 refine ae rfl (rd rfl rfl rfl zG (by constructor) rfl (by first | (simp; done) | (simp; omega) | exact Nat.lt_of_lt_of_eq (by decide) (Enc.len _).symm) ?_)
 refine yN ?_
 dsimp only [St.put]
 rw [e2]
 refine K4 _ ?_
 refine yS fun _ K5 => ?_
 refine yR ?_
 refine yM rfl rfl ?_
 refine aa rfl (uf rfl rfl (by kernel_rfl) (by kernel_rfl) (by omega)) ?_
 refine yM rfl rfl ?_
 refine aa rfl (ip rfl rfl) ?_
 try dsimp only [St.put]
 refine ba rfl (i7 rfl rfl zG trivial (by first | rfl | assumption)) ?_
 refine aa rfl (b8 rfl rfl rfl rfl (cg (by assumption)) (Enc.len _)) ?_
 refine yL rfl rfl rfl ?_
 refine aa rfl (bx rfl rfl (List.length_map _)) ?_
 refine aa rfl (xp rfl rfl rfl (by omega) (by omega)) ?_
 refine aa rfl (ip rfl rfl) ?_
 try dsimp only [St.put]
 refine ae rfl (rd rfl rfl rfl zG (by constructor) rfl (by show 0 + 2 < 3; decide) ?_)
 refine yN ?_
 dsimp only [St.put]
 refine K5 _ ?_
 refine yS fun _ K6 => ?_
 refine yR ?_
 try dsimp only [St.put]
 refine ba rfl (i6 rfl rfl zG trivial (by rfl)) ?_
 try dsimp only [St.put]
 refine ae rfl (ax rfl rfl rfl zG rfl rfl (by rfl) ?_)
 refine yN ?_
 dsimp only [St.put]
 refine K6 _ ?_
 refine aj ?_
 refine jw rfl (dr rfl zG (by rfl) (by first | exact List.cons_ne_nil _ _ | (simp; done) | (simp [putAt]; done)) rfl) zN zS ?_
 exact zW
end Go.Proofs.YtjjklfgpffgnfabGreatDoor
namespace Go.AB
open Go Go.RowKit
open Go.AB.Enc (cells)
open Go.PB (bh af PlaceD ar bp cj)
section
variable {t : af} {e : aw} {p q : PlaceD} {r : dd} {v : L2}
end
end Go.AB
