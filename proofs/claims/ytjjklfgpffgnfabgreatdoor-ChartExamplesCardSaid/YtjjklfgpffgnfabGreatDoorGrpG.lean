/-
  What the walks through the program rest on: values, states, steps, calls (AbRem, GaMade, GbWords, GcPlain, GdAlive, GePick, GfFacts).
-/
import Derived.Test.YtjjklfgpffgnfabGreatDoorEngB
import Derived.Test.YtjjklfgpffgnfabGreatDoorOpenE
import Derived.Test.YtjjklfgpffgnfabGreatDoorDbMove
import Derived.Test.YtjjklfgpffgnfabGreatDoorCzBook
import Derived.Test.YtjjklfgpffgnfabGreatDoorCuFuncs
import Derived.Test.YtjjklfgpffgnfabGreatDoorCsRows
import Derived.Test.YtjjklfgpffgnfabGreatDoorEcRefer
import Derived.Test.YtjjklfgpffgnfabGreatDoorOpenP
import Derived.Test.YtjjklfgpffgnfabGreatDoorFeClose
import Derived.Test.YtjjklfgpffgnfabGreatDoorEiCross
namespace Go.AB
open Go Go.RowKit Go.ChangeShapes Go.WideShapes
open Go.AB.Enc (cells)
variable {P : Program} {o : Oper} {st : St}
end Go.AB
namespace Go.AB
open Go Go.RowKit
open Go.AB.Enc (cells)
open Go.PB (Chap TextD PlaceD ReadingD CopyD WayD)
/-- An edition whose stretches are owned is laid for good when the call ends. -/
theorem pc_commit_ed {P : Program} {f : FuncId} {args : List C} {G : Nat → Option GObj} {nx : Nat} {x : EditionD} {er : Int} {tt : TypeId}
  (h : PC P f args G nx fun r G' nx' => ∃ y : Nat × Nat, nx ≤ y.1 ∧ r = .tup [.agg [.v (.int .i64 x.id), .own y.1 x.ss.length x.ss.length], .v (.int .i64 er)] ∧ G' = setG G y.1 (.arr x.ss.length y.2 tt 5 x.ss.length (flatC x.ss)) ∧ nx' = y.1 + 1) :
  PC P f args G nx fun r G' nx' => r = .tup [val x, .v (.int .i64 er)] ∧ G' = G ∧ nx' = nx := by
 intro E w vs hr hg
 refine (h E w vs hr hg).mono ?_
 rintro e w' ⟨r', v, E', G', nx', e1, e2, e3, e4, y, hy, rfl, rfl, rfl⟩
 obtain ⟨E2, hE, hg2, hl⟩ := own_commit_core e4 x.ss (setG_same _ _ _) rfl rfl rfl
 have hnx := hg.nx
 have key : R E2 w' (.tup [val x, .v (.int .i64 er)]) v := by
  obtain ⟨us, rfl, h1⟩ := e3.tup_inv
  refine Rs.tup ⟨h1.1, fun j c u hc hu => ?_⟩
  match j, hc, hu with
  | 0, hc, hu =>
   cases hc
   obtain ⟨ws, rfl, h2, h3⟩ := (h1.2 0 _ u rfl hu).agg_inv
   refine Rs.agg ⟨h2.1, fun i d z hd hz => ?_⟩ (Enc.one x)
   match i, hd, hz with
   | 0, hd, hz => cases hd; exact (h2.2 0 _ z rfl hz).ev hE
   | 1, hd, hz => cases hd; exact hl z (h2.2 1 _ z rfl hz)
   | i + 2, hd, _ => cases hd
  | 1, hc, hu => cases hc; exact (h1.2 1 _ u rfl hu).ev hE
  | j + 2, hc, _ => cases hc
 refine ⟨_, v, E2.drop nx, G, nx, e1, (e2.trans hE).drop (by omega), key.drop (.tup (low_cons (val_low _ _) (low_cons .v low_nil))), ?_, rfl, rfl, rfl⟩
 refine (hg2.weak fun k o ho => ?_).drop fun k o ho => hg.lowG ho
 have := (hg.lowG ho).1
 rw [delG_other (by omega), setG_other (by omega)]
 exact ho
noncomputable def splitV (t : TextD) (e : EditionD) (c l to : Int) : EditionD := edIf e (splitEr t e c l to) (splitL t e c l to)
noncomputable def joinV (t : TextD) (e : EditionD) (c to : Int) : EditionD := edIf e (joinEr t e c to) (joinL t e c to)
end Go.AB
namespace Go.Proofs.YtjjklfgpffgnfabGreatDoor
set_option maxRecDepth 10000
open Go.RowKit Go.AB
open Go.AB.Enc (cells)
open Go.PB (Chap TextD PlaceD ReadingD CopyD WayD)
theorem chartSplit_pureF (t : TextD) (e : EditionD) (cp l to : Int) (hl : e.ss.length ≤ 20) : PureF chkF Tryz.prog 23 [textC t, val e, .v (.int .i64 cp), .v (.int .i64 l), .v (.int .i64 to)] (.tup [val (splitV t e cp l to), .v (.int .i64 (splitEr t e cp l to))]) :=
 fun G nx hF => pc_commit_ed (split_pc t e cp l to hl G nx hF)
theorem chartJoin_pureF (t : TextD) (e : EditionD) (cp to : Int) (hl : e.ss.length ≤ 20) : PureF chkF Tryz.prog 24 [textC t, val e, .v (.int .i64 cp), .v (.int .i64 to)] (.tup [val (joinV t e cp to), .v (.int .i64 (joinEr t e cp to))]) :=
 fun G nx hF => pc_commit_ed (join_pc t e cp to hl G nx hF)
theorem chartPlain_pureF (t : TextD) (e : EditionD) (hl : e.ss.length ≤ 20) : PureF chkF Tryz.prog 15 [textC t, val e] (.tup [val (plainE t e), .v (.int .i64 (soundEr t e))]) := by
 by_cases h : soundEr t e = 0
 ·obtain ⟨h0, hfc⟩ := soundEr_check h
  obtain ⟨ht, hl12, he⟩ := checkEr_text h0
  have hL : plainE t e = ⟨e.id, plainS (asOf e.ss) (linesT t)⟩ := by rw [plain_same he]; simp [plainE, h]
  rw [hL, h]
  exact fun G nx hF => pc_commit_ed ((chartPlain_ok t e hl h G nx hF).mono fun r G' nx' ⟨y, h1, h2, h3⟩ => ⟨(nx + 1 + 1 + 1 + 1 + 1 + 1 + 1, y), by dsimp only; omega, h1, h2, h3⟩)
 ·rw [show plainE t e = ⟨0, []⟩ by simp [plainE, h]]
  exact chartPlain_no t e hl h
end Go.Proofs.YtjjklfgpffgnfabGreatDoor
namespace Go.AB
open Go Go.RowKit
open Go.AB.Enc (cells)
open Go.PB (Chap TextD PlaceD ReadingD CopyD WayD)
def wThe : ByteArray := ⟨#[116, 104, 101]⟩
def wSea : ByteArray := ⟨#[115, 101, 97]⟩
def wIs : ByteArray := ⟨#[105, 115]⟩
def wOld : ByteArray := ⟨#[111, 108, 100]⟩
def wAnd : ByteArray := ⟨#[97, 110, 100]⟩
def exT : TextD := [⟨7, [[wThe, wSea, wIs, wOld], [wOld, wThe, wSea]]⟩, ⟨3, [[wSea, wAnd, wSea]]⟩]
def exV : EditionD := ⟨5, [⟨0, 0, 1, 1, 1⟩, ⟨0, 1, 2, 2, 5⟩]⟩
def exS : EditionD := ⟨6, [⟨0, 0, 2, 7, 1⟩, ⟨1, 0, 1, 3, 1⟩]⟩
def exL : List StretchD := [⟨0, 0, 1, 7, 1⟩, ⟨0, 1, 2, 9, 1⟩, ⟨1, 0, 1, 3, 1⟩]
end Go.AB
namespace Go.Proofs.YtjjklfgpffgnfabGreatDoor
set_option maxRecDepth 10000
open Go.RowKit Go.AB
open Go.AB.Enc (cells)
open Go.PB (Chap TextD PlaceD ReadingD CopyD WayD)
theorem lawText_pure : Pure Tryz.prog 9 [] (textC exT) := by
 refine pure_of_body Tryz.func9 rfl (fun m => .agg (low_cons (lst_low _ _) low_nil)) fun G nx => ?_
 simp only [Tryz.ntmps9, List.length_cons, List.length_nil, Nat.reduceAdd, Nat.reduceSub]
 refine aw_lt fun hlt => ?_
 dsimp only at hlt
 refine yS fun _ K1 => ?_
 refine yR ?_
 try dsimp only [St.put]
 refine aops_e rfl (e_allocC rfl ?_)
 refine yN ?_
 dsimp only [St.put]
 refine K1 _ ?_
 refine yS fun _ K2 => ?_
 refine yR ?_
 try dsimp only [St.put]
 refine aops_e rfl (e_buildSlice rfl rfl rfl (by decide) (by decide) zR (by decide) ?_)
 try dsimp only [St.put]
 refine aops_e rfl (e_buildSlice rfl rfl rfl (by decide) (by decide) zR (by decide) ?_)
 try dsimp only [St.put]
 refine aops_e rfl (e_buildSlice rfl rfl rfl (by decide) (by decide) zR (by decide) ?_)
 refine aops_n rfl (n_build rfl rfl) ?_
 try dsimp only [St.put]
 refine aops_e rfl (e_buildSlice rfl rfl rfl (by decide) (by decide) zR (by decide) ?_)
 try dsimp only [St.put]
 refine aops_e rfl (e_buildSlice rfl rfl rfl (by decide) (by decide) zR (by decide) ?_)
 refine aops_n rfl (n_build rfl rfl) ?_
 try dsimp only [St.put]
 refine aops_e rfl (e_buildSlice rfl rfl rfl (by decide) (by decide) zR (by decide) ?_)
 refine aops_n rfl (n_build rfl rfl) ?_
 try dsimp only [St.put]
 refine aops_e rfl (e_store_all rfl rfl rfl zG rfl rfl (by rfl) ?_)
 refine yN ?_
 dsimp only [St.put]
 refine K2 _ ?_
 refine aw_ret ?_
 refine ends_v1 rfl (rv_box rfl zG (by rfl) (by first | exact List.cons_ne_nil _ _ | (simp; done) | (simp [putAt]; done)) rfl) zN zS ?_
 exact zW
theorem lawFive_pure : Pure Tryz.prog 12 [] (val exV) := by
 refine pure_of_body Tryz.func12 rfl (fun m => (val_low _ _)) fun G nx => ?_
 simp only [Tryz.ntmps12, List.length_cons, List.length_nil, Nat.reduceAdd, Nat.reduceSub]
 refine aw_lt fun hlt => ?_
 dsimp only at hlt
 refine yS fun _ K1 => ?_
 refine yR ?_
 try dsimp only [St.put]
 refine aops_e rfl (e_allocC rfl ?_)
 refine yN ?_
 dsimp only [St.put]
 refine K1 _ ?_
 refine yS fun _ K2 => ?_
 refine yR ?_
 refine aops_n rfl (n_build rfl rfl) ?_
 refine aops_n rfl (n_build rfl rfl) ?_
 try dsimp only [St.put]
 refine aops_e rfl (e_buildSlice rfl rfl rfl (by decide) (by decide) zR (by decide) ?_)
 refine aops_n rfl (n_build rfl rfl) ?_
 try dsimp only [St.put]
 refine aops_e rfl (e_store_all rfl rfl rfl zG rfl rfl (by rfl) ?_)
 refine yN ?_
 dsimp only [St.put]
 refine K2 _ ?_
 refine aw_ret ?_
 refine ends_v1 rfl (rv_box rfl zG (by rfl) (by first | exact List.cons_ne_nil _ _ | (simp; done) | (simp [putAt]; done)) rfl) zN zS ?_
 exact zW
theorem lawSix_pure : Pure Tryz.prog 7 [] (val exS) := by
 refine pure_of_body Tryz.func7 rfl (fun m => (val_low _ _)) fun G nx => ?_
 simp only [Tryz.ntmps7, List.length_cons, List.length_nil, Nat.reduceAdd, Nat.reduceSub]
 refine aw_lt fun hlt => ?_
 dsimp only at hlt
 refine yS fun _ K1 => ?_
 refine yR ?_
 try dsimp only [St.put]
 refine aops_e rfl (e_allocC rfl ?_)
 refine yN ?_
 dsimp only [St.put]
 refine K1 _ ?_
 refine yS fun _ K2 => ?_
 refine yR ?_
 refine aops_n rfl (n_build rfl rfl) ?_
 refine aops_n rfl (n_build rfl rfl) ?_
 try dsimp only [St.put]
 refine aops_e rfl (e_buildSlice rfl rfl rfl (by decide) (by decide) zR (by decide) ?_)
 refine aops_n rfl (n_build rfl rfl) ?_
 try dsimp only [St.put]
 refine aops_e rfl (e_store_all rfl rfl rfl zG rfl rfl (by rfl) ?_)
 refine yN ?_
 dsimp only [St.put]
 refine K2 _ ?_
 refine aw_ret ?_
 refine ends_v1 rfl (rv_box rfl zG (by rfl) (by first | exact List.cons_ne_nil _ _ | (simp; done) | (simp [putAt]; done)) rfl) zN zS ?_
 exact zW
theorem lawSplit_pure : Pure Tryz.prog 39 [] (lst exL) := by
 refine pure_of_body Tryz.func39 rfl (fun m => (lst_low _ _)) fun G nx => ?_
 simp only [Tryz.ntmps39, List.length_cons, List.length_nil, Nat.reduceAdd, Nat.reduceSub]
 refine aw_lt fun hlt => ?_
 dsimp only at hlt
 refine yS fun _ K1 => ?_
 refine yR ?_
 refine yA rfl rfl ?_
 refine yN ?_
 dsimp only [St.put]
 refine K1 _ ?_
 refine yS fun _ K2 => ?_
 refine yR ?_
 refine aops_n rfl (n_build rfl rfl) ?_
 refine aops_n rfl (n_build rfl rfl) ?_
 refine aops_n rfl (n_build rfl rfl) ?_
 try dsimp only [St.put]
 refine aops_e rfl (e_buildSlice rfl rfl rfl (by decide) (by decide) zR (by decide) ?_)
 refine yA rfl rfl ?_
 refine yN ?_
 dsimp only [St.put]
 refine K2 _ ?_
 refine aw_ret ?_
 refine ends_1 rfl (by constructor) zN zS ?_
 rfl
theorem lawPlace_pure (a b c : Int) : Pure Tryz.prog 17 [.v (.int .i64 a), .v (.int .i64 b), .v (.int .i64 c)] (val (⟨a, b, c⟩ : PlaceD)) := by
 refine pure_of_body Tryz.func17 rfl (fun m => (val_low _ _)) fun G nx => ?_
 simp only [Tryz.ntmps17, List.length_cons, List.length_nil, Nat.reduceAdd, Nat.reduceSub]
 refine aw_lt fun hlt => ?_
 dsimp only at hlt
 refine yS fun _ K1 => ?_
 refine yR ?_
 try dsimp only [St.put]
 refine aops_e rfl (e_allocC rfl ?_)
 refine yN ?_
 dsimp only [St.put]
 refine K1 _ ?_
 refine yS fun _ K2 => ?_
 refine yR ?_
 refine yM rfl rfl ?_
 refine yM rfl rfl ?_
 refine yM rfl rfl ?_
 refine aops_n rfl (n_build rfl rfl) ?_
 try dsimp only [St.put]
 refine aops_e rfl (e_store_all rfl rfl rfl zG rfl rfl (by rfl) ?_)
 refine yN ?_
 dsimp only [St.put]
 refine K2 _ ?_
 refine aw_ret ?_
 refine ends_v1 rfl (rv_box rfl zG (by rfl) (by first | exact List.cons_ne_nil _ _ | (simp; done) | (simp [putAt]; done)) rfl) zN zS ?_
 exact zW
theorem lawRef_pure (a b c : Int) : Pure Tryz.prog 13 [.v (.int .i64 a), .v (.int .i64 b), .v (.int .i64 c)] (val (⟨a, b, c⟩ : RefD)) := by
 refine pure_of_body Tryz.func13 rfl (fun m => (val_low _ _)) fun G nx => ?_
 simp only [Tryz.ntmps13, List.length_cons, List.length_nil, Nat.reduceAdd, Nat.reduceSub]
 refine aw_lt fun hlt => ?_
 dsimp only at hlt
 refine yS fun _ K1 => ?_
 refine yR ?_
 try dsimp only [St.put]
 refine aops_e rfl (e_allocC rfl ?_)
 refine yN ?_
 dsimp only [St.put]
 refine K1 _ ?_
 refine yS fun _ K2 => ?_
 refine yR ?_
 refine yM rfl rfl ?_
 refine yM rfl rfl ?_
 refine yM rfl rfl ?_
 refine aops_n rfl (n_build rfl rfl) ?_
 try dsimp only [St.put]
 refine aops_e rfl (e_store_all rfl rfl rfl zG rfl rfl (by rfl) ?_)
 refine yN ?_
 dsimp only [St.put]
 refine K2 _ ?_
 refine aw_ret ?_
 refine ends_v1 rfl (rv_box rfl zG (by rfl) (by first | exact List.cons_ne_nil _ _ | (simp; done) | (simp [putAt]; done)) rfl) zN zS ?_
 exact zW
theorem lawNear_pure (l m : List PlaceD) (e : Int) : Pure Tryz.prog 16 [lst l, .v (.int .i64 e), lst m] (.v (.bool (decide (e = 0) && decide (l = m)))) := by
 refine pure_of_body Tryz.func16 rfl (fun m => .v) fun G nx => ?_
 simp only [Tryz.ntmps16, List.length_cons, List.length_nil, Nat.reduceAdd, Nat.reduceSub]
 refine aw_lt fun hlt => ?_
 dsimp only at hlt
 refine yS fun _ K1 => ?_
 refine yR ?_
 refine yA rfl rfl ?_
 refine yN ?_
 dsimp only [St.put]
 refine K1 _ ?_
 refine yS fun _ K2 => ?_
 refine yR ?_
 refine yM rfl rfl ?_
 refine aops_n rfl (n_eql rfl rfl rfl) ?_
 refine yM rfl rfl ?_
 refine aops_split (fun hs => ?_) (fun hs => ?_)
 ·have h1 := of_decide_eq_true hs
  refine yM rfl rfl ?_
  refine yM rfl rfl ?_
  try dsimp only [St.put]
  refine aops_e rfl (e_call_pure rfl rfl rfl (SamePlaces_pure l m) ?_)
  refine aops_n rfl (n_pt rfl rfl (by constructor)) ?_
  refine yA rfl rfl ?_
  refine yN ?_
  dsimp only [St.put]
  refine K2 _ ?_
  refine aw_ret ?_
  refine ends_1 rfl (by constructor) zN zS ?_
  exact vb (by simp [h1])
 have h1 := of_decide_eq_false hs
 refine yK rfl ?_
 refine yK rfl ?_
 refine yK rfl ?_
 refine aops_n rfl (n_pf rfl rfl (by constructor)) ?_
 refine yA rfl rfl ?_
 refine yN ?_
 dsimp only [St.put]
 refine K2 _ ?_
 refine aw_ret ?_
 refine ends_1 rfl (by constructor) zN zS ?_
 exact vb (by simp [h1])
end Go.Proofs.YtjjklfgpffgnfabGreatDoor
namespace Go.AB
open Go Go.RowKit
open Go.AB.Enc (cells)
open Go.PB (Chap TextD PlaceD ReadingD CopyD WayD)
/-- no two stretches clash -/
def noClash (ss : List StretchD) : Bool := (List.range ss.length).all fun b => (List.range b).all fun a => match ss[a]?, ss[b]? with
 | some x, some y => !clashB x y
 | _, _ => true
theorem firstC_no {ss : List StretchD} (h : noClash ss = true) : firstC ss = none := by
 refine firstC_eq (o := none) fun a b ⟨hab, x, y, hx, hy, hc⟩ => ?_
 have h1 := List.all_eq_true.1 h b (List.mem_range.2 (List.getElem?_eq_some_iff.1 hy).1)
 have h2 := List.all_eq_true.1 h1 a (List.mem_range.2 hab)
 rw [hx, hy] at h2
 simp [hc] at h2
theorem sound_no {t : TextD} {e : EditionD} (h : checkEr t e = 0) (hn : noClash e.ss = true) : soundEr t e = 0 := by
 simp [soundEr, h, firstC_no hn]
theorem leadEr_eq {t : TextD} {e : EditionD} {r : RefD} {p : PlaceD} (h : soundEr t e = 0) (hr : refB r = true) (hp : leadO t e.ss r = some p) : leadEr t e r = 0 ∧ leadV t e r = p := by
 have h1 : leadEr t e r = 0 := by simp [leadEr, h, leadEr0, hr, hp]
 exact ⟨h1, by simp [leadV, h1, hp]⟩
theorem referEr_eq {t : TextD} {e : EditionD} {p : PlaceD} {v : L2} (h : soundEr t e = 0) (hp : placeB t p = true) (hv : asOf e.ss (p.ch, p.ln) = some v) : referEr t e p = 0 ∧ referV t e p = ⟨v.1, v.2, p.wd + 1⟩ := by
 have h1 : referEr t e p = 0 := by simp [referEr, h, hp, hv]
 exact ⟨h1, by simp [referV, h1, hv]⟩
theorem nearEr_eq {t : TextD} {e : EditionD} {p : PlaceD} {L : List PlaceD} (h : soundEr t e = 0) (hp : placeB t p = true) (hL : nearL t e.ss p = L) (h0 : L ≠ []) : nearEr t e p = 0 ∧ nearV t e p = L := by
 have h1 : nearEr t e p = 0 := by simp [nearEr, h, hp, hL, h0]
 exact ⟨h1, by simp [nearV, h1, hL]⟩
theorem closeEr_eq {t : TextD} {e : EditionD} {r : RefD} {L : List PlaceD} (h : soundEr t e = 0) (hp : refB r = true) (hL : closeL t e.ss r = L) (h0 : L ≠ []) : closeEr t e r = 0 ∧ closeV t e r = L := by
 have h1 : closeEr t e r = 0 := by simp [closeEr, h, hp, hL, h0]
 exact ⟨h1, by simp [closeV, h1, hL]⟩
theorem bothEr_eq {t : TextD} {e f : EditionD} (h : soundEr t e = 0) (k : soundEr t f = 0) : bothEr t e f = 0 := by
 simp [bothEr, (soundEr_check h).1, (soundEr_check k).1, h, k]
theorem turnEr_eq {t : TextD} {e f : EditionD} {r : RefD} {p : PlaceD} (h : soundEr t e = 0) (k : soundEr t f = 0) (hr : refB r = true) (hp : leadO t e.ss r = some p) : turnEr t e f r = referEr t f p ∧ turnV t e f r = referV t f p := by
 have h1 : turnEr t e f r = referEr t f p := by simp [turnEr, bothEr_eq h k, leadEr0, hr, hp]
 refine ⟨h1, ?_⟩
 unfold turnV
 rw [h1, hp, Option.getD_some]
 by_cases h2 : referEr t f p = 0
 ·simp [h2]
 ·simp [h2, referV]
/-- what leads from one edition to another one, found line by line -/
def crossOf (es fs : List StretchD) (p : L2) : Option PassD := match asOf es p, asOf fs p with
 | some v, some u => some (passOf v u)
 | _, _ => none
theorem crossOf_some {es fs : List StretchD} {p : L2} {x : PassD} : crossOf es fs p = some x ↔ ∃ v u, asOf es p = some v ∧ asOf fs p = some u ∧ x = passOf v u := by
 unfold crossOf
 cases asOf es p with
 | none => simp
 | some v => cases asOf fs p with
  | none => simp
  | some u => simp [eq_comm]
theorem crossOk_lines {t : TextD} {es fs : List StretchD} (hS : Sound t es) {L : List PassD} (h1 : L.Pairwise fun a b => ltL (passK a) (passK b)) (h2 : ∀ x, x ∈ L ↔ x ∈ (linesT t).filterMap (crossOf es fs)) : CrossOk es fs L := by
 refine ⟨h1, fun x => (h2 x).trans ⟨fun h => ?_, fun ⟨p, v, u, hv, hu, e⟩ => ?_⟩⟩
 ·obtain ⟨p, hp, hx⟩ := List.mem_filterMap.1 h
  obtain ⟨v, u, q⟩ := crossOf_some.1 hx
  exact ⟨p, v, u, q⟩
 ·obtain ⟨l, hl⟩ := asOf_words hS hv
  exact List.mem_filterMap.2 ⟨p, mem_lines.2 ⟨l, hl⟩, crossOf_some.2 ⟨v, u, hv, hu, e⟩⟩
/-! ### The examples -/
theorem soundV : soundEr exT exV = 0 := sound_no (by decide +kernel) (by decide +kernel)
theorem soundS : soundEr exT exS = 0 := sound_no (by decide +kernel) (by decide +kernel)
theorem soundL : soundEr exT ⟨6, exL⟩ = 0 := sound_no (by decide +kernel) (by decide +kernel)
theorem exGaps : gapsE exT exV = [⟨1, 0, 0⟩] ∧ checkEr exT exV = 0 := ⟨by decide +kernel, by decide +kernel⟩
theorem exLead : leadEr exT exV ⟨2, 5, 3⟩ = 0 ∧ leadV exT exV ⟨2, 5, 3⟩ = ⟨0, 1, 2⟩ := leadEr_eq soundV (by decide +kernel) (by decide +kernel)
theorem exReferV : referEr exT exV ⟨0, 1, 2⟩ = 0 ∧ referV exT exV ⟨0, 1, 2⟩ = ⟨2, 5, 3⟩ := referEr_eq (v := (2, 5)) soundV (by decide +kernel) (by decide +kernel)
theorem exReferS : referEr exT exS ⟨0, 1, 2⟩ = 0 ∧ referV exT exS ⟨0, 1, 2⟩ = ⟨7, 2, 3⟩ := referEr_eq (v := (7, 2)) soundS (by decide +kernel) (by decide +kernel)
theorem exNear : nearEr exT exV ⟨1, 0, 1⟩ = 0 ∧ nearV exT exV ⟨1, 0, 1⟩ = [⟨0, 1, 2⟩] :=
 nearEr_eq soundV (by decide +kernel) ((near_beside (by decide +kernel)).symm.trans (by decide +kernel)) (by simp)
theorem exClose : closeEr exT exV ⟨1, 9, 1⟩ = 0 ∧ closeV exT exV ⟨1, 9, 1⟩ = [⟨0, 0, 3⟩, ⟨0, 1, 0⟩] :=
 closeEr_eq soundV (by decide +kernel) ((close_beside (soundEr_sound soundV) (by decide +kernel) (by decide +kernel) (ys := wordsF exT (asOf exV.ss)) (List.Perm.refl _) (by decide +kernel)).symm.trans (by decide +kernel)) (by simp)
theorem exCross : bothEr exT exS exV = 0 ∧ crossL exT exS exV = [⟨7, 1, 1, 1, 1⟩, ⟨7, 2, 2, 5, 1⟩] := by
 have h := bothEr_eq soundS soundV
 refine ⟨h, ?_⟩
 have hc : crossS exS.ss exV.ss = [⟨7, 1, 1, 1, 1⟩, ⟨7, 2, 2, 5, 1⟩] := crossS_eq (crossOk_lines (soundEr_sound soundS) (by decide +kernel) fun x => by rw [show (linesT exT).filterMap (crossOf exS.ss exV.ss) = [⟨7, 1, 1, 1, 1⟩, ⟨7, 2, 2, 5, 1⟩] by decide +kernel])
 unfold crossL
 rw [h, hc]
 decide +kernel
theorem exTurn : turnEr exT exV exS ⟨2, 5, 3⟩ = 0 ∧ turnV exT exV exS ⟨2, 5, 3⟩ = ⟨7, 2, 3⟩ := by
 obtain ⟨h1, h2⟩ := turnEr_eq (p := ⟨0, 1, 2⟩) soundV soundS (r := ⟨2, 5, 3⟩) (by decide +kernel) (by decide +kernel)
 rw [h1, h2]
 exact exReferS
theorem exSplit : splitEr exT exS 7 2 9 = 0 ∧ splitV exT exS 7 2 9 = ⟨6, exL⟩ := by
 have h1 : splitEr exT exS 7 2 9 = 0 := by unfold splitEr; rw [soundS]; decide +kernel
 refine ⟨h1, ?_⟩
 unfold splitV edIf
 rw [h1]
 decide +kernel
theorem exJoin : joinEr exT ⟨6, exL⟩ 9 7 = 0 ∧ joinV exT ⟨6, exL⟩ 9 7 = exS := by
 have h1 : joinEr exT ⟨6, exL⟩ 9 7 = 0 := by unfold joinEr; rw [soundL]; decide +kernel
 refine ⟨h1, ?_⟩
 unfold joinV edIf
 rw [h1]
 decide +kernel
end Go.AB
namespace Go.AB
open Go Go.RowKit
open Go.AB.Enc (cells)
open Go.PB (Chap TextD PlaceD ReadingD CopyD WayD)
end Go.AB
namespace Go.Proofs.YtjjklfgpffgnfabGreatDoor
set_option maxRecDepth 10000
open Go.RowKit Go.AB
open Go.AB.Enc (cells)
open Go.PB (Chap TextD PlaceD ReadingD CopyD WayD)
theorem lawNear_self (l : List PlaceD) : Pure Tryz.prog 16 [lst l, .v (.int .i64 0), lst l] (.v (.bool true)) := by
 have := lawNear_pure l l 0
 rwa [decide_eq_true rfl, decide_eq_true rfl] at this
theorem SamePasses_self' (a : List PassD) : Pure Tryz.prog 18 [lst a, lst a] (.v (.bool true)) := by
 have := SamePasses_pure a a
 rwa [decide_eq_true rfl] at this
theorem SameStretches_self (a : List StretchD) : Pure Tryz.prog 38 [lst a, lst a] (.v (.bool true)) := by
 have := SameStretches_pure a a
 rwa [decide_eq_true rfl] at this
theorem lawRefers_pureF (e : EditionD) (p : PlaceD) (r : RefD) (hl : e.ss.length ≤ 20) (h : referEr exT e p = 0) (hv : referV exT e p = r) : PureF chkF Tryz.prog 37 [val e, val p, val r] (.v (.bool true)) := by
 refine pureF_of_body Tryz.func37 rfl (fun m => .v) fun G nx hF => ?_
 simp only [Tryz.ntmps37, List.length_cons, List.length_nil, Nat.reduceAdd, Nat.reduceSub]
 refine aw_lt fun hlt => ?_
 dsimp only at hlt
 have hnx := hlt 0 _ hF
 refine yS fun _ K1 => ?_
 refine yR ?_
 try dsimp only [St.put]
 refine yB rfl rfl rfl ?_
 try dsimp only [St.put]
 refine yB rfl rfl rfl ?_
 try dsimp only [St.put]
 refine yB rfl rfl rfl ?_
 refine yA rfl rfl ?_
 refine yN ?_
 dsimp only [St.put]
 refine K1 _ ?_
 refine yS fun _ K2 => ?_
 refine aw_drawT [(1, none), (2, none)] (fun _ => false) (fun i => [].contains i) 8 [false, true, true, false, false, false, false, false, false, false] (by kernel_rfl) (by kernel_rfl) ?_
 try dsimp only [St.put]
 refine acan1_s rfl rfl rfl rfl (s_load_agg' rfl rfl (Enc.len _)) ?_
 try dsimp only [St.put]
 refine acan1_s rfl rfl rfl rfl (s_load_agg' rfl rfl (Enc.len _)) ?_
 refine acan1_nil ?_
 refine aany_step [0, 7] (by kernel_rfl) (by simp) ?_
 refine aeach_cons ?_ ?_
 ·try dsimp only [St.put]
  refine aone_e rfl rfl rfl (e_call_pure rfl rfl rfl (lawText_pure) ?_)
  refine aany_step [3, 7] (by kernel_rfl) (by simp) ?_
  refine aeach_cons ?_ ?_
  ·try dsimp only [St.put]
   refine aone_e rfl rfl rfl (e_call_f rfl rfl rfl (chartRefer_pureF exT e p hl) zG ?_)
   refine aany_quiet [(4, none), (5, none), (6, none)] (fun i => [4, 5, 6].contains i) 3 [true, true, true, true, true, true, true, false, false, false] (by kernel_rfl) ?_
   refine xM rfl rfl rfl rfl rfl ?_
   refine acan1_n rfl rfl rfl rfl (n_extract rfl rfl rfl) ?_
   refine acan1_n rfl rfl rfl rfl (n_extract rfl rfl rfl) ?_
   refine acan1_nil ?_
   refine aany_step [7] (by kernel_rfl) (by simp) ?_
   refine aeach_cons ?_ ?_
   ·try dsimp only [St.put]
    refine aone_e rfl rfl rfl (e_allocC rfl ?_)
    refine aany_step [8] (by kernel_rfl) (by simp) ?_
    refine aeach_cons ?_ ?_
    ·try dsimp only [St.put]
     refine aone_e rfl rfl rfl (e_store_all rfl rfl rfl zG rfl rfl (by rfl) ?_)
     refine aany_quiet [(9, none)] (fun i => [9].contains i) 0 [true, true, true, true, true, true, true, true, true, true] (by kernel_rfl) ?_
     refine acan1_n rfl rfl rfl rfl (n_as rfl (by constructor)) ?_
     refine acan1_nil ?_
     dsimp only [St.put]
     refine aany_nil (by kernel_rfl) ?_
     rw [hv, h]
     refine K2 _ ?_
     refine yS fun _ K3 => ?_
     refine yR ?_
     refine yM rfl rfl ?_
     refine aops_n rfl (n_bool (c := true) (n_eql rfl rfl rfl) (decide_eq_true rfl)) ?_
     refine yM rfl rfl ?_
     try dsimp only [St.put]
     refine aops_s rfl (s_load_box_all rfl rfl zG trivial (by rfl)) ?_
     refine yE rfl rfl rfl ?_
     refine aops_n rfl (n_bool (c := true) (n_agg_eql (x := r) (y := r) rfl rfl rfl) (decide_eq_true rfl)) ?_
     refine aops_n rfl (n_pt rfl rfl (by constructor)) ?_
     refine yA rfl rfl ?_
     refine yN ?_
     dsimp only [St.put]
     refine K3 _ ?_
     refine aw_ret ?_
     refine ends_1 rfl (by constructor) zN zS ?_
     rfl
    exact aeach_nil
   exact aeach_nil
  refine aeach_cons ?_ ?_
  ·try dsimp only [St.put]
   refine aone_e rfl rfl rfl (e_allocC rfl ?_)
   refine aany_step [3] (by kernel_rfl) (by simp) ?_
   refine aeach_cons ?_ ?_
   ·try dsimp only [St.put]
    refine aone_e rfl rfl rfl (e_call_f rfl rfl rfl (chartRefer_pureF exT e p hl) zG ?_)
    refine aany_quiet [(4, none), (5, none), (6, none)] (fun i => [4, 5, 6].contains i) 2 [true, true, true, true, true, true, true, true, false, false] (by kernel_rfl) ?_
    refine xM rfl rfl rfl rfl rfl ?_
    refine acan1_n rfl rfl rfl rfl (n_extract rfl rfl rfl) ?_
    refine acan1_n rfl rfl rfl rfl (n_extract rfl rfl rfl) ?_
    refine acan1_nil ?_
    refine aany_step [8] (by kernel_rfl) (by simp) ?_
    refine aeach_cons ?_ ?_
    ·try dsimp only [St.put]
     refine aone_e rfl rfl rfl (e_store_all rfl rfl rfl zG rfl rfl (by rfl) ?_)
     refine aany_quiet [(9, none)] (fun i => [9].contains i) 0 [true, true, true, true, true, true, true, true, true, true] (by kernel_rfl) ?_
     refine acan1_n rfl rfl rfl rfl (n_as rfl (by constructor)) ?_
     refine acan1_nil ?_
     dsimp only [St.put]
     refine aany_nil (by kernel_rfl) ?_
     rw [hv, h]
     refine K2 _ ?_
     refine yS fun _ K4 => ?_
     refine yR ?_
     refine yM rfl rfl ?_
     refine aops_n rfl (n_bool (c := true) (n_eql rfl rfl rfl) (decide_eq_true rfl)) ?_
     refine yM rfl rfl ?_
     try dsimp only [St.put]
     refine aops_s rfl (s_load_box_all rfl rfl zG trivial (by rfl)) ?_
     refine yE rfl rfl rfl ?_
     refine aops_n rfl (n_bool (c := true) (n_agg_eql (x := r) (y := r) rfl rfl rfl) (decide_eq_true rfl)) ?_
     refine aops_n rfl (n_pt rfl rfl (by constructor)) ?_
     refine yA rfl rfl ?_
     refine yN ?_
     dsimp only [St.put]
     refine K4 _ ?_
     refine aw_ret ?_
     refine ends_1 rfl (by constructor) zN zS ?_
     rfl
    exact aeach_nil
   exact aeach_nil
  exact aeach_nil
 refine aeach_cons ?_ ?_
 ·try dsimp only [St.put]
  refine aone_e rfl rfl rfl (e_allocC rfl ?_)
  refine aany_step [0] (by kernel_rfl) (by simp) ?_
  refine aeach_cons ?_ ?_
  ·try dsimp only [St.put]
   refine aone_e rfl rfl rfl (e_call_pure rfl rfl rfl (lawText_pure) ?_)
   refine aany_step [3] (by kernel_rfl) (by simp) ?_
   refine aeach_cons ?_ ?_
   ·try dsimp only [St.put]
    refine aone_e rfl rfl rfl (e_call_f rfl rfl rfl (chartRefer_pureF exT e p hl) zG ?_)
    refine aany_quiet [(4, none), (5, none), (6, none)] (fun i => [4, 5, 6].contains i) 2 [true, true, true, true, true, true, true, true, false, false] (by kernel_rfl) ?_
    refine xM rfl rfl rfl rfl rfl ?_
    refine acan1_n rfl rfl rfl rfl (n_extract rfl rfl rfl) ?_
    refine acan1_n rfl rfl rfl rfl (n_extract rfl rfl rfl) ?_
    refine acan1_nil ?_
    refine aany_step [8] (by kernel_rfl) (by simp) ?_
    refine aeach_cons ?_ ?_
    ·try dsimp only [St.put]
     refine aone_e rfl rfl rfl (e_store_all rfl rfl rfl zG rfl rfl (by rfl) ?_)
     refine aany_quiet [(9, none)] (fun i => [9].contains i) 0 [true, true, true, true, true, true, true, true, true, true] (by kernel_rfl) ?_
     refine acan1_n rfl rfl rfl rfl (n_as rfl (by constructor)) ?_
     refine acan1_nil ?_
     dsimp only [St.put]
     refine aany_nil (by kernel_rfl) ?_
     rw [hv, h]
     refine K2 _ ?_
     refine yS fun _ K5 => ?_
     refine yR ?_
     refine yM rfl rfl ?_
     refine aops_n rfl (n_bool (c := true) (n_eql rfl rfl rfl) (decide_eq_true rfl)) ?_
     refine yM rfl rfl ?_
     try dsimp only [St.put]
     refine aops_s rfl (s_load_box_all rfl rfl zG trivial (by rfl)) ?_
     refine yE rfl rfl rfl ?_
     refine aops_n rfl (n_bool (c := true) (n_agg_eql (x := r) (y := r) rfl rfl rfl) (decide_eq_true rfl)) ?_
     refine aops_n rfl (n_pt rfl rfl (by constructor)) ?_
     refine yA rfl rfl ?_
     refine yN ?_
     dsimp only [St.put]
     refine K5 _ ?_
     refine aw_ret ?_
     refine ends_1 rfl (by constructor) zN zS ?_
     rfl
    exact aeach_nil
   exact aeach_nil
  exact aeach_nil
 exact aeach_nil
theorem alGaps : PureF chkF Tryz.prog 10 [textC exT, val exV] (.tup [lst ([⟨1, 0, 0⟩] : List PlaceD), .v (.int .i64 0)]) := by
 have := chartGaps_pureF exT exV (by decide)
 rwa [exGaps.1, exGaps.2] at this
theorem alLead : PureF chkF Tryz.prog 21 [textC exT, val exV, val (⟨2, 5, 3⟩ : RefD)] (.tup [val (⟨0, 1, 2⟩ : PlaceD), .v (.int .i64 0)]) := by
 have := chartLead_pureF exT exV ⟨2, 5, 3⟩ (by decide)
 rwa [exLead.1, exLead.2] at this
theorem alNear : PureF chkF Tryz.prog 25 [textC exT, val exV, val (⟨1, 0, 1⟩ : PlaceD)] (.tup [lst ([⟨0, 1, 2⟩] : List PlaceD), .v (.int .i64 0)]) := by
 have := chartNear_pureF exT exV ⟨1, 0, 1⟩ (by decide)
 rwa [exNear.1, exNear.2] at this
theorem alClose : PureF chkF Tryz.prog 11 [textC exT, val exV, val (⟨1, 9, 1⟩ : RefD)] (.tup [lst ([⟨0, 0, 3⟩, ⟨0, 1, 0⟩] : List PlaceD), .v (.int .i64 0)]) := by
 have := chartClose_pureF exT exV ⟨1, 9, 1⟩ (by decide)
 rwa [exClose.1, exClose.2] at this
theorem alCross : PureF chkF Tryz.prog 14 [textC exT, val exS, val exV] (.tup [lst ([⟨7, 1, 1, 1, 1⟩, ⟨7, 2, 2, 5, 1⟩] : List PassD), .v (.int .i64 0)]) := by
 have := chartCross_pureF exT exS exV (by decide) (by decide)
 rwa [exCross.1, exCross.2] at this
theorem alTurn : PureF chkF Tryz.prog 22 [textC exT, val exV, val exS, val (⟨2, 5, 3⟩ : RefD)] (.tup [val (⟨7, 2, 3⟩ : RefD), .v (.int .i64 0)]) := by
 have := chartTurn_pureF exT exV exS ⟨2, 5, 3⟩ (by decide) (by decide)
 rwa [exTurn.1, exTurn.2] at this
theorem alSplit : PureF chkF Tryz.prog 23 [textC exT, val exS, .v (.int .i64 7), .v (.int .i64 2), .v (.int .i64 9)] (.tup [val (⟨6, exL⟩ : EditionD), .v (.int .i64 0)]) := by
 have := chartSplit_pureF exT exS 7 2 9 (by decide)
 rwa [exSplit.1, exSplit.2] at this
theorem alJoin : PureF chkF Tryz.prog 24 [textC exT, val (⟨6, exL⟩ : EditionD), .v (.int .i64 9), .v (.int .i64 7)] (.tup [val exS, .v (.int .i64 0)]) := by
 have := chartJoin_pureF exT ⟨6, exL⟩ 9 7 (by decide)
 rwa [exJoin.1, exJoin.2] at this
set_option maxHeartbeats 4000000 in
theorem alive_pureF : PureF chkF Tryz.prog 6 [] (.v (.bool true)) := by
 refine pureF_of_body Tryz.func6 rfl (fun m => .v) fun G nx hF => ?_
 simp only [Tryz.ntmps6, List.length_cons, List.length_nil, Nat.reduceAdd, Nat.reduceSub]
 refine aw_lt fun hlt => ?_
 dsimp only at hlt
 have hnx := hlt 0 _ hF
 refine yS fun _ K1 => ?_
 refine yR ?_
 refine yA rfl rfl ?_
 refine yN ?_
 dsimp only [St.put]
 refine K1 _ ?_
 refine yS fun _ K2 => ?_
 refine yR ?_
 try dsimp only [St.put]
 refine aops_e rfl (e_call_pure rfl rfl rfl (lawText_pure) ?_)
 try dsimp only [St.put]
 refine aops_e rfl (e_call_pure rfl rfl rfl (lawFive_pure) ?_)
 try dsimp only [St.put]
 refine aops_e rfl (e_call_f rfl rfl rfl (alGaps) zG ?_)
 refine yM rfl rfl ?_
 refine yX rfl rfl rfl rfl ?_
 refine yX rfl rfl rfl rfl ?_
 refine yA rfl rfl ?_
 refine yA rfl rfl ?_
 refine yN ?_
 dsimp only [St.put]
 refine K2 _ ?_
 refine yS fun _ K3 => ?_
 refine yR ?_
 try dsimp only [St.put]
 refine aops_e rfl (e_call_pure rfl rfl rfl (lawText_pure) ?_)
 try dsimp only [St.put]
 refine aops_e rfl (e_call_pure rfl rfl rfl (lawFive_pure) ?_)
 try dsimp only [St.put]
 refine aops_e rfl (e_call_pure rfl rfl rfl (lawRef_pure _ _ _) ?_)
 try dsimp only [St.put]
 refine aops_e rfl (e_call_f rfl rfl rfl (alLead) zG ?_)
 refine yM rfl rfl ?_
 refine yX rfl rfl rfl rfl ?_
 refine yX rfl rfl rfl rfl ?_
 try dsimp only [St.put]
 refine aops_e rfl (e_allocC rfl ?_)
 try dsimp only [St.put]
 refine aops_e rfl (e_store_all rfl rfl rfl zG rfl rfl (by rfl) ?_)
 refine yA rfl rfl ?_
 refine yN ?_
 dsimp only [St.put]
 refine K3 _ ?_
 refine aw_commitD (i := 3) rfl zG (by first | exact List.cons_ne_nil _ _ | (simp; done) | (simp [putAt]; done)) ?_
 dsimp only
 refine yS fun _ K4 => ?_
 refine yR ?_
 try dsimp only [St.put]
 refine aops_e rfl (e_call_pure rfl rfl rfl (lawText_pure) ?_)
 try dsimp only [St.put]
 refine aops_e rfl (e_call_pure rfl rfl rfl (lawFive_pure) ?_)
 try dsimp only [St.put]
 refine aops_e rfl (e_call_pure rfl rfl rfl (lawPlace_pure _ _ _) ?_)
 try dsimp only [St.put]
 refine aops_e rfl (e_call_f rfl rfl rfl (alNear) zG ?_)
 refine yM rfl rfl ?_
 refine yX rfl rfl rfl rfl ?_
 refine yX rfl rfl rfl rfl ?_
 refine yA rfl rfl ?_
 refine yA rfl rfl ?_
 refine yN ?_
 dsimp only [St.put]
 refine K4 _ ?_
 refine yS fun _ K5 => ?_
 refine yR ?_
 try dsimp only [St.put]
 refine aops_e rfl (e_call_pure rfl rfl rfl (lawText_pure) ?_)
 try dsimp only [St.put]
 refine aops_e rfl (e_call_pure rfl rfl rfl (lawFive_pure) ?_)
 try dsimp only [St.put]
 refine aops_e rfl (e_call_pure rfl rfl rfl (lawRef_pure _ _ _) ?_)
 try dsimp only [St.put]
 refine aops_e rfl (e_call_f rfl rfl rfl (alClose) zG ?_)
 refine yM rfl rfl ?_
 refine yX rfl rfl rfl rfl ?_
 refine yX rfl rfl rfl rfl ?_
 refine yA rfl rfl ?_
 refine yA rfl rfl ?_
 refine yN ?_
 dsimp only [St.put]
 refine K5 _ ?_
 refine yS fun _ K6 => ?_
 refine yR ?_
 try dsimp only [St.put]
 refine aops_e rfl (e_call_pure rfl rfl rfl (lawText_pure) ?_)
 try dsimp only [St.put]
 refine aops_e rfl (e_call_pure rfl rfl rfl (lawSix_pure) ?_)
 try dsimp only [St.put]
 refine aops_e rfl (e_call_pure rfl rfl rfl (lawFive_pure) ?_)
 try dsimp only [St.put]
 refine aops_e rfl (e_call_f rfl rfl rfl (alCross) zG ?_)
 refine yM rfl rfl ?_
 refine yX rfl rfl rfl rfl ?_
 refine yX rfl rfl rfl rfl ?_
 refine yA rfl rfl ?_
 refine yA rfl rfl ?_
 refine yN ?_
 dsimp only [St.put]
 refine K6 _ ?_
 refine yS fun _ K7 => ?_
 refine yR ?_
 try dsimp only [St.put]
 refine aops_e rfl (e_call_pure rfl rfl rfl (lawText_pure) ?_)
 try dsimp only [St.put]
 refine aops_e rfl (e_call_pure rfl rfl rfl (lawFive_pure) ?_)
 try dsimp only [St.put]
 refine aops_e rfl (e_call_pure rfl rfl rfl (lawSix_pure) ?_)
 try dsimp only [St.put]
 refine aops_e rfl (e_call_pure rfl rfl rfl (lawRef_pure _ _ _) ?_)
 try dsimp only [St.put]
 refine aops_e rfl (e_call_f rfl rfl rfl (alTurn) zG ?_)
 refine yM rfl rfl ?_
 refine yX rfl rfl rfl rfl ?_
 refine yX rfl rfl rfl rfl ?_
 try dsimp only [St.put]
 refine aops_e rfl (e_allocC rfl ?_)
 try dsimp only [St.put]
 refine aops_e rfl (e_store_all rfl rfl rfl zG rfl rfl (by rfl) ?_)
 refine yA rfl rfl ?_
 refine yN ?_
 dsimp only [St.put]
 refine K7 _ ?_
 refine aw_commitD (i := 11) rfl zG (by first | exact List.cons_ne_nil _ _ | (simp; done) | (simp [putAt]; done)) ?_
 dsimp only
 refine yS fun _ K8 => ?_
 refine yR ?_
 try dsimp only [St.put]
 refine aops_e rfl (e_call_pure rfl rfl rfl (lawText_pure) ?_)
 try dsimp only [St.put]
 refine aops_e rfl (e_call_pure rfl rfl rfl (lawSix_pure) ?_)
 try dsimp only [St.put]
 refine aops_e rfl (e_call_f rfl rfl rfl (alSplit) zG ?_)
 refine yM rfl rfl ?_
 refine yX rfl rfl rfl rfl ?_
 refine yX rfl rfl rfl rfl ?_
 try dsimp only [St.put]
 refine aops_e rfl (e_allocC rfl ?_)
 try dsimp only [St.put]
 refine aops_e rfl (e_store_all rfl rfl rfl zG rfl rfl (by rfl) ?_)
 refine yA rfl rfl ?_
 refine yN ?_
 dsimp only [St.put]
 refine K8 _ ?_
 refine aw_commitD (i := 13) rfl zG (by first | exact List.cons_ne_nil _ _ | (simp; done) | (simp [putAt]; done)) ?_
 dsimp only
 refine aw_forget G zX ?_
 dsimp only
 refine aw_wipe 17 ?_
 simp only [firsts, getA, Nat.reduceAdd, List.getD_cons_zero, List.getD_cons_succ, List.getD_nil, natBeq, Nat.reduceBEq, cond_true, cond_false]
 refine aw_cutD (X := Unit) (fun _ => True) (fun _ => [(15, .elem (cells exS)), (16, .v (.int .i64 0))]) (fun _ G' => G') rfl ?_ (fun _ _ _ _ h => .inl h) ?_ ?_
 ·rintro _ hI
  exact zL
 ·refine aw_drawT [(1, none)] (fun _ => false) (fun i => [].contains i) 8 [false, true, false, false, false, false, false, false, false] (by kernel_rfl) (by kernel_rfl) ?_
  try dsimp only [St.put]
  refine acan1_s rfl rfl rfl rfl (s_load_agg' rfl rfl (Enc.len _)) ?_
  refine acan1_nil ?_
  refine aany_step [0, 6] (by kernel_rfl) (by simp) ?_
  refine aeach_cons ?_ ?_
  ·try dsimp only [St.put]
   refine aone_e rfl rfl rfl (e_call_pure rfl rfl rfl (lawText_pure) ?_)
   refine aany_step [2, 6] (by kernel_rfl) (by simp) ?_
   refine aeach_cons ?_ ?_
   ·try dsimp only [St.put]
    refine aone_e rfl rfl rfl (e_call_f rfl rfl rfl (alJoin) zG ?_)
    refine aany_quiet [(3, none), (4, none), (5, none)] (fun i => [3, 4, 5].contains i) 3 [true, true, true, true, true, true, false, false, false] (by kernel_rfl) ?_
    refine xM rfl rfl rfl rfl rfl ?_
    refine acan1_n rfl rfl rfl rfl (n_extract rfl rfl rfl) ?_
    refine acan1_n rfl rfl rfl rfl (n_extract rfl rfl rfl) ?_
    refine acan1_nil ?_
    refine aany_step [6] (by kernel_rfl) (by simp) ?_
    refine aeach_cons ?_ ?_
    ·try dsimp only [St.put]
     refine aone_e rfl rfl rfl (e_allocC rfl ?_)
     refine aany_step [7] (by kernel_rfl) (by simp) ?_
     refine aeach_cons ?_ ?_
     ·try dsimp only [St.put]
      refine aone_e rfl rfl rfl (e_store_all rfl rfl rfl zG rfl rfl (by rfl) ?_)
      refine aany_quiet [(8, none)] (fun i => [8].contains i) 0 [true, true, true, true, true, true, true, true, true] (by kernel_rfl) ?_
      refine acan1_n rfl rfl rfl rfl (n_as rfl (by constructor)) ?_
      refine acan1_nil ?_
      dsimp only [St.put]
      refine aany_of_tr (tr_commit (i := 15) rfl zG (by first | exact List.cons_ne_nil _ _ | (simp; done) | (simp [putAt]; done))) ?_
      dsimp only
      refine aany_nil (by kernel_rfl) ?_
      exact ⟨(), trivial, ⟨⟨rfl, rfl⟩, zF, zB, zN, zX⟩⟩
     exact aeach_nil
    exact aeach_nil
   refine aeach_cons ?_ ?_
   ·try dsimp only [St.put]
    refine aone_e rfl rfl rfl (e_allocC rfl ?_)
    refine aany_step [2] (by kernel_rfl) (by simp) ?_
    refine aeach_cons ?_ ?_
    ·try dsimp only [St.put]
     refine aone_e rfl rfl rfl (e_call_f rfl rfl rfl (alJoin) zG ?_)
     refine aany_quiet [(3, none), (4, none), (5, none)] (fun i => [3, 4, 5].contains i) 2 [true, true, true, true, true, true, true, false, false] (by kernel_rfl) ?_
     refine xM rfl rfl rfl rfl rfl ?_
     refine acan1_n rfl rfl rfl rfl (n_extract rfl rfl rfl) ?_
     refine acan1_n rfl rfl rfl rfl (n_extract rfl rfl rfl) ?_
     refine acan1_nil ?_
     refine aany_step [7] (by kernel_rfl) (by simp) ?_
     refine aeach_cons ?_ ?_
     ·try dsimp only [St.put]
      refine aone_e rfl rfl rfl (e_store_all rfl rfl rfl zG rfl rfl (by rfl) ?_)
      refine aany_quiet [(8, none)] (fun i => [8].contains i) 0 [true, true, true, true, true, true, true, true, true] (by kernel_rfl) ?_
      refine acan1_n rfl rfl rfl rfl (n_as rfl (by constructor)) ?_
      refine acan1_nil ?_
      dsimp only [St.put]
      refine aany_of_tr (tr_commit (i := 15) rfl zG (by first | exact List.cons_ne_nil _ _ | (simp; done) | (simp [putAt]; done))) ?_
      dsimp only
      refine aany_nil (by kernel_rfl) ?_
      exact ⟨(), trivial, ⟨⟨rfl, rfl⟩, zF, zB, zN, zX⟩⟩
     exact aeach_nil
    exact aeach_nil
   exact aeach_nil
  refine aeach_cons ?_ ?_
  ·try dsimp only [St.put]
   refine aone_e rfl rfl rfl (e_allocC rfl ?_)
   refine aany_step [0] (by kernel_rfl) (by simp) ?_
   refine aeach_cons ?_ ?_
   ·try dsimp only [St.put]
    refine aone_e rfl rfl rfl (e_call_pure rfl rfl rfl (lawText_pure) ?_)
    refine aany_step [2] (by kernel_rfl) (by simp) ?_
    refine aeach_cons ?_ ?_
    ·try dsimp only [St.put]
     refine aone_e rfl rfl rfl (e_call_f rfl rfl rfl (alJoin) zG ?_)
     refine aany_quiet [(3, none), (4, none), (5, none)] (fun i => [3, 4, 5].contains i) 2 [true, true, true, true, true, true, true, false, false] (by kernel_rfl) ?_
     refine xM rfl rfl rfl rfl rfl ?_
     refine acan1_n rfl rfl rfl rfl (n_extract rfl rfl rfl) ?_
     refine acan1_n rfl rfl rfl rfl (n_extract rfl rfl rfl) ?_
     refine acan1_nil ?_
     refine aany_step [7] (by kernel_rfl) (by simp) ?_
     refine aeach_cons ?_ ?_
     ·try dsimp only [St.put]
      refine aone_e rfl rfl rfl (e_store_all rfl rfl rfl zG rfl rfl (by rfl) ?_)
      refine aany_quiet [(8, none)] (fun i => [8].contains i) 0 [true, true, true, true, true, true, true, true, true] (by kernel_rfl) ?_
      refine acan1_n rfl rfl rfl rfl (n_as rfl (by constructor)) ?_
      refine acan1_nil ?_
      dsimp only [St.put]
      refine aany_of_tr (tr_commit (i := 15) rfl zG (by first | exact List.cons_ne_nil _ _ | (simp; done) | (simp [putAt]; done))) ?_
      dsimp only
      refine aany_nil (by kernel_rfl) ?_
      exact ⟨(), trivial, ⟨⟨rfl, rfl⟩, zF, zB, zN, zX⟩⟩
     exact aeach_nil
    exact aeach_nil
   exact aeach_nil
  exact aeach_nil
 rintro _ hI
 dsimp only at hI ⊢
 refine yS fun _ K10 => ?_
 refine aw_drawT [(0, none), (1, none)] (fun _ => false) (fun i => [0, 1].contains i) 79 [true, true, false, false, false, false, false, false, false, false, false, false, false, false, false, false, false, false, false, false, false, false, false, false, false, false, false, false, false, false, false, false, false, false, false, false, false, false, false, false, false, false, false, false, false, false, false, false, false, false, false, false, false, false, false, false, false, false, false, false, false, false, false, false, false, false, false, false, false, false, false, false, false, false, false, false, false, false, false, false, false] (by kernel_rfl) (by kernel_rfl) ?_
 refine xM rfl rfl rfl rfl rfl ?_
 refine xM rfl rfl rfl rfl rfl ?_
 refine acan1_nil ?_
 refine aany_step [2] (by kernel_rfl) (by simp) ?_
 refine aeach_cons ?_ ?_
 ·try dsimp only [St.put]
  refine aone_e rfl rfl rfl (e_call_pure rfl rfl rfl (lawPlace_pure _ _ _) ?_)
  refine aany_step [3] (by kernel_rfl) (by simp) ?_
  refine aeach_cons ?_ ?_
  ·try dsimp only [St.put]
   refine aone_e rfl rfl rfl (e_buildSlice rfl rfl rfl (by decide) (by decide) zR (by decide) ?_)
   refine aany_step [4] (by kernel_rfl) (by simp) ?_
   refine aeach_cons ?_ ?_
   ·try dsimp only [St.put]
    refine aone_e rfl rfl rfl (e_call_pure rfl rfl rfl (lawNear_self [⟨1, 0, 0⟩]) ?_)
    refine aany_quiet [(5, none)] (fun i => [5].contains i) 75 [true, true, true, true, true, true, false, false, false, false, false, false, false, false, false, false, false, false, false, false, false, false, false, false, false, false, false, false, false, false, false, false, false, false, false, false, false, false, false, false, false, false, false, false, false, false, false, false, false, false, false, false, false, false, false, false, false, false, false, false, false, false, false, false, false, false, false, false, false, false, false, false, false, false, false, false, false, false, false, false, false] (by kernel_rfl) ?_
    refine xM rfl rfl rfl rfl rfl ?_
    refine acan1_nil ?_
    refine aany_step [6] (by kernel_rfl) (by simp) ?_
    refine aeach_cons ?_ ?_
    ·try dsimp only [St.put]
     refine aone_e rfl rfl rfl (e_call_pure rfl rfl rfl (lawFive_pure) ?_)
     refine aany_step [7] (by kernel_rfl) (by simp) ?_
     refine aeach_cons ?_ ?_
     ·try dsimp only [St.put]
      refine aone_e rfl rfl rfl (e_call_pure rfl rfl rfl (lawPlace_pure _ _ _) ?_)
      refine aany_step [8] (by kernel_rfl) (by simp) ?_
      refine aeach_cons ?_ ?_
      ·try dsimp only [St.put]
       refine aone_e rfl rfl rfl (e_call_pure rfl rfl rfl (lawRef_pure _ _ _) ?_)
       refine aany_step [9] (by kernel_rfl) (by simp) ?_
       refine aeach_cons ?_ ?_
       ·try dsimp only [St.put]
        refine aone_e rfl rfl rfl (e_call_f rfl rfl rfl (lawRefers_pureF exV ⟨0, 1, 2⟩ ⟨2, 5, 3⟩ (by decide) exReferV.1 exReferV.2) zG ?_)
        refine aany_quiet [(10, none), (11, none)] (fun i => [10, 11].contains i) 69 [true, true, true, true, true, true, true, true, true, true, true, true, false, false, false, false, false, false, false, false, false, false, false, false, false, false, false, false, false, false, false, false, false, false, false, false, false, false, false, false, false, false, false, false, false, false, false, false, false, false, false, false, false, false, false, false, false, false, false, false, false, false, false, false, false, false, false, false, false, false, false, false, false, false, false, false, false, false, false, false, false] (by kernel_rfl) ?_
        refine acan1_n rfl rfl rfl rfl (n_pt rfl rfl (by constructor)) ?_
        refine xM rfl rfl rfl rfl rfl ?_
        refine acan1_nil ?_
        refine aany_step [12] (by kernel_rfl) (by simp) ?_
        refine aeach_cons ?_ ?_
        ·try dsimp only [St.put]
         refine aone_e rfl rfl rfl (e_call_pure rfl rfl rfl (lawSix_pure) ?_)
         refine aany_step [13] (by kernel_rfl) (by simp) ?_
         refine aeach_cons ?_ ?_
         ·try dsimp only [St.put]
          refine aone_e rfl rfl rfl (e_call_pure rfl rfl rfl (lawPlace_pure _ _ _) ?_)
          refine aany_step [14] (by kernel_rfl) (by simp) ?_
          refine aeach_cons ?_ ?_
          ·try dsimp only [St.put]
           refine aone_e rfl rfl rfl (e_call_pure rfl rfl rfl (lawRef_pure _ _ _) ?_)
           refine aany_step [15] (by kernel_rfl) (by simp) ?_
           refine aeach_cons ?_ ?_
           ·try dsimp only [St.put]
            refine aone_e rfl rfl rfl (e_call_f rfl rfl rfl (lawRefers_pureF exS ⟨0, 1, 2⟩ ⟨7, 2, 3⟩ (by decide) exReferS.1 exReferS.2) zG ?_)
            refine aany_quiet [(16, none), (17, none), (18, none), (19, none), (20, none), (21, none), (22, none)] (fun i => [16, 17, 18, 19, 20, 21].contains i) 58 [true, true, true, true, true, true, true, true, true, true, true, true, true, true, true, true, true, true, true, true, true, true, true, false, false, false, false, false, false, false, false, false, false, false, false, false, false, false, false, false, false, false, false, false, false, false, false, false, false, false, false, false, false, false, false, false, false, false, false, false, false, false, false, false, false, false, false, false, false, false, false, false, false, false, false, false, false, false, false, false, false] (by kernel_rfl) ?_
            refine acan1_n rfl rfl rfl rfl (n_pt rfl rfl (by constructor)) ?_
            refine xM rfl rfl rfl rfl rfl ?_
            refine xM rfl rfl rfl rfl rfl ?_
            refine acan1_n rfl rfl rfl rfl (n_bool (c := true) (n_eql rfl rfl rfl) (decide_eq_true rfl)) ?_
            refine acan1_n rfl rfl rfl rfl (n_pt rfl rfl (by constructor)) ?_
            refine xM rfl rfl rfl rfl rfl ?_
            try dsimp only [St.put]
            refine acan1_s rfl rfl rfl rfl (s_load_agg' rfl rfl (Enc.len _)) ?_
            refine acan1_nil ?_
            refine aany_step [23] (by kernel_rfl) (by simp) ?_
            refine aeach_cons ?_ ?_
            ·try dsimp only [St.put]
             refine aone_e rfl rfl rfl (e_call_pure rfl rfl rfl (lawPlace_pure _ _ _) ?_)
             refine aany_quiet [(24, none), (25, none), (26, none), (27, none), (28, none)] (fun i => [24, 25, 26, 27, 28].contains i) 52 [true, true, true, true, true, true, true, true, true, true, true, true, true, true, true, true, true, true, true, true, true, true, true, true, true, true, true, true, true, false, false, false, false, false, false, false, false, false, false, false, false, false, false, false, false, false, false, false, false, false, false, false, false, false, false, false, false, false, false, false, false, false, false, false, false, false, false, false, false, false, false, false, false, false, false, false, false, false, false, false, false] (by kernel_rfl) ?_
             refine acan1_n rfl rfl rfl rfl (n_bool (c := true) (n_agg_eql (x := (⟨0, 1, 2⟩ : PlaceD)) (y := (⟨0, 1, 2⟩ : PlaceD)) rfl rfl rfl) (decide_eq_true rfl)) ?_
             refine acan1_n rfl rfl rfl rfl (n_pt rfl rfl (by constructor)) ?_
             refine xM rfl rfl rfl rfl rfl ?_
             refine xM rfl rfl rfl rfl rfl ?_
             refine xM rfl rfl rfl rfl rfl ?_
             refine acan1_nil ?_
             refine aany_step [29] (by kernel_rfl) (by simp) ?_
             refine aeach_cons ?_ ?_
             ·try dsimp only [St.put]
              refine aone_e rfl rfl rfl (e_call_pure rfl rfl rfl (lawPlace_pure _ _ _) ?_)
              refine aany_step [30] (by kernel_rfl) (by simp) ?_
              refine aeach_cons ?_ ?_
              ·try dsimp only [St.put]
               refine aone_e rfl rfl rfl (e_buildSlice rfl rfl rfl (by decide) (by decide) zR (by decide) ?_)
               refine aany_step [31] (by kernel_rfl) (by simp) ?_
               refine aeach_cons ?_ ?_
               ·try dsimp only [St.put]
                refine aone_e rfl rfl rfl (e_call_pure rfl rfl rfl (lawNear_self [⟨0, 1, 2⟩]) ?_)
                refine aany_quiet [(32, none), (33, none), (34, none), (35, none)] (fun i => [32, 33, 34, 35].contains i) 45 [true, true, true, true, true, true, true, true, true, true, true, true, true, true, true, true, true, true, true, true, true, true, true, true, true, true, true, true, true, true, true, true, true, true, true, true, false, false, false, false, false, false, false, false, false, false, false, false, false, false, false, false, false, false, false, false, false, false, false, false, false, false, false, false, false, false, false, false, false, false, false, false, false, false, false, false, false, false, false, false, false] (by kernel_rfl) ?_
                refine acan1_n rfl rfl rfl rfl (n_pt rfl rfl (by constructor)) ?_
                refine xM rfl rfl rfl rfl rfl ?_
                refine xM rfl rfl rfl rfl rfl ?_
                refine xM rfl rfl rfl rfl rfl ?_
                refine acan1_nil ?_
                refine aany_step [36] (by kernel_rfl) (by simp) ?_
                refine aeach_cons ?_ ?_
                ·try dsimp only [St.put]
                 refine aone_e rfl rfl rfl (e_call_pure rfl rfl rfl (lawPlace_pure _ _ _) ?_)
                 refine aany_step [37] (by kernel_rfl) (by simp) ?_
                 refine aeach_cons ?_ ?_
                 ·try dsimp only [St.put]
                  refine aone_e rfl rfl rfl (e_call_pure rfl rfl rfl (lawPlace_pure _ _ _) ?_)
                  refine aany_step [38] (by kernel_rfl) (by simp) ?_
                  refine aeach_cons ?_ ?_
                  ·try dsimp only [St.put]
                   refine aone_e rfl rfl rfl (e_buildSlice rfl rfl rfl (by decide) (by decide) zR (by decide) ?_)
                   refine aany_step [39] (by kernel_rfl) (by simp) ?_
                   refine aeach_cons ?_ ?_
                   ·try dsimp only [St.put]
                    refine aone_e rfl rfl rfl (e_call_pure rfl rfl rfl (lawNear_self [⟨0, 0, 3⟩, ⟨0, 1, 0⟩]) ?_)
                    refine aany_quiet [(40, none), (41, none), (42, none), (43, none), (44, none), (45, none), (46, none), (47, none), (48, none)] (fun i => [40, 41, 42, 43, 44, 45, 46, 47, 48].contains i) 32 [true, true, true, true, true, true, true, true, true, true, true, true, true, true, true, true, true, true, true, true, true, true, true, true, true, true, true, true, true, true, true, true, true, true, true, true, true, true, true, true, true, true, true, true, true, true, true, true, true, false, false, false, false, false, false, false, false, false, false, false, false, false, false, false, false, false, false, false, false, false, false, false, false, false, false, false, false, false, false, false, false] (by kernel_rfl) ?_
                    refine acan1_n rfl rfl rfl rfl (n_pt rfl rfl (by constructor)) ?_
                    refine xM rfl rfl rfl rfl rfl ?_
                    refine xM rfl rfl rfl rfl rfl ?_
                    refine acan1_n rfl rfl rfl rfl (n_bool (c := true) (n_eql rfl rfl rfl) (decide_eq_true rfl)) ?_
                    refine acan1_n rfl rfl rfl rfl (n_pt rfl rfl (by constructor)) ?_
                    refine xM rfl rfl rfl rfl rfl ?_
                    refine xM rfl rfl rfl rfl rfl ?_
                    refine acan1_n rfl rfl rfl rfl (n_build rfl rfl) ?_
                    refine acan1_n rfl rfl rfl rfl (n_build rfl rfl) ?_
                    refine acan1_nil ?_
                    refine aany_step [49] (by kernel_rfl) (by simp) ?_
                    refine aeach_cons ?_ ?_
                    ·try dsimp only [St.put]
                     refine aone_e rfl rfl rfl (e_buildSlice rfl rfl rfl (by decide) (by decide) zR (by decide) ?_)
                     refine aany_step [50] (by kernel_rfl) (by simp) ?_
                     refine aeach_cons ?_ ?_
                     ·try dsimp only [St.put]
                      refine aone_e rfl rfl rfl (e_call_pure rfl rfl rfl (SamePasses_self' [⟨7, 1, 1, 1, 1⟩, ⟨7, 2, 2, 5, 1⟩]) ?_)
                      refine aany_quiet [(51, none), (52, none), (53, none), (54, none), (55, none), (56, none), (57, none)] (fun i => [51, 52, 53, 54, 55, 56].contains i) 23 [true, true, true, true, true, true, true, true, true, true, true, true, true, true, true, true, true, true, true, true, true, true, true, true, true, true, true, true, true, true, true, true, true, true, true, true, true, true, true, true, true, true, true, true, true, true, true, true, true, true, true, true, true, true, true, true, true, true, false, false, false, false, false, false, false, false, false, false, false, false, false, false, false, false, false, false, false, false, false, false, false] (by kernel_rfl) ?_
                      refine acan1_n rfl rfl rfl rfl (n_pt rfl rfl (by constructor)) ?_
                      refine xM rfl rfl rfl rfl rfl ?_
                      refine xM rfl rfl rfl rfl rfl ?_
                      refine acan1_n rfl rfl rfl rfl (n_bool (c := true) (n_eql rfl rfl rfl) (decide_eq_true rfl)) ?_
                      refine acan1_n rfl rfl rfl rfl (n_pt rfl rfl (by constructor)) ?_
                      refine xM rfl rfl rfl rfl rfl ?_
                      try dsimp only [St.put]
                      refine acan1_s rfl rfl rfl rfl (s_load_agg' rfl rfl (Enc.len _)) ?_
                      refine acan1_nil ?_
                      refine aany_step [58] (by kernel_rfl) (by simp) ?_
                      refine aeach_cons ?_ ?_
                      ·try dsimp only [St.put]
                       refine aone_e rfl rfl rfl (e_call_pure rfl rfl rfl (lawRef_pure _ _ _) ?_)
                       refine aany_quiet [(59, none), (60, none), (61, none), (62, none), (63, none), (64, none), (65, none), (66, none), (67, none)] (fun i => [59, 60, 61, 62, 63, 64, 65, 66].contains i) 13 [true, true, true, true, true, true, true, true, true, true, true, true, true, true, true, true, true, true, true, true, true, true, true, true, true, true, true, true, true, true, true, true, true, true, true, true, true, true, true, true, true, true, true, true, true, true, true, true, true, true, true, true, true, true, true, true, true, true, true, true, true, true, true, true, true, true, true, true, false, false, false, false, false, false, false, false, false, false, false, false, false] (by kernel_rfl) ?_
                       refine acan1_n rfl rfl rfl rfl (n_bool (c := true) (n_agg_eql (x := (⟨7, 2, 3⟩ : RefD)) (y := (⟨7, 2, 3⟩ : RefD)) rfl rfl rfl) (decide_eq_true rfl)) ?_
                       refine acan1_n rfl rfl rfl rfl (n_pt rfl rfl (by constructor)) ?_
                       refine xM rfl rfl rfl rfl rfl ?_
                       refine xM rfl rfl rfl rfl rfl ?_
                       refine acan1_n rfl rfl rfl rfl (n_bool (c := true) (n_eql rfl rfl rfl) (decide_eq_true rfl)) ?_
                       refine acan1_n rfl rfl rfl rfl (n_pt rfl rfl (by constructor)) ?_
                       refine xM rfl rfl rfl rfl rfl ?_
                       refine acan1_n rfl rfl rfl rfl (n_fieldAddr' rfl rfl rfl) ?_
                       try dsimp only [St.put]
                       refine acan1_s rfl rfl rfl rfl (s_load rfl rfl) ?_
                       refine acan1_nil ?_
                       refine aany_step [68] (by kernel_rfl) (by simp) ?_
                       refine aeach_cons ?_ ?_
                       ·try dsimp only [St.put]
                        refine aone_e rfl rfl rfl (e_call_pure rfl rfl rfl (lawSplit_pure) ?_)
                        refine aany_step [69] (by kernel_rfl) (by simp) ?_
                        refine aeach_cons ?_ ?_
                        ·try dsimp only [St.put]
                         refine aone_e rfl rfl rfl (e_call_pure rfl rfl rfl (SameStretches_self exL) ?_)
                         refine aany_quiet [(70, none), (71, none), (72, none), (73, none), (74, none), (75, none), (76, none)] (fun i => [70, 71, 72, 73, 74, 75].contains i) 4 [true, true, true, true, true, true, true, true, true, true, true, true, true, true, true, true, true, true, true, true, true, true, true, true, true, true, true, true, true, true, true, true, true, true, true, true, true, true, true, true, true, true, true, true, true, true, true, true, true, true, true, true, true, true, true, true, true, true, true, true, true, true, true, true, true, true, true, true, true, true, true, true, true, true, true, true, true, false, false, false, false] (by kernel_rfl) ?_
                         refine acan1_n rfl rfl rfl rfl (n_pt rfl rfl (by constructor)) ?_
                         refine xM rfl rfl rfl rfl rfl ?_
                         refine xM rfl rfl rfl rfl rfl ?_
                         refine acan1_n rfl rfl rfl rfl (n_bool (c := true) (n_eql rfl rfl rfl) (decide_eq_true rfl)) ?_
                         refine acan1_n rfl rfl rfl rfl (n_pt rfl rfl (by constructor)) ?_
                         refine xM rfl rfl rfl rfl rfl ?_
                         try dsimp only [St.put]
                         refine acan1_s rfl rfl rfl rfl (s_load_agg' rfl rfl (Enc.len _)) ?_
                         refine acan1_nil ?_
                         refine aany_step [77] (by kernel_rfl) (by simp) ?_
                         refine aeach_cons ?_ ?_
                         ·try dsimp only [St.put]
                          refine aone_e rfl rfl rfl (e_call_pure rfl rfl rfl (lawSix_pure) ?_)
                          refine aany_step [78] (by kernel_rfl) (by simp) ?_
                          refine aeach_cons ?_ ?_
                          ·try dsimp only [St.put]
                           refine aone_e rfl rfl rfl (e_call_pure rfl rfl rfl (Same2_self exS) ?_)
                           refine aany_quiet [(79, none), (80, none)] (fun i => [79, 80].contains i) 0 [true, true, true, true, true, true, true, true, true, true, true, true, true, true, true, true, true, true, true, true, true, true, true, true, true, true, true, true, true, true, true, true, true, true, true, true, true, true, true, true, true, true, true, true, true, true, true, true, true, true, true, true, true, true, true, true, true, true, true, true, true, true, true, true, true, true, true, true, true, true, true, true, true, true, true, true, true, true, true, true, true] (by kernel_rfl) ?_
                           refine acan1_n rfl rfl rfl rfl (n_pt rfl rfl (by constructor)) ?_
                           refine acan1_n rfl rfl rfl rfl (n_as rfl (by constructor)) ?_
                           refine acan1_nil ?_
                           dsimp only [St.put]
                           refine aany_nil (by kernel_rfl) ?_
                           refine K10 _ ?_
                           refine aw_ret ?_
                           refine ends_1 rfl (by constructor) zN zS ?_
                           rfl
                          exact aeach_nil
                         exact aeach_nil
                        exact aeach_nil
                       exact aeach_nil
                      exact aeach_nil
                     exact aeach_nil
                    exact aeach_nil
                   exact aeach_nil
                  exact aeach_nil
                 exact aeach_nil
                exact aeach_nil
               exact aeach_nil
              exact aeach_nil
             exact aeach_nil
            exact aeach_nil
           exact aeach_nil
          exact aeach_nil
         exact aeach_nil
        exact aeach_nil
       exact aeach_nil
      exact aeach_nil
     exact aeach_nil
    exact aeach_nil
   exact aeach_nil
  exact aeach_nil
 exact aeach_nil
end Go.Proofs.YtjjklfgpffgnfabGreatDoor
namespace Go.AB
open Go Go.RowKit
open Go.AB.Enc (cells)
open Go.PB (Chap TextD PlaceD ReadingD CopyD WayD)
end Go.AB
namespace Go.Proofs.YtjjklfgpffgnfabGreatDoor
set_option maxRecDepth 10000
open Go.RowKit Go.AB
open Go.AB.Enc (cells)
open Go.PB (Chap TextD PlaceD ReadingD CopyD WayD)
end Go.Proofs.YtjjklfgpffgnfabGreatDoor
namespace Go.AB
open Go Go.RowKit
open Go.AB.Enc (cells)
open Go.PB (Chap TextD PlaceD ReadingD CopyD WayD)
section
variable {t : TextD} {e : EditionD} {p q : PlaceD} {r : RefD} {v : L2}
end
end Go.AB
