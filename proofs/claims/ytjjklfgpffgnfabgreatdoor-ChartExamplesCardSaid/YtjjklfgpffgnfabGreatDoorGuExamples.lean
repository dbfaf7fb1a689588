/-
 The law ChartExamples: its walk.
-/
import Derived.Test.YtjjklfgpffgnfabGreatDoorGrpG
import Derived.Test.YtjjklfgpffgnfabGreatDoorAbTwin
namespace Go.AB
open Go Go.RowKit
open Go.AB.Enc (cells)
open Go.PB (Chap TextD PlaceD ReadingD CopyD WayD)
/-! ### The examples -/
def exU : EditionD := ⟨6, [⟨0, 0, 2, 1, 1⟩, ⟨0, 1, 2, 2, 1⟩]⟩
def exO : EditionD := ⟨6, [⟨0, 0, 2, 7, 999⟩, ⟨1, 0, 1, 3, 1⟩]⟩
def exW : EditionD := ⟨8, [⟨0, 1, 2, 4, 2⟩, ⟨0, 0, 1, 4, 1⟩]⟩
theorem firstU : firstC exU.ss = some (0, 1) := firstC_eq (o := some (0, 1)) ⟨⟨by decide, _, _, rfl, rfl, by decide⟩, fun c d h => by have := h.1; dsimp only; omega⟩
theorem checkU : checkEr exT exU = 0 := by decide +kernel
theorem checkO : checkEr exT exO = 20 := by decide +kernel
theorem soundU : soundEr exT exU = 8 := by simp [soundEr, checkU, firstU]
theorem soundW : soundEr exT exW = 0 := sound_no (by decide +kernel) (by decide +kernel)
theorem exClashU : clashA exT exU = 0 ∧ clashBv exT exU = 1 ∧ clashEr exT exU = 0 := by simp [clashA, clashBv, clashEr, clA, clB, checkU, firstU]
theorem exClashS : clashA exT exS = 0 ∧ clashBv exT exS = 0 ∧ clashEr exT exS = 6 := by
 have h1 := (soundEr_check soundS).1
 have h2 := (soundEr_check soundS).2
 simp [clashA, clashBv, clashEr, clA, clB, h1, h2]
theorem exGapsS : gapsE exT exS = [] ∧ checkEr exT exS = 0 := ⟨by decide +kernel, by decide +kernel⟩
theorem exCloseV : closeEr exT exV ⟨1, 1, 9⟩ = 0 ∧ closeV exT exV ⟨1, 1, 9⟩ = [⟨0, 0, 3⟩, ⟨0, 1, 0⟩] :=
 closeEr_eq soundV (by decide +kernel) ((close_beside (soundEr_sound soundV) (by decide +kernel) (by decide +kernel) (ys := wordsF exT (asOf exV.ss)) (List.Perm.refl _) (by decide +kernel)).symm.trans (by decide +kernel)) (by simp)
theorem exCrossV : bothEr exT exV exS = 0 ∧ crossL exT exV exS = [⟨1, 1, 7, 1, 1⟩, ⟨2, 5, 7, 2, 1⟩] := by
 have h := bothEr_eq soundV soundS
 refine ⟨h, ?_⟩
 have hc : crossS exV.ss exS.ss = [⟨1, 1, 7, 1, 1⟩, ⟨2, 5, 7, 2, 1⟩] := crossS_eq (crossOk_lines (soundEr_sound soundV) (by decide +kernel) fun x => by rw [show (linesT exT).filterMap (crossOf exV.ss exS.ss) = [⟨1, 1, 7, 1, 1⟩, ⟨2, 5, 7, 2, 1⟩] by decide +kernel])
 unfold crossL
 rw [h, hc]
 decide +kernel
theorem exPlainW : plainE exT exW = ⟨8, [⟨0, 0, 2, 4, 1⟩]⟩ := by
 unfold plainE
 rw [soundW]
 decide +kernel
theorem exRefer1 : referEr exT exV ⟨1, 0, 1⟩ = 6 := by unfold referEr; rw [soundV]; decide +kernel
theorem exLead1 : leadEr exT exV ⟨2, 5, 4⟩ = 6 := by unfold leadEr; rw [soundV]; decide +kernel
theorem exLead2 : leadEr exT exV ⟨2, 5, 0⟩ = 2 := by unfold leadEr; rw [soundV]; decide +kernel
theorem exRefer2 : referEr exT exU ⟨0, 0, 0⟩ = 8 := by unfold referEr; rw [soundU]; decide +kernel
theorem exRefer3 : referEr exT exS ⟨2, 0, 0⟩ = 12 := by unfold referEr; rw [soundS]; decide +kernel
theorem exTurn1 : turnEr exT exS exV ⟨3, 1, 1⟩ = 6 := by
 obtain ⟨h1, _⟩ := turnEr_eq (p := ⟨1, 0, 0⟩) soundS soundV (r := ⟨3, 1, 1⟩) (by decide +kernel) (by decide +kernel)
 rw [h1]
 unfold referEr
 rw [soundV]
 decide +kernel
theorem exSplit1 : splitEr exT exS 7 3 9 = 6 := by unfold splitEr; rw [soundS]; decide +kernel
theorem exSplit2 : splitEr exT exS 7 1 3 = 9 := by unfold splitEr; rw [soundS]; decide +kernel
theorem exJoin1 : joinEr exT exS 7 7 = 9 := by unfold joinEr; rw [soundS]; decide +kernel
theorem exNear1 : nearEr [] exS ⟨0, 0, 0⟩ = 10 := by
 have h1 : checkEr [] exS = 10 := by decide +kernel
 have h2 : soundEr [] exS = 10 := by simp [soundEr, h1]
 simp [nearEr, h2]
end Go.AB
namespace Go.Proofs.YtjjklfgpffgnfabGreatDoor
set_option maxRecDepth 10000
open Go.RowKit Go.AB
open Go.AB.Enc (cells)
open Go.PB (Chap TextD PlaceD ReadingD CopyD WayD)
theorem lawSix_own (G : Nat → Option GObj) (nx : Nat) : PC Tryz.prog 7 [] G nx fun r' G' nx' => r' = .agg [.v (.int .i64 6), .own (nx + 1) 0 2] ∧ G' = setG G (nx + 1) (.arr 0 0 28 5 2 (flatC exS.ss)) ∧ nx' = nx + 1 + 1 := by
 refine pc_named_of_body (setG G (nx + 1) (.arr 0 0 28 5 2 (flatC exS.ss))) (nx + 1 + 1) Tryz.func7 rfl (.agg (low_cons .v (low_cons (.own (Nat.lt_succ_self _)) low_nil))) zN (fun hlt => zH) ?_
 simp only [Tryz.ntmps7, List.length_cons, List.length_nil, Nat.reduceAdd, Nat.reduceSub]
 refine aw_lt fun hlt => ?_
 dsimp only at hlt
 refine yS fun _ K1 => ?_
 refine yR ?_
 try dsimp only [St.put]
 refine aops_e rfl (e_allocC rfl ?_)
 refine yN ?_
 dsimp only [St.put]
 refine K1 _ ?_
 refine yS fun _ K2 => ?_
 refine yR ?_
 refine aops_n rfl (n_build rfl rfl) ?_
 refine aops_n rfl (n_build rfl rfl) ?_
 try dsimp only [St.put]
 refine aops_e rfl (e_buildSlice_new exS.ss rfl rfl rfl rfl (by decide) (by decide) (by decide) ?_)
 refine aops_n rfl (n_build rfl rfl) ?_
 try dsimp only [St.put]
 refine aops_e rfl (e_store_all rfl rfl rfl zG rfl rfl (by rfl) ?_)
 refine yN ?_
 dsimp only [St.put]
 refine K2 _ ?_
 refine aw_ret ?_
 refine ends_v1 rfl (rv_box rfl zG (by rfl) (by first | exact List.cons_ne_nil _ _ | (simp; done) | (simp [putAt]; done)) rfl) zN zX ?_
 exact zW
theorem exr1 : PureF chkF Tryz.prog 20 [textC exT, val exV, val (⟨1, 0, 1⟩ : PlaceD)] (.tup [val (referV exT exV ⟨1, 0, 1⟩), .v (.int .i64 6)]) := by
 have := chartRefer_pureF exT exV ⟨1, 0, 1⟩ (by decide)
 rw [exRefer1] at this
 exact this
theorem exr2 : PureF chkF Tryz.prog 21 [textC exT, val exV, val (⟨2, 5, 4⟩ : RefD)] (.tup [val (leadV exT exV ⟨2, 5, 4⟩), .v (.int .i64 6)]) := by
 have := chartLead_pureF exT exV ⟨2, 5, 4⟩ (by decide)
 rw [exLead1] at this
 exact this
theorem exr3 : PureF chkF Tryz.prog 21 [textC exT, val exV, val (⟨2, 5, 0⟩ : RefD)] (.tup [val (leadV exT exV ⟨2, 5, 0⟩), .v (.int .i64 2)]) := by
 have := chartLead_pureF exT exV ⟨2, 5, 0⟩ (by decide)
 rw [exLead2] at this
 exact this
theorem exr4 : PureF chkF Tryz.prog 20 [textC exT, val exU, val (⟨0, 0, 0⟩ : PlaceD)] (.tup [val (referV exT exU ⟨0, 0, 0⟩), .v (.int .i64 8)]) := by
 have := chartRefer_pureF exT exU ⟨0, 0, 0⟩ (by decide)
 rw [exRefer2] at this
 exact this
theorem exr5 : PureF chkF Tryz.prog 20 [textC exT, val exS, val (⟨2, 0, 0⟩ : PlaceD)] (.tup [val (referV exT exS ⟨2, 0, 0⟩), .v (.int .i64 12)]) := by
 have := chartRefer_pureF exT exS ⟨2, 0, 0⟩ (by decide)
 rw [exRefer3] at this
 exact this
theorem exr6 : PureF chkF Tryz.prog 22 [textC exT, val exS, val exV, val (⟨3, 1, 1⟩ : RefD)] (.tup [val (turnV exT exS exV ⟨3, 1, 1⟩), .v (.int .i64 6)]) := by
 have := chartTurn_pureF exT exS exV ⟨3, 1, 1⟩ (by decide) (by decide)
 rw [exTurn1] at this
 exact this
theorem exr7 : PureF chkF Tryz.prog 23 [textC exT, val exS, .v (.int .i64 7), .v (.int .i64 3), .v (.int .i64 9)] (.tup [val (splitV exT exS 7 3 9), .v (.int .i64 6)]) := by
 have := chartSplit_pureF exT exS 7 3 9 (by decide)
 rw [exSplit1] at this
 exact this
theorem exr8 : PureF chkF Tryz.prog 23 [textC exT, val exS, .v (.int .i64 7), .v (.int .i64 1), .v (.int .i64 3)] (.tup [val (splitV exT exS 7 1 3), .v (.int .i64 9)]) := by
 have := chartSplit_pureF exT exS 7 1 3 (by decide)
 rw [exSplit2] at this
 exact this
theorem exr9 : PureF chkF Tryz.prog 24 [textC exT, val exS, .v (.int .i64 7), .v (.int .i64 7)] (.tup [val (joinV exT exS 7 7), .v (.int .i64 9)]) := by
 have := chartJoin_pureF exT exS 7 7 (by decide)
 rw [exJoin1] at this
 exact this
theorem exr10 : PureF chkF Tryz.prog 25 [textC [], val exS, val (⟨0, 0, 0⟩ : PlaceD)] (.tup [lst (nearV [] exS ⟨0, 0, 0⟩), .v (.int .i64 10)]) := by
 have := chartNear_pureF [] exS ⟨0, 0, 0⟩ (by decide)
 rw [exNear1] at this
 exact this
theorem exr10' : PureF chkF Tryz.prog 25 [.agg [.list [] .nil], val exS, val (⟨0, 0, 0⟩ : PlaceD)] (.tup [lst (nearV [] exS ⟨0, 0, 0⟩), .v (.int .i64 10)]) := fun G nx hG E w vs hr hg => by
 refine exr10 G nx hG E w vs ⟨hr.1, fun j c v hc hv => ?_⟩ hg
 cases j with
 | zero =>
  have h0 := hr.2 0 _ v rfl hv
  cases hc
  exact (Wk.agg (cs := [.list [] .nil]) (ds := [lst ([] : List Chap)]) (by repeat' (first | exact Wk.refl _ | exact Wk.tok | refine ⟨?_, ?_⟩ | exact trivial))).2 E w v h0
 | succ j => exact hr.2 (j + 1) c v hc hv
theorem exr11 : PureF chkF Tryz.prog 26 [textC exT, val exO] (.v (.int .i64 20)) := by
 have := chartCheck_pureF exT exO (by decide)
 rw [checkO] at this
 exact this
theorem exr12 : PureF chkF Tryz.prog 26 [textC exT, val exU] (.v (.int .i64 0)) := by
 have := chartCheck_pureF exT exU (by decide)
 rw [checkU] at this
 exact this
set_option maxHeartbeats 8000000 in
theorem examples_pureF : PureF chkF Tryz.prog 3 [] (.v (.bool true)) := by
 refine pureF_of_body Tryz.func3 rfl (fun m => .v) fun G nx hF => ?_
 simp only [Tryz.ntmps3, List.length_cons, List.length_nil, Nat.reduceAdd, Nat.reduceSub]
 refine aw_lt fun hlt => ?_
 dsimp only at hlt
 have hnx := hlt 0 _ hF
 refine yS fun _ K1 => ?_
 refine yR ?_
 refine yA rfl rfl ?_
 refine yN ?_
 dsimp only [St.put]
 refine K1 _ ?_
 refine yS fun _ K2 => ?_
 refine yS fun _ K3 => ?_
 refine yR ?_
 refine yM rfl rfl ?_
 try dsimp only [St.put]
 refine aops_e rfl (e_call_f rfl rfl rfl (alive_pureF) zG ?_)
 refine aops_n rfl (n_not rfl rfl) ?_
 refine aops_n rfl (n_pf rfl rfl (by constructor)) ?_
 refine yN ?_
 dsimp only [St.put]
 refine K3 _ ?_
 refine aw_cond rfl (fun h => by cases h) (fun _ => ?_)
 refine aw_skip ?_
 refine K2 _ ?_
 refine yS fun _ K4 => ?_
 refine yR ?_
 try dsimp only [St.put]
 refine aops_e rfl (e_call_pure rfl rfl rfl (lawSix_pure) ?_)
 try dsimp only [St.put]
 refine aops_e rfl (e_call_named rfl rfl rfl (lawSix_own _ _) ?_)
 try dsimp only [St.put]
 refine aops_e rfl (e_allocC rfl ?_)
 try dsimp only [St.put]
 refine aops_e rfl (e_allocC rfl ?_)
 try dsimp only [St.put]
 refine aops_e rfl (e_store_all rfl rfl rfl zG rfl rfl (by rfl) ?_)
 try dsimp only [St.put]
 refine aops_e rfl (e_store_all rfl rfl rfl zG rfl rfl (by rfl) ?_)
 refine yN ?_
 dsimp only [St.put]
 refine K4 _ ?_
 refine yS fun _ K5 => ?_
 refine yR ?_
 refine aops_n rfl (n_build rfl rfl) ?_
 refine aops_n rfl (n_build rfl rfl) ?_
 try dsimp only [St.put]
 refine aops_e rfl (e_buildSlice rfl rfl rfl (by decide) (by decide) zR (by decide) ?_)
 refine aops_n rfl (n_fieldAddr_box rfl rfl) ?_
 try dsimp only [St.put]
 refine aops_e rfl (e_store_one rfl rfl rfl zG (by constructor) rfl (by first | (simp; done) | (simp; omega) | exact Nat.lt_of_lt_of_eq (by decide) (Enc.len _).symm) ?_)
 refine yN ?_
 dsimp only [St.put]
 refine K5 _ ?_
 refine aw_commitD (i := 1) rfl zG (by first | exact List.cons_ne_nil _ _ | (simp; done) | (simp [putAt]; done)) ?_
 dsimp only
 refine yS fun _ K6 => ?_
 refine yR ?_
 refine aops_n rfl (n_fieldAddr_box rfl rfl) ?_
 try dsimp only [St.put]
 refine aops_s rfl (s_load_box rfl rfl zG trivial (by first | rfl | assumption)) ?_
 try dsimp only [St.put]
 refine aops_n rfl (n_indexAddr_own (k := 0) rfl rfl zG rfl (by first | exact rfl | omega) (by first | omega | (simp; omega))) ?_
 refine aops_n rfl (n_fieldAddr_box rfl rfl) ?_
 try dsimp only [St.put]
 refine aops_e rfl (e_store_own1 (k := 0) (j := 4) (z := (⟨0, 0, 2, 7, 1⟩ : StretchD)) (z' := (⟨0, 0, 2, 7, 999⟩ : StretchD)) rfl rfl rfl zG rfl rfl rfl rfl (by decide) rfl ?_)
 refine yN ?_
 dsimp only [St.put]
 refine K6 _ ?_
 refine aw_commit_own_cell (nx + 1 + 1 + 1) 1 exO.ss zG rfl zG (by omega) rfl rfl rfl ?_
 dsimp only [List.set_cons_zero, List.set_cons_succ]
 refine aw_commitD (i := 2) rfl zG (by exact List.cons_ne_nil _ _) ?_
 dsimp only
 refine aw_forget G zX ?_
 dsimp only
 refine yS fun _ K7 => ?_
 refine aw_draw [(1, none), (0, none), (2, none), (3, none), (4, none), (5, none), (6, none), (7, none), (8, none), (9, none)] (fun i => [2].contains i) (fun i => [0, 2].contains i) (fun i => [3, 4, 5, 6, 7, 8, 9].contains i) [] (by kernel_rfl) (by kernel_rfl) ?_
 try dsimp only [St.put]
 refine acan1_s rfl rfl rfl rfl (s_load_agg' rfl rfl rfl) ?_
 refine acan1_two ?_
 try dsimp only [St.put]
 refine acan2_e rfl rfl rfl (e_call_pure rfl rfl rfl (lawText_pure) ⟨zD, ?_⟩)
 try dsimp only [St.put]
 refine acan2_late rfl rfl rfl rfl (e_call_f rfl rfl rfl (chartClash_pureF exT exU (by decide)) zG ?_)
 refine acan2_n rfl rfl rfl rfl (n_mv rfl (by constructor)) ?_
 refine acan2_n rfl rfl rfl rfl (n_extract rfl rfl rfl) ?_
 refine acan2_n rfl rfl rfl rfl (n_extract rfl rfl rfl) ?_
 refine acan2_n rfl rfl rfl rfl (n_extract rfl rfl rfl) ?_
 refine acan2_n rfl rfl rfl rfl (n_as rfl (by constructor)) ?_
 refine acan2_n rfl rfl rfl rfl (n_as rfl (by constructor)) ?_
 refine acan2_n rfl rfl rfl rfl (n_as rfl (by constructor)) ?_
 refine acan2_nil ?_
 dsimp only [St.put]
 rw [exClashU.1, exClashU.2.1, exClashU.2.2]
 refine K7 _ ?_
 refine yS fun _ K8 => ?_
 refine yR ?_
 try dsimp only [St.put]
 refine aops_e rfl (e_call_pure rfl rfl rfl (lawText_pure) ?_)
 try dsimp only [St.put]
 refine aops_e rfl (e_call_pure rfl rfl rfl (lawSix_pure) ?_)
 try dsimp only [St.put]
 refine aops_e rfl (e_call_f rfl rfl rfl (chartClash_pureF exT exS (by decide)) zG ?_)
 refine yM rfl rfl ?_
 refine yX rfl rfl rfl rfl ?_
 refine yX rfl rfl rfl rfl ?_
 refine yX rfl rfl rfl rfl ?_
 refine yA rfl rfl ?_
 refine yA rfl rfl ?_
 refine yA rfl rfl ?_
 refine yN ?_
 dsimp only [St.put]
 rw [exClashS.1, exClashS.2.1, exClashS.2.2]
 refine K8 _ ?_
 refine yS fun _ K9 => ?_
 refine yR ?_
 try dsimp only [St.put]
 refine aops_e rfl (e_call_pure rfl rfl rfl (lawText_pure) ?_)
 try dsimp only [St.put]
 refine aops_e rfl (e_call_pure rfl rfl rfl (lawSix_pure) ?_)
 try dsimp only [St.put]
 refine aops_e rfl (e_call_f rfl rfl rfl (chartGaps_pureF exT exS (by decide)) zG ?_)
 refine yM rfl rfl ?_
 refine yX rfl rfl rfl rfl ?_
 refine yX rfl rfl rfl rfl ?_
 refine yA rfl rfl ?_
 refine yA rfl rfl ?_
 refine yN ?_
 dsimp only [St.put]
 rw [exGapsS.1, exGapsS.2]
 refine K9 _ ?_
 refine yS fun _ K10 => ?_
 refine yR ?_
 try dsimp only [St.put]
 refine aops_e rfl (e_call_pure rfl rfl rfl (lawText_pure) ?_)
 try dsimp only [St.put]
 refine aops_e rfl (e_call_pure rfl rfl rfl (lawFive_pure) ?_)
 try dsimp only [St.put]
 refine aops_e rfl (e_call_pure rfl rfl rfl (lawRef_pure _ _ _) ?_)
 try dsimp only [St.put]
 refine aops_e rfl (e_call_f rfl rfl rfl (chartClose_pureF exT exV ⟨1, 1, 9⟩ (by decide)) zG ?_)
 refine yM rfl rfl ?_
 refine yX rfl rfl rfl rfl ?_
 refine yX rfl rfl rfl rfl ?_
 refine yA rfl rfl ?_
 refine yA rfl rfl ?_
 refine yN ?_
 dsimp only [St.put]
 rw [exCloseV.1, exCloseV.2]
 refine K10 _ ?_
 refine yS fun _ K11 => ?_
 refine yR ?_
 try dsimp only [St.put]
 refine aops_e rfl (e_call_pure rfl rfl rfl (lawText_pure) ?_)
 try dsimp only [St.put]
 refine aops_e rfl (e_call_pure rfl rfl rfl (lawFive_pure) ?_)
 try dsimp only [St.put]
 refine aops_e rfl (e_call_pure rfl rfl rfl (lawSix_pure) ?_)
 try dsimp only [St.put]
 refine aops_e rfl (e_call_f rfl rfl rfl (chartCross_pureF exT exV exS (by decide) (by decide)) zG ?_)
 refine yM rfl rfl ?_
 refine yX rfl rfl rfl rfl ?_
 refine yX rfl rfl rfl rfl ?_
 refine yA rfl rfl ?_
 refine yA rfl rfl ?_
 refine yN ?_
 dsimp only [St.put]
 rw [exCrossV.1, exCrossV.2]
 refine K11 _ ?_
 refine yS fun _ K12 => ?_
 refine yR ?_
 try dsimp only [St.put]
 refine aops_e rfl (e_call_pure rfl rfl rfl (lawText_pure) ?_)
 refine aops_n rfl (n_build rfl rfl) ?_
 refine aops_n rfl (n_build rfl rfl) ?_
 try dsimp only [St.put]
 refine aops_e rfl (e_buildSlice rfl rfl rfl (by decide) (by decide) zR (by decide) ?_)
 refine aops_n rfl (n_build rfl rfl) ?_
 try dsimp only [St.put]
 refine aops_e rfl (e_call_f rfl rfl rfl (chartPlain_pureF exT exW (by decide)) zG ?_)
 refine yM rfl rfl ?_
 refine yX rfl rfl rfl rfl ?_
 refine yX rfl rfl rfl rfl ?_
 try dsimp only [St.put]
 refine aops_e rfl (e_allocC rfl ?_)
 try dsimp only [St.put]
 refine aops_e rfl (e_store_all rfl rfl rfl zG rfl rfl (by rfl) ?_)
 refine yA rfl rfl ?_
 refine yN ?_
 dsimp only [St.put]
 rw [exPlainW, soundW]
 refine K12 _ ?_
 refine aw_commitD (i := 15) rfl zG (by first | exact List.cons_ne_nil _ _ | (simp; done) | (simp [putAt]; done)) ?_
 dsimp only
 refine yS fun _ K13 => ?_
 refine yS fun _ K14 => ?_
 refine yR ?_
 refine yM rfl rfl ?_
 refine aops_n rfl (n_bool (n_neq rfl rfl rfl) (not_dec_f (by omega))) ?_
 refine yM rfl rfl ?_
 refine yM rfl rfl ?_
 refine aops_n rfl (n_bool (n_neq rfl rfl rfl) (not_dec_f (by omega))) ?_
 refine aops_n rfl (n_pf rfl rfl (by constructor)) ?_
 refine yM rfl rfl ?_
 refine yM rfl rfl ?_
 refine aops_n rfl (n_bool (n_neq rfl rfl rfl) (not_dec_f (by omega))) ?_
 refine aops_n rfl (n_pf rfl rfl (by constructor)) ?_
 refine yM rfl rfl ?_
 refine yM rfl rfl ?_
 refine aops_n rfl (n_bool (n_neq rfl rfl rfl) (not_dec_f (by omega))) ?_
 refine aops_n rfl (n_pf rfl rfl (by constructor)) ?_
 refine yM rfl rfl ?_
 refine yM rfl rfl ?_
 refine aops_n rfl (n_bool (n_neq rfl rfl rfl) (not_dec_f (by omega))) ?_
 refine aops_n rfl (n_pf rfl rfl (by constructor)) ?_
 refine yM rfl rfl ?_
 refine yM rfl rfl ?_
 refine aops_n rfl (n_len' rfl rfl (List.length_map _)) ?_
 refine aops_n rfl ((n_bool (c := false) (n_neq rfl rfl rfl) (not_dec_f (by rfl)))) ?_
 refine aops_n rfl (n_pf rfl rfl (by constructor)) ?_
 refine yM rfl rfl ?_
 refine yM rfl rfl ?_
 refine yM rfl rfl ?_
 try dsimp only [St.put]
 refine aops_e rfl (e_call_pure rfl rfl rfl (lawPlace_pure _ _ _) ?_)
 try dsimp only [St.put]
 refine aops_e rfl (e_call_pure rfl rfl rfl (lawPlace_pure _ _ _) ?_)
 try dsimp only [St.put]
 refine aops_e rfl (e_buildSlice rfl rfl rfl (by decide) (by decide) zR (by decide) ?_)
 try dsimp only [St.put]
 refine aops_e rfl (e_call_pure rfl rfl rfl (lawNear_self [⟨0, 0, 3⟩, ⟨0, 1, 0⟩]) ?_)
 refine aops_n rfl (n_not rfl rfl) ?_
 refine aops_n rfl (n_pf rfl rfl (by constructor)) ?_
 refine yM rfl rfl ?_
 refine yM rfl rfl ?_
 refine aops_n rfl (n_bool (n_neq rfl rfl rfl) (not_dec_f (by omega))) ?_
 refine aops_n rfl (n_pf rfl rfl (by constructor)) ?_
 refine yM rfl rfl ?_
 refine yM rfl rfl ?_
 refine aops_n rfl (n_build rfl rfl) ?_
 refine aops_n rfl (n_build rfl rfl) ?_
 try dsimp only [St.put]
 refine aops_e rfl (e_buildSlice rfl rfl rfl (by decide) (by decide) zR (by decide) ?_)
 try dsimp only [St.put]
 refine aops_e rfl (e_call_pure rfl rfl rfl (SamePasses_self' [⟨1, 1, 7, 1, 1⟩, ⟨2, 5, 7, 2, 1⟩]) ?_)
 refine aops_n rfl (n_not rfl rfl) ?_
 refine aops_n rfl (n_pf rfl rfl (by constructor)) ?_
 refine yM rfl rfl ?_
 refine yM rfl rfl ?_
 refine aops_n rfl (n_bool (n_neq rfl rfl rfl) (not_dec_f (by omega))) ?_
 refine aops_n rfl (n_pf rfl rfl (by constructor)) ?_
 refine yM rfl rfl ?_
 refine yE rfl rfl rfl ?_
 refine aops_n rfl (n_build rfl rfl) ?_
 try dsimp only [St.put]
 refine aops_e rfl (e_buildSlice rfl rfl rfl (by decide) (by decide) zR (by decide) ?_)
 refine aops_n rfl (n_build rfl rfl) ?_
 try dsimp only [St.put]
 refine aops_e rfl (e_call_pure rfl rfl rfl (Same2_self ⟨8, [⟨0, 0, 2, 4, 1⟩]⟩) ?_)
 refine aops_n rfl (n_not rfl rfl) ?_
 refine aops_n rfl (n_pf rfl rfl (by constructor)) ?_
 refine yN ?_
 dsimp only [St.put]
 refine K14 _ ?_
 refine aw_cond rfl (fun h => by cases h) (fun _ => ?_)
 refine aw_skip ?_
 refine K13 _ ?_
 refine yS fun _ K15 => ?_
 refine yR ?_
 try dsimp only [St.put]
 refine aops_e rfl (e_call_pure rfl rfl rfl (lawText_pure) ?_)
 try dsimp only [St.put]
 refine aops_e rfl (e_call_pure rfl rfl rfl (lawFive_pure) ?_)
 try dsimp only [St.put]
 refine aops_e rfl (e_call_pure rfl rfl rfl (lawPlace_pure _ _ _) ?_)
 try dsimp only [St.put]
 refine aops_e rfl (e_call_f rfl rfl rfl (exr1) zG ?_)
 refine yM rfl rfl ?_
 refine yX rfl rfl rfl rfl ?_
 refine yX rfl rfl rfl rfl ?_
 refine yA rfl rfl ?_
 refine yN ?_
 dsimp only [St.put]
 refine K15 _ ?_
 refine yS fun _ K16 => ?_
 refine yR ?_
 try dsimp only [St.put]
 refine aops_e rfl (e_call_pure rfl rfl rfl (lawText_pure) ?_)
 try dsimp only [St.put]
 refine aops_e rfl (e_call_pure rfl rfl rfl (lawFive_pure) ?_)
 try dsimp only [St.put]
 refine aops_e rfl (e_call_pure rfl rfl rfl (lawRef_pure _ _ _) ?_)
 try dsimp only [St.put]
 refine aops_e rfl (e_call_f rfl rfl rfl (exr2) zG ?_)
 refine yM rfl rfl ?_
 refine yX rfl rfl rfl rfl ?_
 refine yX rfl rfl rfl rfl ?_
 refine yA rfl rfl ?_
 refine yN ?_
 dsimp only [St.put]
 refine K16 _ ?_
 refine yS fun _ K17 => ?_
 refine yR ?_
 try dsimp only [St.put]
 refine aops_e rfl (e_call_pure rfl rfl rfl (lawText_pure) ?_)
 try dsimp only [St.put]
 refine aops_e rfl (e_call_pure rfl rfl rfl (lawFive_pure) ?_)
 try dsimp only [St.put]
 refine aops_e rfl (e_call_pure rfl rfl rfl (lawRef_pure _ _ _) ?_)
 try dsimp only [St.put]
 refine aops_e rfl (e_call_f rfl rfl rfl (exr3) zG ?_)
 refine yM rfl rfl ?_
 refine yX rfl rfl rfl rfl ?_
 refine yX rfl rfl rfl rfl ?_
 refine yA rfl rfl ?_
 refine yN ?_
 dsimp only [St.put]
 refine K17 _ ?_
 refine yS fun _ K18 => ?_
 refine aw_draw [(1, none), (0, none), (2, none), (3, none), (4, none), (5, none), (6, none), (7, none)] (fun i => [3].contains i) (fun i => [0, 2, 3].contains i) (fun i => [4, 5, 6, 7].contains i) [] (by kernel_rfl) (by kernel_rfl) ?_
 try dsimp only [St.put]
 refine acan1_s rfl rfl rfl rfl (s_load_agg' rfl rfl rfl) ?_
 refine acan1_two ?_
 try dsimp only [St.put]
 refine acan2_e rfl rfl rfl (e_call_pure rfl rfl rfl (lawText_pure) ⟨zD, ?_⟩)
 try dsimp only [St.put]
 refine acan2_e rfl rfl rfl (e_call_pure rfl rfl rfl (lawPlace_pure _ _ _) ⟨zD, ?_⟩)
 try dsimp only [St.put]
 refine acan2_late rfl rfl rfl rfl (e_call_f rfl rfl rfl (exr4) zG ?_)
 refine acan2_n rfl rfl rfl rfl (n_mv rfl (by constructor)) ?_
 refine acan2_n rfl rfl rfl rfl (n_extract rfl rfl rfl) ?_
 refine acan2_n rfl rfl rfl rfl (n_extract rfl rfl rfl) ?_
 refine acan2_n rfl rfl rfl rfl (n_as rfl (by constructor)) ?_
 refine acan2_nil ?_
 dsimp only [St.put]
 refine K18 _ ?_
 refine yS fun _ K19 => ?_
 refine yR ?_
 try dsimp only [St.put]
 refine aops_e rfl (e_call_pure rfl rfl rfl (lawText_pure) ?_)
 try dsimp only [St.put]
 refine aops_e rfl (e_call_pure rfl rfl rfl (lawSix_pure) ?_)
 try dsimp only [St.put]
 refine aops_e rfl (e_call_pure rfl rfl rfl (lawPlace_pure _ _ _) ?_)
 try dsimp only [St.put]
 refine aops_e rfl (e_call_f rfl rfl rfl (exr5) zG ?_)
 refine yM rfl rfl ?_
 refine yX rfl rfl rfl rfl ?_
 refine yX rfl rfl rfl rfl ?_
 refine yA rfl rfl ?_
 refine yN ?_
 dsimp only [St.put]
 refine K19 _ ?_
 refine yS fun _ K20 => ?_
 refine yR ?_
 try dsimp only [St.put]
 refine aops_e rfl (e_call_pure rfl rfl rfl (lawText_pure) ?_)
 try dsimp only [St.put]
 refine aops_e rfl (e_call_pure rfl rfl rfl (lawSix_pure) ?_)
 try dsimp only [St.put]
 refine aops_e rfl (e_call_pure rfl rfl rfl (lawFive_pure) ?_)
 try dsimp only [St.put]
 refine aops_e rfl (e_call_pure rfl rfl rfl (lawRef_pure _ _ _) ?_)
 try dsimp only [St.put]
 refine aops_e rfl (e_call_f rfl rfl rfl (exr6) zG ?_)
 refine yM rfl rfl ?_
 refine yX rfl rfl rfl rfl ?_
 refine yX rfl rfl rfl rfl ?_
 refine yA rfl rfl ?_
 refine yN ?_
 dsimp only [St.put]
 refine K20 _ ?_
 refine yS fun _ K21 => ?_
 refine yR ?_
 try dsimp only [St.put]
 refine aops_e rfl (e_call_pure rfl rfl rfl (lawText_pure) ?_)
 try dsimp only [St.put]
 refine aops_e rfl (e_call_pure rfl rfl rfl (lawSix_pure) ?_)
 try dsimp only [St.put]
 refine aops_e rfl (e_call_f rfl rfl rfl (exr7) zG ?_)
 refine yM rfl rfl ?_
 refine yX rfl rfl rfl rfl ?_
 refine yX rfl rfl rfl rfl ?_
 try dsimp only [St.put]
 refine aops_e rfl (e_allocC rfl ?_)
 try dsimp only [St.put]
 refine aops_e rfl (e_store_all rfl rfl rfl zG rfl rfl (by rfl) ?_)
 refine yA rfl rfl ?_
 refine yN ?_
 dsimp only [St.put]
 refine K21 _ ?_
 refine aw_commitD (i := 17) rfl zG (by first | exact List.cons_ne_nil _ _ | (simp; done) | (simp [putAt]; done)) ?_
 dsimp only
 refine yS fun _ K22 => ?_
 refine yR ?_
 try dsimp only [St.put]
 refine aops_e rfl (e_call_pure rfl rfl rfl (lawText_pure) ?_)
 try dsimp only [St.put]
 refine aops_e rfl (e_call_pure rfl rfl rfl (lawSix_pure) ?_)
 try dsimp only [St.put]
 refine aops_e rfl (e_call_f rfl rfl rfl (exr8) zG ?_)
 refine yM rfl rfl ?_
 refine yX rfl rfl rfl rfl ?_
 refine yX rfl rfl rfl rfl ?_
 try dsimp only [St.put]
 refine aops_e rfl (e_allocC rfl ?_)
 try dsimp only [St.put]
 refine aops_e rfl (e_store_all rfl rfl rfl zG rfl rfl (by rfl) ?_)
 refine yA rfl rfl ?_
 refine yN ?_
 dsimp only [St.put]
 refine K22 _ ?_
 refine aw_commitD (i := 19) rfl zG (by first | exact List.cons_ne_nil _ _ | (simp; done) | (simp [putAt]; done)) ?_
 dsimp only
 refine yS fun _ K23 => ?_
 refine yR ?_
 try dsimp only [St.put]
 refine aops_e rfl (e_call_pure rfl rfl rfl (lawText_pure) ?_)
 try dsimp only [St.put]
 refine aops_e rfl (e_call_pure rfl rfl rfl (lawSix_pure) ?_)
 try dsimp only [St.put]
 refine aops_e rfl (e_call_f rfl rfl rfl (exr9) zG ?_)
 refine yM rfl rfl ?_
 refine yX rfl rfl rfl rfl ?_
 refine yX rfl rfl rfl rfl ?_
 try dsimp only [St.put]
 refine aops_e rfl (e_allocC rfl ?_)
 try dsimp only [St.put]
 refine aops_e rfl (e_store_all rfl rfl rfl zG rfl rfl (by rfl) ?_)
 refine yA rfl rfl ?_
 refine yN ?_
 dsimp only [St.put]
 refine K23 _ ?_
 refine aw_commitD (i := 21) rfl zG (by first | exact List.cons_ne_nil _ _ | (simp; done) | (simp [putAt]; done)) ?_
 dsimp only
 refine yS fun _ K24 => ?_
 refine yR ?_
 refine aops_n rfl (n_build rfl rfl) ?_
 try dsimp only [St.put]
 refine aops_e rfl (e_call_pure rfl rfl rfl (lawSix_pure) ?_)
 try dsimp only [St.put]
 refine aops_e rfl (e_call_pure rfl rfl rfl (lawPlace_pure _ _ _) ?_)
 try dsimp only [St.put]
 refine aops_e rfl (e_call_f rfl rfl rfl (exr10') zG ?_)
 refine yM rfl rfl ?_
 refine yX rfl rfl rfl rfl ?_
 refine yX rfl rfl rfl rfl ?_
 refine yA rfl rfl ?_
 refine yA rfl rfl ?_
 refine yN ?_
 dsimp only [St.put]
 refine K24 _ ?_
 refine yS fun _ K25 => ?_
 refine aw_drawT [(0, none), (1, none), (2, none), (3, none), (4, none), (5, none), (6, none), (7, none), (8, none), (9, none), (10, none), (11, none), (12, none), (13, none), (14, none), (15, none), (16, none), (17, none), (18, none), (19, none), (20, none), (21, none), (22, none), (23, none), (24, none), (25, none), (26, none), (27, none), (28, none), (29, none), (30, none), (31, none), (32, none), (33, none), (34, none), (35, none), (36, none), (37, none), (38, none), (40, none)] (fun _ => false) (fun i => [0, 1, 2, 3, 4, 5, 6, 7, 8, 9, 10, 11, 12, 13, 14, 15, 16, 17, 18, 19, 20, 21, 22, 23, 24, 25, 26, 27, 28, 29, 30, 31, 32, 33, 34, 35, 36, 37, 38].contains i) 11 [true, true, true, true, true, true, true, true, true, true, true, true, true, true, true, true, true, true, true, true, true, true, true, true, true, true, true, true, true, true, true, true, true, true, true, true, true, true, true, false, true, false, false, false, false, false, false, false, false, false, false] (by kernel_rfl) (by kernel_rfl) ?_
 refine xM rfl rfl rfl rfl rfl ?_
 refine acan1_n rfl rfl rfl rfl (n_bool (n_eql rfl rfl rfl) (decide_eq_true (by omega))) ?_
 refine xM rfl rfl rfl rfl rfl ?_
 refine xM rfl rfl rfl rfl rfl ?_
 refine acan1_n rfl rfl rfl rfl (n_bool (n_eql rfl rfl rfl) (decide_eq_true (by omega))) ?_
 refine acan1_n rfl rfl rfl rfl (n_pt rfl rfl (by constructor)) ?_
 refine xM rfl rfl rfl rfl rfl ?_
 refine xM rfl rfl rfl rfl rfl ?_
 refine acan1_n rfl rfl rfl rfl (n_bool (n_eql rfl rfl rfl) (decide_eq_true (by omega))) ?_
 refine acan1_n rfl rfl rfl rfl (n_pt rfl rfl (by constructor)) ?_
 refine xM rfl rfl rfl rfl rfl ?_
 refine xM rfl rfl rfl rfl rfl ?_
 refine acan1_n rfl rfl rfl rfl (n_bool (n_eql rfl rfl rfl) (decide_eq_true (by omega))) ?_
 refine acan1_n rfl rfl rfl rfl (n_pt rfl rfl (by constructor)) ?_
 refine xM rfl rfl rfl rfl rfl ?_
 refine xM rfl rfl rfl rfl rfl ?_
 refine acan1_n rfl rfl rfl rfl (n_bool (n_eql rfl rfl rfl) (decide_eq_true (by omega))) ?_
 refine acan1_n rfl rfl rfl rfl (n_pt rfl rfl (by constructor)) ?_
 refine xM rfl rfl rfl rfl rfl ?_
 refine xM rfl rfl rfl rfl rfl ?_
 refine acan1_n rfl rfl rfl rfl (n_bool (n_eql rfl rfl rfl) (decide_eq_true (by omega))) ?_
 refine acan1_n rfl rfl rfl rfl (n_pt rfl rfl (by constructor)) ?_
 refine xM rfl rfl rfl rfl rfl ?_
 refine xM rfl rfl rfl rfl rfl ?_
 refine acan1_n rfl rfl rfl rfl (n_bool (n_eql rfl rfl rfl) (decide_eq_true (by omega))) ?_
 refine acan1_n rfl rfl rfl rfl (n_pt rfl rfl (by constructor)) ?_
 refine xM rfl rfl rfl rfl rfl ?_
 refine xM rfl rfl rfl rfl rfl ?_
 refine acan1_n rfl rfl rfl rfl (n_bool (n_eql rfl rfl rfl) (decide_eq_true (by omega))) ?_
 refine acan1_n rfl rfl rfl rfl (n_pt rfl rfl (by constructor)) ?_
 refine xM rfl rfl rfl rfl rfl ?_
 refine xM rfl rfl rfl rfl rfl ?_
 refine acan1_n rfl rfl rfl rfl (n_bool (n_eql rfl rfl rfl) (decide_eq_true (by omega))) ?_
 refine acan1_n rfl rfl rfl rfl (n_pt rfl rfl (by constructor)) ?_
 refine xM rfl rfl rfl rfl rfl ?_
 refine xM rfl rfl rfl rfl rfl ?_
 refine acan1_n rfl rfl rfl rfl (n_bool (n_eql rfl rfl rfl) (decide_eq_true (by omega))) ?_
 refine acan1_n rfl rfl rfl rfl (n_pt rfl rfl (by constructor)) ?_
 refine xM rfl rfl rfl rfl rfl ?_
 try dsimp only [St.put]
 refine acan1_s rfl rfl rfl rfl (s_load_agg' rfl rfl rfl) ?_
 refine acan1_nil ?_
 refine aany_step [39] (by kernel_rfl) (by simp) ?_
 refine aeach_cons ?_ ?_
 ·try dsimp only [St.put]
  refine aone_e rfl rfl rfl (e_call_pure rfl rfl rfl (lawText_pure) ?_)
  refine aany_step [41] (by kernel_rfl) (by simp) ?_
  refine aeach_cons ?_ ?_
  ·try dsimp only [St.put]
   refine aone_e rfl rfl rfl (e_call_f rfl rfl rfl (exr11) zG ?_)
   refine aany_quiet [(42, none), (43, none), (44, none), (46, none)] (fun i => [42, 43, 44].contains i) 5 [true, true, true, true, true, true, true, true, true, true, true, true, true, true, true, true, true, true, true, true, true, true, true, true, true, true, true, true, true, true, true, true, true, true, true, true, true, true, true, true, true, true, true, true, true, false, true, false, false, false, false] (by kernel_rfl) ?_
   refine acan1_n rfl rfl rfl rfl (n_bool (n_eql rfl rfl rfl) (decide_eq_true (by omega))) ?_
   refine acan1_n rfl rfl rfl rfl (n_pt rfl rfl (by constructor)) ?_
   refine xM rfl rfl rfl rfl rfl ?_
   try dsimp only [St.put]
   refine acan1_s rfl rfl rfl rfl (s_load_agg' rfl rfl rfl) ?_
   refine acan1_nil ?_
   refine aany_step [45] (by kernel_rfl) (by simp) ?_
   refine aeach_cons ?_ ?_
   ·try dsimp only [St.put]
    refine aone_e rfl rfl rfl (e_call_pure rfl rfl rfl (lawText_pure) ?_)
    refine aany_step [47] (by kernel_rfl) (by simp) ?_
    refine aeach_cons ?_ ?_
    ·try dsimp only [St.put]
     refine aone_e rfl rfl rfl (e_call_f rfl rfl rfl (exr12) zG ?_)
     refine aany_quiet [(48, none), (49, none), (50, none)] (fun i => [48, 49, 50].contains i) 0 [true, true, true, true, true, true, true, true, true, true, true, true, true, true, true, true, true, true, true, true, true, true, true, true, true, true, true, true, true, true, true, true, true, true, true, true, true, true, true, true, true, true, true, true, true, true, true, true, true, true, true] (by kernel_rfl) ?_
     refine acan1_n rfl rfl rfl rfl (n_bool (n_eql rfl rfl rfl) (decide_eq_true (by omega))) ?_
     refine acan1_n rfl rfl rfl rfl (n_pt rfl rfl (by constructor)) ?_
     refine acan1_n rfl rfl rfl rfl (n_as rfl (by constructor)) ?_
     refine acan1_nil ?_
     dsimp only [St.put]
     refine aany_nil (by kernel_rfl) ?_
     refine K25 _ ?_
     refine aw_ret ?_
     refine ends_1 rfl (by constructor) (by dsimp only; omega) (fun n o h => by have h9 := hlt n o h; dsimp only; (repeat (first | rw [delG_other (by omega)] | rw [setG_other (by omega)])); exact h) ?_
     rfl
    exact aeach_nil
   exact aeach_nil
  exact aeach_nil
 exact aeach_nil
end Go.Proofs.YtjjklfgpffgnfabGreatDoor
