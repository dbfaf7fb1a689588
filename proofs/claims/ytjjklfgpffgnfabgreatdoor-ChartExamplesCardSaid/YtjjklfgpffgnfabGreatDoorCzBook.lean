/-
 Contracts of the program's functions of charts: plain editions; lists that are the same.
-/
import Derived.Test.YtjjklfgpffgnfabGreatDoorCyPlain
namespace Go.Proofs.YtjjklfgpffgnfabGreatDoor
set_option maxRecDepth 10000
open Go.RowKit Go.AB
open Go.AB.Enc (cells)
open Go.PB (Chap TextD PlaceD ReadingD CopyD WayD)
theorem chartPlain_ok (t : TextD) (e : EditionD) (hl : e.ss.length ≤ 20) (h : soundEr t e = 0) (G : Nat → Option GObj) (nx : Nat) (hF : G 0 = some chkF) :
  PC Tryz.prog 15 [textC t, val e] G nx fun r G' nx' => ∃ y : Nat, r = .tup [.agg [.v (.int .i64 e.id), .own (nx + 1 + 1 + 1 + 1 + 1 + 1 + 1) (plainS (asOf e.ss) (linesT t)).length (plainS (asOf e.ss) (linesT t)).length], .v (.int .i64 0)] ∧ G' = setG G (nx + 1 + 1 + 1 + 1 + 1 + 1 + 1) (.arr (plainS (asOf e.ss) (linesT t)).length y 28 5 (plainS (asOf e.ss) (linesT t)).length (flatC (plainS (asOf e.ss) (linesT t)))) ∧ nx' = (nx + 1 + 1 + 1 + 1 + 1 + 1 + 1) + 1 := by
 refine pc_namedX_of_body (fun (y : Nat) => setG G (nx + 1 + 1 + 1 + 1 + 1 + 1 + 1) (.arr (plainS (asOf e.ss) (linesT t)).length y 28 5 (plainS (asOf e.ss) (linesT t)).length (flatC (plainS (asOf e.ss) (linesT t))))) ((nx + 1 + 1 + 1 + 1 + 1 + 1 + 1) + 1) Tryz.func15 rfl (.tup (low_cons (.agg (low_cons .v (low_cons (.own (show (nx + 1 + 1 + 1 + 1 + 1 + 1 + 1) < (nx + 1 + 1 + 1 + 1 + 1 + 1 + 1) + 1 by omega)) low_nil))) (low_cons .v low_nil))) zN (fun hlt y => zH) ?_
 simp only [Tryz.ntmps15, List.length_cons, List.length_nil, Nat.reduceAdd, Nat.reduceSub]
 refine aw_lt fun hlt => ?_
 dsimp only at hlt
 have hnx := hlt 0 _ hF
 obtain ⟨h0, hfc⟩ := soundEr_check h
 obtain ⟨ht, hl12, he⟩ := checkEr_text h0
 have hb : ∀ p v, asOf e.ss p = some v → -100000 ≤ v.2 ∧ v.2 ≤ 100000 := fun p v hv => by
  have := asOf_pos he hv
  omega
 refine yS fun _ K1 => ?_
 refine yR ?_
 try dsimp only [St.put]
 refine yB rfl rfl rfl ?_
 try dsimp only [St.put]
 refine yB rfl rfl rfl ?_
 try dsimp only [St.put]
 refine aops_e rfl (e_allocC rfl ?_)
 refine yA rfl rfl ?_
 refine yN ?_
 dsimp only [St.put]
 refine K1 _ ?_
 refine yS fun _ K2 => ?_
 refine yR ?_
 try dsimp only [St.put]
 refine aops_s rfl (s_load_agg' rfl rfl rfl) ?_
 refine yE rfl rfl rfl ?_
 try dsimp only [St.put]
 refine aops_e rfl (e_buildSlice rfl rfl rfl (by decide) (by decide) zR (by decide) ?_)
 try dsimp only [St.put]
 refine aops_e rfl (e_call_namedX rfl rfl rfl (sound1_ok t e hl h _ _ zG) (fun y => ?_))
 refine yM rfl rfl ?_
 refine yX rfl rfl rfl rfl ?_
 refine yX rfl rfl rfl rfl ?_
 refine yA rfl rfl ?_
 refine yA rfl rfl ?_
 refine yN ?_
 dsimp only [St.put]
 refine K2 _ ?_
 refine yS fun _ K3 => ?_
 refine yS fun _ K4 => ?_
 refine yR ?_
 refine yM rfl rfl ?_
 refine aops_n rfl (n_bool (c := false) (n_neq rfl rfl rfl) (by rfl)) ?_
 refine yN ?_
 dsimp only [St.put]
 refine K4 _ ?_
 refine aw_cond rfl (fun h => by cases h) (fun _ => ?_)
 refine aw_skip ?_
 refine K3 _ ?_
 refine yS fun _ K5 => ?_
 refine yR ?_
 refine yM rfl rfl ?_
 try dsimp only [St.put]
 refine aops_n rfl (n_indexAddr (k := 0) rfl rfl rfl (by first | rfl | omega) rfl rfl) ?_
 refine yL rfl rfl rfl ?_
 try dsimp only [St.put]
 refine aops_e rfl (e_call_namedX rfl rfl rfl (bookPlain_pc t e (asOf e.ss) _ _ _ ht hb _ _ (by dsimp only [St.put]; omega) (by dsimp only [St.put]; omega) zG) (fun y2 => ?_))
 try dsimp only [St.put]
 refine aops_e rfl (e_store_all rfl rfl rfl zG rfl rfl (by rfl) ?_)
 refine yA rfl rfl ?_
 refine yN ?_
 dsimp only [St.put]
 refine K5 _ ?_
 refine aw_ret ?_
 refine ⟨y2, ?_⟩
 refine ends_v2 rfl (rv_box rfl zG (by rfl) (by first | exact List.cons_ne_nil _ _ | (simp; done) | (simp [putAt]; done)) rfl) (rv_tmp (by constructor)) zN zX ?_ ?_
 ·exact zW
 exact zW
theorem chartPlain_no (t : TextD) (e : EditionD) (hl : e.ss.length ≤ 20) (h : soundEr t e ≠ 0) : PureF chkF Tryz.prog 15 [textC t, val e] (.tup [val (⟨0, []⟩ : EditionD), .v (.int .i64 (soundEr t e))]) := by
 refine pureF_of_body Tryz.func15 rfl (fun m => .tup (low_cons (val_low _ _) (low_cons .v low_nil))) fun G nx hF => ?_
 simp only [Tryz.ntmps15, List.length_cons, List.length_nil, Nat.reduceAdd, Nat.reduceSub]
 refine aw_lt fun hlt => ?_
 dsimp only at hlt
 have hnx := hlt 0 _ hF
 refine yS fun _ K1 => ?_
 refine yR ?_
 try dsimp only [St.put]
 refine yB rfl rfl rfl ?_
 try dsimp only [St.put]
 refine yB rfl rfl rfl ?_
 try dsimp only [St.put]
 refine aops_e rfl (e_allocC rfl ?_)
 refine yA rfl rfl ?_
 refine yN ?_
 dsimp only [St.put]
 refine K1 _ ?_
 refine yS fun _ K2 => ?_
 refine yR ?_
 try dsimp only [St.put]
 refine aops_s rfl (s_load_agg' rfl rfl rfl) ?_
 refine yE rfl rfl rfl ?_
 try dsimp only [St.put]
 refine aops_e rfl (e_buildSlice rfl rfl rfl (by decide) (by decide) zR (by decide) ?_)
 try dsimp only [St.put]
 refine aops_e rfl (e_call_f rfl rfl rfl (sound1_no t e hl h) zG ?_)
 refine yM rfl rfl ?_
 refine yX rfl rfl rfl rfl ?_
 refine yX rfl rfl rfl rfl ?_
 refine yA rfl rfl ?_
 refine yA rfl rfl ?_
 refine yN ?_
 dsimp only [St.put]
 refine K2 _ ?_
 refine yS fun _ K3 => ?_
 refine yS fun _ K4 => ?_
 refine yR ?_
 refine yM rfl rfl ?_
 refine aops_n rfl (n_bool (c := true) (n_neq rfl rfl rfl) (not_dec_t h)) ?_
 refine yN ?_
 dsimp only [St.put]
 refine K4 _ ?_
 refine aw_cond rfl (fun _ => ?_) (fun h => by cases h)
 refine yS fun _ K5 => ?_
 refine yR ?_
 refine aops_n rfl (n_build rfl rfl) ?_
 refine yM rfl rfl ?_
 try dsimp only [St.put]
 refine aops_e rfl (e_store_all rfl rfl rfl zG rfl rfl (by rfl) ?_)
 refine yA rfl rfl ?_
 refine yN ?_
 dsimp only [St.put]
 refine K5 _ ?_
 refine aw_ret ?_
 refine ends_v2 rfl (rv_box rfl zG (by rfl) (by first | exact List.cons_ne_nil _ _ | (simp; done) | (simp [putAt]; done)) rfl) (rv_tmp (by constructor)) zN zS ?_ ?_
 ·exact zW
 exact zW
theorem Same2_self (a : EditionD) : Pure Tryz.prog 19 [val a, val a] (.v (.bool true)) := by
 have := Same2_pure a a
 rwa [decide_eq_true rfl] at this
end Go.Proofs.YtjjklfgpffgnfabGreatDoor
