/-
 Contracts of the program's functions of charts: where references lead, and how they are turned from one edition to another one.
-/
import Derived.Test.YtjjklfgpffgnfabGreatDoorEcRefer
namespace Go.AB
open Go Go.RowKit
open Go.AB.Enc (cells)
open Go.PB (Chap TextD PlaceD ReadingD CopyD WayD)
theorem back_words {t : TextD} {ss : List StretchD} (hS : Sound t ss) : ∀ q p, backOf ss q = some p → ∃ l, wordsOf t p = some l := fun q p h => asOf_words hS ((back_iff hS.no).1 h)
/-- what is wrong with two editions -/
theorem bothEr_err {t : TextD} {e f : EditionD} (h : bothEr t e f ≠ 0) : (checkEr t e ≠ 0 ∧ bothEr t e f = checkEr t e) ∨ (checkEr t e = 0 ∧ checkEr t f ≠ 0 ∧ bothEr t e f = checkEr t f) ∨
  (checkEr t e = 0 ∧ checkEr t f = 0 ∧ (firstC e.ss).isSome = true ∧ bothEr t e f = 8) ∨ (checkEr t f = 0 ∧ soundEr t e = 0 ∧ (firstC f.ss).isSome = true ∧ bothEr t e f = 8) := by
 by_cases h1 : checkEr t e = 0
 ·by_cases h2 : checkEr t f = 0
  ·by_cases h3 : soundEr t e = 0
   ·have h4 : bothEr t e f = soundEr t f := by simp [bothEr, h1, h2, h3]
    rw [h4] at h
    rcases soundEr_err h with ⟨h5, _⟩ | ⟨_, h5, h6⟩
    ·exact absurd h2 h5
    exact .inr (.inr (.inr ⟨h2, h3, h5, h4.trans h6⟩))
   have h4 : bothEr t e f = soundEr t e := by simp [bothEr, h1, h2, h3]
   rcases soundEr_err h3 with ⟨h5, _⟩ | ⟨_, h5, h6⟩
   ·exact absurd h1 h5
   exact .inr (.inr (.inl ⟨h1, h2, h5, h4.trans h6⟩))
  exact .inr (.inl ⟨h1, h2, by simp [bothEr, h1, h2]⟩)
 exact .inl ⟨h1, by simp [bothEr, h1]⟩
end Go.AB
namespace Go.Proofs.YtjjklfgpffgnfabGreatDoor
set_option maxRecDepth 10000
open Go.RowKit Go.AB
open Go.AB.Enc (cells)
open Go.PB (Chap TextD PlaceD ReadingD CopyD WayD)
theorem numbered_ok {Y : Type} (t : TextD) (r : RefD) (es : List EditionD) (L : C) (G : Nat → Option GObj) (nx : Nat) (g : Y → Nat → Option GObj) (m : Nat) (hr : refB r = true) (hm : nx ≤ m) (hL : L.low m)
  (hg : (∀ n o, G n = some o → n < nx) → ∀ y n o, g y n = some o → G n = some o ∨ (n < m ∧ o.low m)) (hs : PC Tryz.prog 52 [textC t, lst es] G nx fun r' G' nx' => ∃ y, r' = .tup [L, .v (.int .i64 0)] ∧ G' = g y ∧ nx' = m) :
  PC Tryz.prog 42 [textC t, val r, lst es] G nx fun r' G' nx' => ∃ y, r' = .tup [L, .v (.int .i64 0)] ∧ G' = g y ∧ nx' = m := by
 refine pc_namedX_of_body (g) (m) Tryz.func42 rfl (.tup (low_cons hL (low_cons .v low_nil))) zN (fun hlt y => (by (repeat' (refine lowG_set ?_ (by (try dsimp only); omega) ?_)); all_goals (first | exact lowG_base zS | (repeat' (first | exact trivial | refine ⟨?_, ?_⟩ | exact .v | exact .any | refine .elem ?_ | exact lst_low _ _ | exact cells_low _ _ | exact val_low _ _ | exact data_low _ (by (try dsimp only); omega) | exact .box (by (try dsimp only); omega) | exact nil_low | exact low_nil | exact hg hlt y | refine set_low ?_ ?_ | exact .arr (by (try dsimp only); omega) | exact .own (by (try dsimp only); omega) | exact .map (by (try dsimp only); omega) | exact flatC_low _ | refine low_cons ?_ ?_ | exact lst_low _ _))))) ?_
 simp only [Tryz.ntmps42, List.length_cons, List.length_nil, Nat.reduceAdd, Nat.reduceSub]
 refine aw_lt fun hlt => ?_
 dsimp only at hlt
 refine yS fun _ K1 => ?_
 refine yR ?_
 try dsimp only [St.put]
 refine yB rfl rfl rfl ?_
 try dsimp only [St.put]
 refine yB rfl rfl rfl ?_
 refine yA rfl rfl ?_
 refine yA rfl rfl ?_
 refine yN ?_
 dsimp only [St.put]
 refine K1 _ ?_
 refine yS fun _ K2 => ?_
 refine yR ?_
 try dsimp only [St.put]
 refine aops_s rfl (s_load_agg' rfl rfl rfl) ?_
 refine yM rfl rfl ?_
 try dsimp only [St.put]
 refine aops_e rfl (e_call_namedX rfl rfl rfl hs (fun y => ?_))
 refine yM rfl rfl ?_
 refine yX rfl rfl rfl rfl ?_
 refine yX rfl rfl rfl rfl ?_
 refine yA rfl rfl ?_
 refine yA rfl rfl ?_
 refine yN ?_
 dsimp only [St.put]
 refine K2 _ ?_
 refine yS fun _ K3 => ?_
 refine yS fun _ K4 => ?_
 refine yR ?_
 refine yM rfl rfl ?_
 refine aops_n rfl (n_bool (c := false) (n_neq rfl rfl rfl) (by rfl)) ?_
 refine yN ?_
 dsimp only [St.put]
 refine K4 _ ?_
 refine aw_cond rfl (fun h => by cases h) (fun _ => ?_)
 refine aw_skip ?_
 refine K3 _ ?_
 refine yS fun _ K5 => ?_
 refine yS fun _ K6 => ?_
 refine yR ?_
 refine yF rfl rfl rfl rfl ?_
 refine yL rfl rfl rfl ?_
 refine yF rfl rfl rfl rfl ?_
 refine yL rfl rfl rfl ?_
 refine yF rfl rfl rfl rfl ?_
 refine yL rfl rfl rfl ?_
 try dsimp only [St.put]
 refine aops_e rfl (e_buildSlice rfl rfl rfl (by decide) (by decide) zR (by decide) ?_)
 try dsimp only [St.put]
 refine aops_e rfl (e_call_pure rfl rfl rfl (chartIn_pure 1 999 [r.ch, r.ln, r.wd]) ?_)
 refine aops_n rfl (n_bool (c := false) (n_not rfl rfl) (by rw [← refB_in, hr]; rfl)) ?_
 refine yN ?_
 dsimp only [St.put]
 refine K6 _ ?_
 refine aw_cond rfl (fun h => by cases h) (fun _ => ?_)
 refine aw_skip ?_
 refine K5 _ ?_
 refine yS fun _ K7 => ?_
 refine yR ?_
 refine yM rfl rfl ?_
 refine yA rfl rfl ?_
 refine yA rfl rfl ?_
 refine yN ?_
 dsimp only [St.put]
 refine K7 _ ?_
 refine aw_ret ?_
 refine ⟨y, ?_⟩
 refine ends_v2 rfl (rv_tmp (by constructor)) (rv_tmp (by constructor)) (Nat.le_refl _) (fun n o h => h) ?_ ?_
 ·exact zW
 exact zW
theorem numbered_no1 (t : TextD) (r : RefD) (es : List EditionD) (er : Int) (h0 : er ≠ 0) (hs : PureF chkF Tryz.prog 52 [textC t, lst es] (.tup [.list [] .nil, .v (.int .i64 er)])) :
  PureF chkF Tryz.prog 42 [textC t, val r, lst es] (.tup [.list [] .nil, .v (.int .i64 er)]) := by
 refine pureF_of_body Tryz.func42 rfl (fun m => .tup (low_cons nil_low (low_cons .v low_nil))) fun G nx hF => ?_
 simp only [Tryz.ntmps42, List.length_cons, List.length_nil, Nat.reduceAdd, Nat.reduceSub]
 refine aw_lt fun hlt => ?_
 dsimp only at hlt
 have hnx := hlt 0 _ hF
 refine yS fun _ K1 => ?_
 refine yR ?_
 try dsimp only [St.put]
 refine yB rfl rfl rfl ?_
 try dsimp only [St.put]
 refine yB rfl rfl rfl ?_
 refine yA rfl rfl ?_
 refine yA rfl rfl ?_
 refine yN ?_
 dsimp only [St.put]
 refine K1 _ ?_
 refine yS fun _ K2 => ?_
 refine yR ?_
 try dsimp only [St.put]
 refine aops_s rfl (s_load_agg' rfl rfl rfl) ?_
 refine yM rfl rfl ?_
 try dsimp only [St.put]
 refine aops_e rfl (e_call_f rfl rfl rfl (hs) zG ?_)
 refine yM rfl rfl ?_
 refine yX rfl rfl rfl rfl ?_
 refine yX rfl rfl rfl rfl ?_
 refine yA rfl rfl ?_
 refine yA rfl rfl ?_
 refine yN ?_
 dsimp only [St.put]
 refine K2 _ ?_
 refine yS fun _ K3 => ?_
 refine yS fun _ K4 => ?_
 refine yR ?_
 refine yM rfl rfl ?_
 refine aops_n rfl (n_bool (c := true) (n_neq rfl rfl rfl) (not_dec_t h0)) ?_
 refine yN ?_
 dsimp only [St.put]
 refine K4 _ ?_
 refine aw_cond rfl (fun _ => ?_) (fun h => by cases h)
 refine yS fun _ K5 => ?_
 refine yR ?_
 refine yM rfl rfl ?_
 refine yA rfl rfl ?_
 refine yA rfl rfl ?_
 refine yN ?_
 dsimp only [St.put]
 refine K5 _ ?_
 refine aw_ret ?_
 refine ends_2 rfl (by constructor) (by constructor) zN zS ?_ ?_
 ·rfl
 rfl
theorem numbered_no2 {Y : Type} (t : TextD) (r : RefD) (es : List EditionD) (L : Nat → C) (g : (Nat → Option GObj) → Nat → Y → Nat → Option GObj) (m : Nat → Nat) (hr : refB r = false) (hm : ∀ nx, nx ≤ m nx)
  (hsub : ∀ (G : Nat → Option GObj) (nx : Nat), (∀ n o, G n = some o → n < nx) → ∀ y n o, G n = some o → g G nx y n = some o)
  (hs : ∀ (G : Nat → Option GObj) (nx : Nat), G 0 = some chkF → PC Tryz.prog 52 [textC t, lst es] G nx fun r' G' nx' => ∃ y, r' = .tup [L nx, .v (.int .i64 0)] ∧ G' = g G nx y ∧ nx' = m nx) :
  PureF chkF Tryz.prog 42 [textC t, val r, lst es] (.tup [.list [] .nil, .v (.int .i64 2)]) := by
 refine pureF_of_body Tryz.func42 rfl (fun m => .tup (low_cons nil_low (low_cons .v low_nil))) fun G nx hF => ?_
 simp only [Tryz.ntmps42, List.length_cons, List.length_nil, Nat.reduceAdd, Nat.reduceSub]
 refine aw_lt fun hlt => ?_
 dsimp only at hlt
 have hnx := hlt 0 _ hF
 have hm' := hm nx
 refine yS fun _ K1 => ?_
 refine yR ?_
 try dsimp only [St.put]
 refine yB rfl rfl rfl ?_
 try dsimp only [St.put]
 refine yB rfl rfl rfl ?_
 refine yA rfl rfl ?_
 refine yA rfl rfl ?_
 refine yN ?_
 dsimp only [St.put]
 refine K1 _ ?_
 refine yS fun _ K2 => ?_
 refine yR ?_
 try dsimp only [St.put]
 refine aops_s rfl (s_load_agg' rfl rfl rfl) ?_
 refine yM rfl rfl ?_
 try dsimp only [St.put]
 refine aops_e rfl (e_call_namedX rfl rfl rfl (hs _ _ hF) (fun y => ?_))
 refine yM rfl rfl ?_
 refine yX rfl rfl rfl rfl ?_
 refine yX rfl rfl rfl rfl ?_
 refine yA rfl rfl ?_
 refine yA rfl rfl ?_
 refine yN ?_
 dsimp only [St.put]
 refine K2 _ ?_
 refine yS fun _ K3 => ?_
 refine yS fun _ K4 => ?_
 refine yR ?_
 refine yM rfl rfl ?_
 refine aops_n rfl (n_bool (c := false) (n_neq rfl rfl rfl) (by rfl)) ?_
 refine yN ?_
 dsimp only [St.put]
 refine K4 _ ?_
 refine aw_cond rfl (fun h => by cases h) (fun _ => ?_)
 refine aw_skip ?_
 refine K3 _ ?_
 refine yS fun _ K5 => ?_
 refine yS fun _ K6 => ?_
 refine yR ?_
 refine yF rfl rfl rfl rfl ?_
 refine yL rfl rfl rfl ?_
 refine yF rfl rfl rfl rfl ?_
 refine yL rfl rfl rfl ?_
 refine yF rfl rfl rfl rfl ?_
 refine yL rfl rfl rfl ?_
 try dsimp only [St.put]
 refine aops_e rfl (e_buildSlice rfl rfl rfl (by decide) (by decide) zR (by decide) ?_)
 try dsimp only [St.put]
 refine aops_e rfl (e_call_pure rfl rfl rfl (chartIn_pure 1 999 [r.ch, r.ln, r.wd]) ?_)
 refine aops_n rfl (n_bool (c := true) (n_not rfl rfl) (by rw [← refB_in, hr]; rfl)) ?_
 refine yN ?_
 dsimp only [St.put]
 refine K6 _ ?_
 refine aw_cond rfl (fun _ => ?_) (fun h => by cases h)
 refine yS fun _ K7 => ?_
 refine yR ?_
 refine yA rfl rfl ?_
 refine yA rfl rfl ?_
 refine yN ?_
 dsimp only [St.put]
 refine K7 _ ?_
 refine aw_ret ?_
 refine ends_v2 rfl (rv_tmp (by constructor)) (rv_tmp (by constructor)) (hm nx) (fun n o h => hsub G nx hlt y n o h) ?_ ?_
 ·exact zW
 exact zW
theorem numbered1_ok (t : TextD) (e : EditionD) (r : RefD) (hl : e.ss.length ≤ 20) (h : soundEr t e = 0) (hr : refB r = true) (G : Nat → Option GObj) (nx : Nat) (hF : G 0 = some chkF) :
  PC Tryz.prog 42 [textC t, val r, lst [e]] G nx fun r' G' nx' => ∃ y : Nat × Nat, r' = .tup [.list [[.elem (bookC t e (nx + 1 + 1) (nx + 1 + 1 + 1))]] .none, .v (.int .i64 0)] ∧ G' = (setG (setG G (nx + 1 + 1) (gmap Tryz.prog 95 y.1 (capp ((asOf e.ss))))) (nx + 1 + 1 + 1) (gmap Tryz.prog 95 y.2 (capp ((backOf e.ss))))) ∧ nx' = nx + 1 + 1 + 1 + 1 :=
 numbered_ok t r [e] _ G nx (fun y : Nat × Nat => (setG (setG G (nx + 1 + 1) (gmap Tryz.prog 95 y.1 (capp ((asOf e.ss))))) (nx + 1 + 1 + 1) (gmap Tryz.prog 95 y.2 (capp ((backOf e.ss)))))) _ hr (by omega) (.list (by intro r hr c hc; rw [List.mem_singleton] at hr; subst hr; rw [List.mem_singleton] at hc; subst hc; exact .elem (low_cons .v (low_cons (lst_low _ _) (low_cons (lst_low _ _) (low_cons (.map (show nx + 1 + 1 < nx + 1 + 1 + 1 + 1 by omega)) (low_cons (.map (show nx + 1 + 1 + 1 < nx + 1 + 1 + 1 + 1 by omega)) low_nil)))))) (by simp))
  (fun hlt y => lowG_set (lowG_set (lowG_base fun n o h => h) (by omega) (gmap_low (capp_low _ _))) (by omega) (gmap_low (capp_low _ _))) (sound1_ok t e hl h G nx hF)
theorem numbered1_no2 (t : TextD) (e : EditionD) (r : RefD) (hl : e.ss.length ≤ 20) (h : soundEr t e = 0) (hr : refB r = false) :
  PureF chkF Tryz.prog 42 [textC t, val r, lst [e]] (.tup [.list [] .nil, .v (.int .i64 2)]) :=
 numbered_no2 t r [e] (fun nx => .list [[.elem (bookC t e (nx + 1 + 1) (nx + 1 + 1 + 1))]] .none) (fun G nx (y : Nat × Nat) => (setG (setG G (nx + 1 + 1) (gmap Tryz.prog 95 y.1 (capp ((asOf e.ss))))) (nx + 1 + 1 + 1) (gmap Tryz.prog 95 y.2 (capp ((backOf e.ss)))))) (fun nx => nx + 1 + 1 + 1 + 1) hr (fun nx => by omega) (fun G nx hlt y n o ho => by
  have := hlt n o ho
  rw [setG_other (by omega), setG_other (by omega)]; exact ho) (fun G nx hF => sound1_ok t e hl h G nx hF)
theorem chartLead_no (t : TextD) (e : EditionD) (r : RefD) (er : Int) (he0 : er ≠ 0) (hcall : PureF chkF Tryz.prog 42 [textC t, val r, lst [e]] (.tup [.list [] .nil, .v (.int .i64 er)])) :
  PureF chkF Tryz.prog 21 [textC t, val e, val r] (.tup [val (⟨0, 0, 0⟩ : PlaceD), .v (.int .i64 er)]) := by
 refine pureF_of_body Tryz.func21 rfl (fun m => .tup (low_cons (val_low _ _) (low_cons .v low_nil))) fun G nx hF => ?_
 simp only [Tryz.ntmps21, List.length_cons, List.length_nil, Nat.reduceAdd, Nat.reduceSub]
 refine aw_lt fun hlt => ?_
 dsimp only at hlt
 have hnx := hlt 0 _ hF
 refine yS fun _ K1 => ?_
 refine yR ?_
 try dsimp only [St.put]
 refine yB rfl rfl rfl ?_
 try dsimp only [St.put]
 refine yB rfl rfl rfl ?_
 try dsimp only [St.put]
 refine yB rfl rfl rfl ?_
 try dsimp only [St.put]
 refine aops_e rfl (e_allocC rfl ?_)
 refine yA rfl rfl ?_
 refine yN ?_
 dsimp only [St.put]
 refine K1 _ ?_
 refine yS fun _ K2 => ?_
 refine yR ?_
 try dsimp only [St.put]
 refine aops_s rfl (s_load_agg' rfl rfl rfl) ?_
 refine yE rfl rfl rfl ?_
 refine yE rfl rfl rfl ?_
 try dsimp only [St.put]
 refine aops_e rfl (e_buildSlice rfl rfl rfl (by decide) (by decide) zR (by decide) ?_)
 try dsimp only [St.put]
 refine aops_e rfl (e_call_f rfl rfl rfl (hcall) zG ?_)
 refine yM rfl rfl ?_
 refine yX rfl rfl rfl rfl ?_
 refine yX rfl rfl rfl rfl ?_
 refine yA rfl rfl ?_
 refine yA rfl rfl ?_
 refine yN ?_
 dsimp only [St.put]
 refine K2 _ ?_
 refine yS fun _ K3 => ?_
 refine yS fun _ K4 => ?_
 refine yR ?_
 refine yM rfl rfl ?_
 refine aops_n rfl (n_bool (c := true) (n_neq rfl rfl rfl) (not_dec_t he0)) ?_
 refine yN ?_
 dsimp only [St.put]
 refine K4 _ ?_
 refine aw_cond rfl (fun _ => ?_) (fun h => by cases h)
 refine yS fun _ K5 => ?_
 refine yR ?_
 refine aops_n rfl (n_build rfl rfl) ?_
 refine yM rfl rfl ?_
 try dsimp only [St.put]
 refine aops_e rfl (e_store_all rfl rfl rfl zG rfl rfl (by rfl) ?_)
 refine yA rfl rfl ?_
 refine yN ?_
 dsimp only [St.put]
 refine K5 _ ?_
 refine aw_ret ?_
 refine ends_v2 rfl (rv_box rfl zG (by rfl) (by first | exact List.cons_ne_nil _ _ | (simp; done) | (simp [putAt]; done)) rfl) (rv_tmp (by constructor)) zN zS ?_ ?_
 ·exact zW
 exact zW
theorem chartLead_ok (t : TextD) (e : EditionD) (r : RefD) (hl : e.ss.length ≤ 20) (h : soundEr t e = 0) (hr : refB r = true) :
  PureF chkF Tryz.prog 21 [textC t, val e, val r] (.tup [val (leadV t e r), .v (.int .i64 (leadEr t e r))]) := by
 refine pureF_of_body Tryz.func21 rfl (fun m => .tup (low_cons (val_low _ _) (low_cons .v low_nil))) fun G nx hF => ?_
 simp only [Tryz.ntmps21, List.length_cons, List.length_nil, Nat.reduceAdd, Nat.reduceSub]
 refine aw_lt fun hlt => ?_
 dsimp only at hlt
 have hnx := hlt 0 _ hF
 have hS := soundEr_sound h
 refine yS fun _ K1 => ?_
 refine yR ?_
 try dsimp only [St.put]
 refine yB rfl rfl rfl ?_
 try dsimp only [St.put]
 refine yB rfl rfl rfl ?_
 try dsimp only [St.put]
 refine yB rfl rfl rfl ?_
 try dsimp only [St.put]
 refine aops_e rfl (e_allocC rfl ?_)
 refine yA rfl rfl ?_
 refine yN ?_
 dsimp only [St.put]
 refine K1 _ ?_
 refine yS fun _ K2 => ?_
 refine yR ?_
 try dsimp only [St.put]
 refine aops_s rfl (s_load_agg' rfl rfl rfl) ?_
 refine yE rfl rfl rfl ?_
 refine yE rfl rfl rfl ?_
 try dsimp only [St.put]
 refine aops_e rfl (e_buildSlice rfl rfl rfl (by decide) (by decide) zR (by decide) ?_)
 try dsimp only [St.put]
 refine aops_e rfl (e_call_namedX rfl rfl rfl (numbered1_ok t e r hl h hr _ _ zG) (fun y => ?_))
 refine yM rfl rfl ?_
 refine yX rfl rfl rfl rfl ?_
 refine yX rfl rfl rfl rfl ?_
 refine yA rfl rfl ?_
 refine yA rfl rfl ?_
 refine yN ?_
 dsimp only [St.put]
 refine K2 _ ?_
 refine yS fun _ K3 => ?_
 refine yS fun _ K4 => ?_
 refine yR ?_
 refine yM rfl rfl ?_
 refine aops_n rfl (n_bool (c := false) (n_neq rfl rfl rfl) (by rfl)) ?_
 refine yN ?_
 dsimp only [St.put]
 refine K4 _ ?_
 refine aw_cond rfl (fun h => by cases h) (fun _ => ?_)
 refine aw_skip ?_
 refine K3 _ ?_
 refine yS fun _ K5 => ?_
 refine aw_drawT [(0, none), (1, none), (2, none), (3, none)] (fun _ => false) (fun i => [0, 1].contains i) 7 [true, true, true, true, false, false, false, false, false, false, false] (by kernel_rfl) (by kernel_rfl) ?_
 refine xM rfl rfl rfl rfl rfl ?_
 try dsimp only [St.put]
 refine acan1_n rfl rfl rfl rfl (n_indexAddr (k := 0) rfl rfl rfl (by first | rfl | omega) rfl rfl) ?_
 try dsimp only [St.put]
 refine acan1_s rfl rfl rfl rfl (s_load rfl rfl) ?_
 try dsimp only [St.put]
 refine acan1_s rfl rfl rfl rfl (s_load_agg' rfl rfl (Enc.len _)) ?_
 refine acan1_nil ?_
 refine aany_step [4, 8] (by kernel_rfl) (by simp) ?_
 refine aeach_cons ?_ ?_
 ·try dsimp only [St.put]
  refine aone_e rfl rfl rfl (e_call_one rfl rfl rfl (bookLead_pc t e _ _ _ (backOf e.ss) r hS.tx (back_words hS) hr _ _ (by dsimp only [St.put]; omega) (by dsimp only [St.put]; omega) zG) ?_)
  refine aany_quiet [(5, none), (6, none), (7, none)] (fun i => [5, 6, 7].contains i) 3 [true, true, true, true, true, true, true, true, false, false, false] (by kernel_rfl) ?_
  refine xM rfl rfl rfl rfl rfl ?_
  refine acan1_n rfl rfl rfl rfl (n_extract rfl rfl rfl) ?_
  refine acan1_n rfl rfl rfl rfl (n_extract rfl rfl rfl) ?_
  refine acan1_nil ?_
  refine aany_step [8] (by kernel_rfl) (by simp) ?_
  refine aeach_cons ?_ ?_
  ·try dsimp only [St.put]
   refine aone_e rfl rfl rfl (e_allocC rfl ?_)
   refine aany_step [9] (by kernel_rfl) (by simp) ?_
   refine aeach_cons ?_ ?_
   ·try dsimp only [St.put]
    refine aone_e rfl rfl rfl (e_store_all rfl rfl rfl zG rfl rfl (by rfl) ?_)
    refine aany_quiet [(10, none)] (fun i => [10].contains i) 0 [true, true, true, true, true, true, true, true, true, true, true] (by kernel_rfl) ?_
    refine acan1_n rfl rfl rfl rfl (n_as rfl (by constructor)) ?_
    refine acan1_nil ?_
    dsimp only [St.put]
    refine aany_nil (by kernel_rfl) ?_
    refine K5 _ ?_
    refine yS fun _ K6 => ?_
    refine yS fun _ K7 => ?_
    refine yR ?_
    refine yM rfl rfl ?_
    refine aops_n rfl (n_not rfl rfl) ?_
    refine yN ?_
    dsimp only [St.put]
    refine K7 _ ?_
    refine aw_cond rfl (fun hc => ?_) (fun hc => ?_)
    ·have hf : leadO t e.ss r = none := by simpa [ldO_lead] using hc
     have hE : leadEr t e r = 6 := by simp [leadEr, leadEr0, h, hr, hf]
     have hV : leadV t e r = ⟨0, 0, 0⟩ := by simp [leadV, hE]
     refine yS fun _ K8 => ?_
     refine yR ?_
     refine aops_n rfl (n_build rfl rfl) ?_
     try dsimp only [St.put]
     refine aops_e rfl (e_store_all rfl rfl rfl zG rfl rfl (by rfl) ?_)
     refine yA rfl rfl ?_
     refine yN ?_
     dsimp only [St.put]
     refine K8 _ ?_
     refine aw_ret ?_
     refine ends_v2 rfl (rv_box rfl zG (by rfl) (by first | exact List.cons_ne_nil _ _ | (simp; done) | (simp [putAt]; done)) rfl) (rv_tmp (by constructor)) zN zS ?_ ?_
     ·rw [hV]
      exact zW
     exact Wk.of_eq (vi hE.symm)
    have hf : (leadO t e.ss r).isSome = true := by simpa [ldO_lead] using hc
    have hE : leadEr t e r = 0 := by simp [leadEr, leadEr0, h, hr, hf]
    have hV : leadV t e r = (ldO t (backOf e.ss) r).getD ⟨0, 0, 0⟩ := by simp [leadV, hE, ldO_lead]
    refine aw_skip ?_
    refine K6 _ ?_
    refine yS fun _ K9 => ?_
    refine yR ?_
    try dsimp only [St.put]
    refine aops_s rfl (s_load_box_all rfl rfl zG trivial (by rfl)) ?_
    try dsimp only [St.put]
    refine aops_e rfl (e_store_all rfl rfl rfl zG rfl rfl (by rfl) ?_)
    refine yA rfl rfl ?_
    refine yN ?_
    dsimp only [St.put]
    refine K9 _ ?_
    refine aw_ret ?_
    refine ends_v2 rfl (rv_box rfl zG (by rfl) (by first | exact List.cons_ne_nil _ _ | (simp; done) | (simp [putAt]; done)) rfl) (rv_tmp (by constructor)) zN zS ?_ ?_
    ·rw [hV]
     exact zW
    exact Wk.of_eq (vi hE.symm)
   exact aeach_nil
  exact aeach_nil
 refine aeach_cons ?_ ?_
 ·try dsimp only [St.put]
  refine aone_e rfl rfl rfl (e_allocC rfl ?_)
  refine aany_step [4] (by kernel_rfl) (by simp) ?_
  refine aeach_cons ?_ ?_
  ·try dsimp only [St.put]
   refine aone_e rfl rfl rfl (e_call_one rfl rfl rfl (bookLead_pc t e _ _ _ (backOf e.ss) r hS.tx (back_words hS) hr _ _ (by dsimp only [St.put]; omega) (by dsimp only [St.put]; omega) zG) ?_)
   refine aany_quiet [(5, none), (6, none), (7, none)] (fun i => [5, 6, 7].contains i) 2 [true, true, true, true, true, true, true, true, true, false, false] (by kernel_rfl) ?_
   refine xM rfl rfl rfl rfl rfl ?_
   refine acan1_n rfl rfl rfl rfl (n_extract rfl rfl rfl) ?_
   refine acan1_n rfl rfl rfl rfl (n_extract rfl rfl rfl) ?_
   refine acan1_nil ?_
   refine aany_step [9] (by kernel_rfl) (by simp) ?_
   refine aeach_cons ?_ ?_
   ·try dsimp only [St.put]
    refine aone_e rfl rfl rfl (e_store_all rfl rfl rfl zG rfl rfl (by rfl) ?_)
    refine aany_quiet [(10, none)] (fun i => [10].contains i) 0 [true, true, true, true, true, true, true, true, true, true, true] (by kernel_rfl) ?_
    refine acan1_n rfl rfl rfl rfl (n_as rfl (by constructor)) ?_
    refine acan1_nil ?_
    dsimp only [St.put]
    refine aany_nil (by kernel_rfl) ?_
    refine K5 _ ?_
    refine yS fun _ K10 => ?_
    refine yS fun _ K11 => ?_
    refine yR ?_
    refine yM rfl rfl ?_
    refine aops_n rfl (n_not rfl rfl) ?_
    refine yN ?_
    dsimp only [St.put]
    refine K11 _ ?_
    refine aw_cond rfl (fun hc => ?_) (fun hc => ?_)
    ·have hf : leadO t e.ss r = none := by simpa [ldO_lead] using hc
     have hE : leadEr t e r = 6 := by simp [leadEr, leadEr0, h, hr, hf]
     have hV : leadV t e r = ⟨0, 0, 0⟩ := by simp [leadV, hE]
     refine yS fun _ K12 => ?_
     refine yR ?_
     refine aops_n rfl (n_build rfl rfl) ?_
     try dsimp only [St.put]
     refine aops_e rfl (e_store_all rfl rfl rfl zG rfl rfl (by rfl) ?_)
     refine yA rfl rfl ?_
     refine yN ?_
     dsimp only [St.put]
     refine K12 _ ?_
     refine aw_ret ?_
     refine ends_v2 rfl (rv_box rfl zG (by rfl) (by first | exact List.cons_ne_nil _ _ | (simp; done) | (simp [putAt]; done)) rfl) (rv_tmp (by constructor)) zN zS ?_ ?_
     ·rw [hV]
      exact zW
     exact Wk.of_eq (vi hE.symm)
    have hf : (leadO t e.ss r).isSome = true := by simpa [ldO_lead] using hc
    have hE : leadEr t e r = 0 := by simp [leadEr, leadEr0, h, hr, hf]
    have hV : leadV t e r = (ldO t (backOf e.ss) r).getD ⟨0, 0, 0⟩ := by simp [leadV, hE, ldO_lead]
    refine aw_skip ?_
    refine K10 _ ?_
    refine yS fun _ K13 => ?_
    refine yR ?_
    try dsimp only [St.put]
    refine aops_s rfl (s_load_box_all rfl rfl zG trivial (by rfl)) ?_
    try dsimp only [St.put]
    refine aops_e rfl (e_store_all rfl rfl rfl zG rfl rfl (by rfl) ?_)
    refine yA rfl rfl ?_
    refine yN ?_
    dsimp only [St.put]
    refine K13 _ ?_
    refine aw_ret ?_
    refine ends_v2 rfl (rv_box rfl zG (by rfl) (by first | exact List.cons_ne_nil _ _ | (simp; done) | (simp [putAt]; done)) rfl) (rv_tmp (by constructor)) zN zS ?_ ?_
    ·rw [hV]
     exact zW
    exact Wk.of_eq (vi hE.symm)
   exact aeach_nil
  exact aeach_nil
 exact aeach_nil
theorem chartLead_pureF (t : TextD) (e : EditionD) (r : RefD) (hl : e.ss.length ≤ 20) :
  PureF chkF Tryz.prog 21 [textC t, val e, val r] (.tup [val (leadV t e r), .v (.int .i64 (leadEr t e r))]) := by
 by_cases h : soundEr t e = 0
 ·cases hr : refB r with
  | true => exact chartLead_ok t e r hl h hr
  | false =>
   have hE : leadEr t e r = 2 := by simp [leadEr, leadEr0, h, hr]
   have hV : leadV t e r = ⟨0, 0, 0⟩ := by simp [leadV, hE]
   rw [hV, hE]
   exact chartLead_no t e r 2 (by decide) (numbered1_no2 t e r hl h hr)
 have hE : leadEr t e r = soundEr t e := by simp [leadEr, h]
 have hV : leadV t e r = ⟨0, 0, 0⟩ := by simp [leadV, hE, h]
 rw [hV, hE]
 exact chartLead_no t e r _ h (numbered_no1 t r [e] _ h (sound1_no t e hl h))
end Go.Proofs.YtjjklfgpffgnfabGreatDoor
