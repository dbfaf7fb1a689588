/-
  Contracts of the program's functions of charts: where references lead, and how they are turned from one edition to another one.
-/
import Derived.Test.YtjjklfgpffgnfaaDoorEcRefer
namespace Go.AB
open Go Go.RowKit
open Go.AB.Enc (cells)
open Go.PB (Chap TextD PlaceD ReadingD CopyD WayD)
theorem back_words {t : TextD} {ss : List StretchD} (hS : Sound t ss) : ∀ q p, backOf ss q = some p → ∃ l, wordsOf t p = some l := fun q p h => asOf_words hS ((back_iff hS.no).1 h)
end Go.AB
namespace Go.Proofs.YtjjklfgpffgnfaaDoor
set_option maxRecDepth 10000
open Go.RowKit Go.AB
open Go.AB.Enc (cells)
open Go.PB (Chap TextD PlaceD ReadingD CopyD WayD)
theorem numbered_ok {Y : Type} (t : TextD) (r : RefD) (es : List EditionD) (L : C) (G : Nat → Option GObj) (nx : Nat) (g : Y → Nat → Option GObj) (m : Nat) (hr : refB r = true) (hm : nx ≤ m) (hL : L.low m)
    (hg : (∀ n o, G n = some o → n < nx) → ∀ y n o, g y n = some o → G n = some o ∨ (n < m ∧ o.low m)) (hs : PC Tryd.prog 44 [textC t, lst es] G nx fun r' G' nx' => ∃ y, r' = .tup [L, .v (.int .i64 0)] ∧ G' = g y ∧ nx' = m) :
    PC Tryd.prog 66 [textC t, val r, lst es] G nx fun r' G' nx' => ∃ y, r' = .tup [L, .v (.int .i64 0)] ∧ G' = g y ∧ nx' = m := by
  refine pc_namedX_of_body (g) (m) Tryd.func66 rfl (.tup (low_cons hL (low_cons .v low_nil))) zN (fun hlt y => (by (repeat' (refine lowG_set ?_ (by (try dsimp only); omega) ?_)); all_goals (first | exact lowG_base zS | (repeat' (first | exact trivial | refine ⟨?_, ?_⟩ | exact .v | exact .any | refine .elem ?_ | exact lst_low _ _ | exact cells_low _ _ | exact val_low _ _ | exact data_low _ (by (try dsimp only); omega) | exact .box (by (try dsimp only); omega) | exact nil_low | exact low_nil | exact hg hlt y | refine set_low ?_ ?_ | exact .arr (by (try dsimp only); omega) | exact .own (by (try dsimp only); omega) | exact .map (by (try dsimp only); omega) | exact flatC_low _ | refine low_cons ?_ ?_ | exact lst_low _ _))))) ?_
  simp only [Tryd.ntmps66, List.length_cons, List.length_nil, Nat.reduceAdd, Nat.reduceSub]
  refine aw_lt fun hlt => ?_
  dsimp only at hlt
  refine aw_seq_k fun K1 hK1 => ?_
  refine aw_region ?_
  try dsimp only [St.put]
  refine aops_e rfl (e_box rfl rfl (by simp) ?_)
  try dsimp only [St.put]
  refine aops_e rfl (e_box rfl rfl (by simp) ?_)
  refine aops_n rfl (n_as rfl (by constructor)) ?_
  refine aops_n rfl (n_as rfl (by constructor)) ?_
  refine aops_nil ?_
  dsimp only [St.put]
  refine hK1 _ ?_
  refine aw_seq_k fun K2 hK2 => ?_
  refine aw_region ?_
  try dsimp only [St.put]
  refine aops_s rfl (s_load_agg' rfl rfl rfl) ?_
  refine aops_n rfl (n_mv rfl (by constructor)) ?_
  try dsimp only [St.put]
  refine aops_e rfl (e_call_namedX rfl rfl rfl hs (fun y => ?_))
  refine aops_n rfl (n_mv rfl (by constructor)) ?_
  refine aops_n rfl (n_extract rfl rfl rfl) ?_
  refine aops_n rfl (n_extract rfl rfl rfl) ?_
  refine aops_n rfl (n_as rfl (by constructor)) ?_
  refine aops_n rfl (n_as rfl (by constructor)) ?_
  refine aops_nil ?_
  dsimp only [St.put]
  refine hK2 _ ?_
  refine aw_seq_k fun K3 hK3 => ?_
  refine aw_seq_k fun K4 hK4 => ?_
  refine aw_region ?_
  refine aops_n rfl (n_mv rfl (by constructor)) ?_
  refine aops_n rfl (n_bool (c := false) (n_neq rfl rfl rfl) (by rfl)) ?_
  refine aops_nil ?_
  dsimp only [St.put]
  refine hK4 _ ?_
  refine aw_cond rfl (fun h => by cases h) (fun _ => ?_)
  refine aw_skip ?_
  refine hK3 _ ?_
  refine aw_seq_k fun K5 hK5 => ?_
  refine aw_seq_k fun K6 hK6 => ?_
  refine aw_region ?_
  refine aops_n rfl (n_fieldAddr' rfl rfl rfl) ?_
  try dsimp only [St.put]
  refine aops_s rfl (s_load rfl rfl) ?_
  refine aops_n rfl (n_fieldAddr' rfl rfl rfl) ?_
  try dsimp only [St.put]
  refine aops_s rfl (s_load rfl rfl) ?_
  refine aops_n rfl (n_fieldAddr' rfl rfl rfl) ?_
  try dsimp only [St.put]
  refine aops_s rfl (s_load rfl rfl) ?_
  try dsimp only [St.put]
  refine aops_e rfl (e_buildSlice rfl rfl rfl (by decide) (by decide) zR (by decide) ?_)
  try dsimp only [St.put]
  refine aops_e rfl (e_call_pure rfl rfl rfl (chartIn_pure 1 999 [r.ch, r.ln, r.wd]) ?_)
  refine aops_n rfl (n_bool (c := false) (n_not rfl rfl) (by rw [← refB_in, hr]; rfl)) ?_
  refine aops_nil ?_
  dsimp only [St.put]
  refine hK6 _ ?_
  refine aw_cond rfl (fun h => by cases h) (fun _ => ?_)
  refine aw_skip ?_
  refine hK5 _ ?_
  refine aw_seq_k fun K7 hK7 => ?_
  refine aw_region ?_
  refine aops_n rfl (n_mv rfl (by constructor)) ?_
  refine aops_n rfl (n_as rfl (by constructor)) ?_
  refine aops_n rfl (n_as rfl (by constructor)) ?_
  refine aops_nil ?_
  dsimp only [St.put]
  refine hK7 _ ?_
  refine aw_ret ?_
  refine ⟨y, ?_⟩
  refine ends_v2 rfl (rv_tmp (by constructor)) (rv_tmp (by constructor)) (Nat.le_refl _) (fun n o h => h) ?_ ?_
  · exact zW
  · exact zW
theorem numbered_no1 (t : TextD) (r : RefD) (es : List EditionD) (er : Int) (h0 : er ≠ 0) (hs : PureF chkF Tryd.prog 44 [textC t, lst es] (.tup [.list [] .nil, .v (.int .i64 er)])) :
    PureF chkF Tryd.prog 66 [textC t, val r, lst es] (.tup [.list [] .nil, .v (.int .i64 er)]) := by
  refine pureF_of_body Tryd.func66 rfl (fun m => .tup (low_cons nil_low (low_cons .v low_nil))) fun G nx hF => ?_
  simp only [Tryd.ntmps66, List.length_cons, List.length_nil, Nat.reduceAdd, Nat.reduceSub]
  refine aw_lt fun hlt => ?_
  dsimp only at hlt
  have hnx := hlt 0 _ hF
  refine aw_seq_k fun K1 hK1 => ?_
  refine aw_region ?_
  try dsimp only [St.put]
  refine aops_e rfl (e_box rfl rfl (by simp) ?_)
  try dsimp only [St.put]
  refine aops_e rfl (e_box rfl rfl (by simp) ?_)
  refine aops_n rfl (n_as rfl (by constructor)) ?_
  refine aops_n rfl (n_as rfl (by constructor)) ?_
  refine aops_nil ?_
  dsimp only [St.put]
  refine hK1 _ ?_
  refine aw_seq_k fun K2 hK2 => ?_
  refine aw_region ?_
  try dsimp only [St.put]
  refine aops_s rfl (s_load_agg' rfl rfl rfl) ?_
  refine aops_n rfl (n_mv rfl (by constructor)) ?_
  try dsimp only [St.put]
  refine aops_e rfl (e_call_f rfl rfl rfl (hs) zG ?_)
  refine aops_n rfl (n_mv rfl (by constructor)) ?_
  refine aops_n rfl (n_extract rfl rfl rfl) ?_
  refine aops_n rfl (n_extract rfl rfl rfl) ?_
  refine aops_n rfl (n_as rfl (by constructor)) ?_
  refine aops_n rfl (n_as rfl (by constructor)) ?_
  refine aops_nil ?_
  dsimp only [St.put]
  refine hK2 _ ?_
  refine aw_seq_k fun K3 hK3 => ?_
  refine aw_seq_k fun K4 hK4 => ?_
  refine aw_region ?_
  refine aops_n rfl (n_mv rfl (by constructor)) ?_
  refine aops_n rfl (n_bool (c := true) (n_neq rfl rfl rfl) (not_dec_t h0)) ?_
  refine aops_nil ?_
  dsimp only [St.put]
  refine hK4 _ ?_
  refine aw_cond rfl (fun _ => ?_) (fun h => by cases h)
  refine aw_seq_k fun K5 hK5 => ?_
  refine aw_region ?_
  refine aops_n rfl (n_mv rfl (by constructor)) ?_
  refine aops_n rfl (n_as rfl (by constructor)) ?_
  refine aops_n rfl (n_as rfl (by constructor)) ?_
  refine aops_nil ?_
  dsimp only [St.put]
  refine hK5 _ ?_
  refine aw_ret ?_
  refine ends_2 rfl (by constructor) (by constructor) zN zS ?_ ?_
  · rfl
  · rfl
theorem numbered_no2 {Y : Type} (t : TextD) (r : RefD) (es : List EditionD) (L : Nat → C) (g : (Nat → Option GObj) → Nat → Y → Nat → Option GObj) (m : Nat → Nat) (hr : refB r = false) (hm : ∀ nx, nx ≤ m nx)
    (hsub : ∀ (G : Nat → Option GObj) (nx : Nat), (∀ n o, G n = some o → n < nx) → ∀ y n o, G n = some o → g G nx y n = some o)
    (hs : ∀ (G : Nat → Option GObj) (nx : Nat), G 0 = some chkF → PC Tryd.prog 44 [textC t, lst es] G nx fun r' G' nx' => ∃ y, r' = .tup [L nx, .v (.int .i64 0)] ∧ G' = g G nx y ∧ nx' = m nx) :
    PureF chkF Tryd.prog 66 [textC t, val r, lst es] (.tup [.list [] .nil, .v (.int .i64 2)]) := by
  refine pureF_of_body Tryd.func66 rfl (fun m => .tup (low_cons nil_low (low_cons .v low_nil))) fun G nx hF => ?_
  simp only [Tryd.ntmps66, List.length_cons, List.length_nil, Nat.reduceAdd, Nat.reduceSub]
  refine aw_lt fun hlt => ?_
  dsimp only at hlt
  have hnx := hlt 0 _ hF
  have hm' := hm nx
  refine aw_seq_k fun K1 hK1 => ?_
  refine aw_region ?_
  try dsimp only [St.put]
  refine aops_e rfl (e_box rfl rfl (by simp) ?_)
  try dsimp only [St.put]
  refine aops_e rfl (e_box rfl rfl (by simp) ?_)
  refine aops_n rfl (n_as rfl (by constructor)) ?_
  refine aops_n rfl (n_as rfl (by constructor)) ?_
  refine aops_nil ?_
  dsimp only [St.put]
  refine hK1 _ ?_
  refine aw_seq_k fun K2 hK2 => ?_
  refine aw_region ?_
  try dsimp only [St.put]
  refine aops_s rfl (s_load_agg' rfl rfl rfl) ?_
  refine aops_n rfl (n_mv rfl (by constructor)) ?_
  try dsimp only [St.put]
  refine aops_e rfl (e_call_namedX rfl rfl rfl (hs _ _ hF) (fun y => ?_))
  refine aops_n rfl (n_mv rfl (by constructor)) ?_
  refine aops_n rfl (n_extract rfl rfl rfl) ?_
  refine aops_n rfl (n_extract rfl rfl rfl) ?_
  refine aops_n rfl (n_as rfl (by constructor)) ?_
  refine aops_n rfl (n_as rfl (by constructor)) ?_
  refine aops_nil ?_
  dsimp only [St.put]
  refine hK2 _ ?_
  refine aw_seq_k fun K3 hK3 => ?_
  refine aw_seq_k fun K4 hK4 => ?_
  refine aw_region ?_
  refine aops_n rfl (n_mv rfl (by constructor)) ?_
  refine aops_n rfl (n_bool (c := false) (n_neq rfl rfl rfl) (by rfl)) ?_
  refine aops_nil ?_
  dsimp only [St.put]
  refine hK4 _ ?_
  refine aw_cond rfl (fun h => by cases h) (fun _ => ?_)
  refine aw_skip ?_
  refine hK3 _ ?_
  refine aw_seq_k fun K5 hK5 => ?_
  refine aw_seq_k fun K6 hK6 => ?_
  refine aw_region ?_
  refine aops_n rfl (n_fieldAddr' rfl rfl rfl) ?_
  try dsimp only [St.put]
  refine aops_s rfl (s_load rfl rfl) ?_
  refine aops_n rfl (n_fieldAddr' rfl rfl rfl) ?_
  try dsimp only [St.put]
  refine aops_s rfl (s_load rfl rfl) ?_
  refine aops_n rfl (n_fieldAddr' rfl rfl rfl) ?_
  try dsimp only [St.put]
  refine aops_s rfl (s_load rfl rfl) ?_
  try dsimp only [St.put]
  refine aops_e rfl (e_buildSlice rfl rfl rfl (by decide) (by decide) zR (by decide) ?_)
  try dsimp only [St.put]
  refine aops_e rfl (e_call_pure rfl rfl rfl (chartIn_pure 1 999 [r.ch, r.ln, r.wd]) ?_)
  refine aops_n rfl (n_bool (c := true) (n_not rfl rfl) (by rw [← refB_in, hr]; rfl)) ?_
  refine aops_nil ?_
  dsimp only [St.put]
  refine hK6 _ ?_
  refine aw_cond rfl (fun _ => ?_) (fun h => by cases h)
  refine aw_seq_k fun K7 hK7 => ?_
  refine aw_region ?_
  refine aops_n rfl (n_as rfl (by constructor)) ?_
  refine aops_n rfl (n_as rfl (by constructor)) ?_
  refine aops_nil ?_
  dsimp only [St.put]
  refine hK7 _ ?_
  refine aw_ret ?_
  refine ends_v2 rfl (rv_tmp (by constructor)) (rv_tmp (by constructor)) (hm nx) (fun n o h => hsub G nx hlt y n o h) ?_ ?_
  · exact zW
  · exact zW
theorem numbered1_ok (t : TextD) (e : EditionD) (r : RefD) (hl : e.ss.length ≤ 20) (h : soundEr t e = 0) (hr : refB r = true) (G : Nat → Option GObj) (nx : Nat) (hF : G 0 = some chkF) :
    PC Tryd.prog 66 [textC t, val r, lst [e]] G nx fun r' G' nx' => ∃ y : Nat × Nat, r' = .tup [.list [[.elem (bookC t e (nx + 1 + 1) (nx + 1 + 1 + 1))]] .none, .v (.int .i64 0)] ∧ G' = (setG (setG G (nx + 1 + 1) (gmap Tryd.prog 99 y.1 (capp ((asOf e.ss))))) (nx + 1 + 1 + 1) (gmap Tryd.prog 99 y.2 (capp ((backOf e.ss))))) ∧ nx' = nx + 1 + 1 + 1 + 1 :=
  numbered_ok t r [e] _ G nx (fun y : Nat × Nat => (setG (setG G (nx + 1 + 1) (gmap Tryd.prog 99 y.1 (capp ((asOf e.ss))))) (nx + 1 + 1 + 1) (gmap Tryd.prog 99 y.2 (capp ((backOf e.ss)))))) _ hr (by omega) (.list (by intro r hr c hc; rw [List.mem_singleton] at hr; subst hr; rw [List.mem_singleton] at hc; subst hc; exact .elem (low_cons .v (low_cons (lst_low _ _) (low_cons (lst_low _ _) (low_cons (.map (show nx + 1 + 1 < nx + 1 + 1 + 1 + 1 by omega)) (low_cons (.map (show nx + 1 + 1 + 1 < nx + 1 + 1 + 1 + 1 by omega)) low_nil)))))) (by simp))
    (fun hlt y => lowG_set (lowG_set (lowG_base fun n o h => h) (by omega) (gmap_low (capp_low _ _))) (by omega) (gmap_low (capp_low _ _))) (sound1_ok t e hl h G nx hF)
theorem numbered1_no2 (t : TextD) (e : EditionD) (r : RefD) (hl : e.ss.length ≤ 20) (h : soundEr t e = 0) (hr : refB r = false) :
    PureF chkF Tryd.prog 66 [textC t, val r, lst [e]] (.tup [.list [] .nil, .v (.int .i64 2)]) :=
  numbered_no2 t r [e] (fun nx => .list [[.elem (bookC t e (nx + 1 + 1) (nx + 1 + 1 + 1))]] .none) (fun G nx (y : Nat × Nat) => (setG (setG G (nx + 1 + 1) (gmap Tryd.prog 99 y.1 (capp ((asOf e.ss))))) (nx + 1 + 1 + 1) (gmap Tryd.prog 99 y.2 (capp ((backOf e.ss)))))) (fun nx => nx + 1 + 1 + 1 + 1) hr (fun nx => by omega) (fun G nx hlt y n o ho => by
    have := hlt n o ho
    rw [setG_other (by omega), setG_other (by omega)]; exact ho) (fun G nx hF => sound1_ok t e hl h G nx hF)
end Go.Proofs.YtjjklfgpffgnfaaDoor
