/-
  Contracts of the program's functions of charts: sound editions, plain ones.
-/
import Derived.Test.YtjjklfgpffgnfaaDoorCxTells
namespace Go.AB
open Go Go.RowKit
open Go.AB.Enc (cells)
open Go.PB (Chap TextD PlaceD ReadingD CopyD WayD)
end Go.AB
namespace Go.Proofs.YtjjklfgpffgnfaaDoor
set_option maxRecDepth 10000
open Go.RowKit Go.AB
open Go.AB.Enc (cells)
open Go.PB (Chap TextD PlaceD ReadingD CopyD WayD)
theorem sound1_ok (t : TextD) (e : EditionD) (hl : e.ss.length ≤ 20) (h : soundEr t e = 0) (G : Nat → Option GObj) (nx : Nat) (hF : G 0 = some chkF) :
    PC Tryd.prog 44 [textC t, lst [e]] G nx fun r G' nx' => ∃ y : Nat × Nat, r = .tup [.list [[.elem (bookC t e (nx + 1 + 1) (nx + 1 + 1 + 1))]] .none, .v (.int .i64 0)] ∧ G' = (setG (setG G (nx + 1 + 1) (gmap Tryd.prog 99 y.1 (capp ((asOf e.ss))))) (nx + 1 + 1 + 1) (gmap Tryd.prog 99 y.2 (capp ((backOf e.ss))))) ∧ nx' = nx + 1 + 1 + 1 + 1 := by
  refine pc_namedX_of_body (fun (y : Nat × Nat) => (setG (setG G (nx + 1 + 1) (gmap Tryd.prog 99 y.1 (capp ((asOf e.ss))))) (nx + 1 + 1 + 1) (gmap Tryd.prog 99 y.2 (capp ((backOf e.ss)))))) (nx + 1 + 1 + 1 + 1) Tryd.func44 rfl (.tup (low_cons (.list (by intro r hr c hc; rw [List.mem_singleton] at hr; subst hr; rw [List.mem_singleton] at hc; subst hc; exact .elem (low_cons .v (low_cons (lst_low _ _) (low_cons (lst_low _ _) (low_cons (.map (show nx + 1 + 1 < nx + 1 + 1 + 1 + 1 by omega)) (low_cons (.map (show nx + 1 + 1 + 1 < nx + 1 + 1 + 1 + 1 by omega)) low_nil)))))) (by simp)) (low_cons .v low_nil))) zN (fun hlt y => (by (repeat' (refine lowG_set ?_ (by (try dsimp only); omega) ?_)); all_goals (first | exact lowG_base zS | (repeat' (first | exact trivial | refine ⟨?_, ?_⟩ | exact .v | exact .any | refine .elem ?_ | exact lst_low _ _ | exact cells_low _ _ | exact val_low _ _ | exact data_low _ (by (try dsimp only); omega) | exact .box (by (try dsimp only); omega) | exact nil_low | exact low_nil | exact gmap_low (capp_low _ _) | refine set_low ?_ ?_ | exact .arr (by (try dsimp only); omega) | exact .own (by (try dsimp only); omega) | exact .map (by (try dsimp only); omega) | exact flatC_low _ | refine low_cons ?_ ?_ | exact lst_low _ _))))) ?_
  simp only [Tryd.ntmps44, List.length_cons, List.length_nil, Nat.reduceAdd, Nat.reduceSub]
  refine aw_lt fun hlt => ?_
  dsimp only at hlt
  have hnx := hlt 0 _ hF
  obtain ⟨h0, hf⟩ := soundEr_check h
  obtain ⟨ht, hl12, he⟩ := checkEr_text h0
  have hx : ([e] : List EditionD)[0]? = some e := rfl
  refine aw_seq_k fun K1 hK1 => ?_
  refine aw_region ?_
  try dsimp only [St.put]
  refine aops_e rfl (e_box rfl rfl (by simp) ?_)
  refine aops_n rfl (n_as rfl (by constructor)) ?_
  refine aops_n rfl (n_as rfl (by constructor)) ?_
  refine aops_nil ?_
  dsimp only [St.put]
  refine hK1 _ ?_
  refine aw_seq_k fun K2 hK2 => ?_
  refine aw_seq_k fun K3 hK3 => ?_
  refine aw_region ?_
  refine aops_n rfl (n_mv rfl (by constructor)) ?_
  refine aops_n rfl (n_len' rfl rfl (List.length_map _)) ?_
  refine aops_n rfl (n_mv rfl (by constructor)) ?_
  refine aops_nil ?_
  dsimp only [St.put]
  refine hK3 _ ?_
  refine aw_block ?_
  refine aw_rounds 2 ?_
  refine arounds_succ fun KR4_0 hKR4_0 => ?_
  refine aw_seq_k fun K5 hK5 => ?_
  refine aw_region ?_
  refine aops_n rfl (n_bool (c := true) (n_lss rfl rfl rfl) (by rfl)) ?_
  refine aops_nil ?_
  dsimp only [St.put]
  refine hK5 _ ?_
  refine aw_seq_k fun K6 hK6 => ?_
  refine aw_cond rfl (fun _ => ?_) (fun h => by cases h)
  refine aw_skip ?_
  refine hK6 _ ?_
  refine aw_seq_k fun K7 hK7 => ?_
  refine aw_block ?_
  refine aw_seq_k fun K8 hK8 => ?_
  refine aw_region ?_
  try dsimp only [St.put]
  refine aops_n rfl (n_indexAddr (k := 0) rfl rfl rfl (by first | rfl | omega) (map_get hx) (Enc.len _)) ?_
  try dsimp only [St.put]
  refine aops_s rfl (s_load_agg' rfl rfl (Enc.len _)) ?_
  try dsimp only [St.put]
  refine aops_e rfl (e_allocC rfl ?_)
  try dsimp only [St.put]
  refine aops_e rfl (e_store_all rfl rfl rfl zG rfl rfl (by rfl) ?_)
  refine aops_nil ?_
  dsimp only [St.put]
  refine hK8 _ ?_
  refine aw_commitD (i := 7) rfl zG (by first | exact List.cons_ne_nil _ _ | (simp; done) | (simp [putAt]; done)) ?_
  dsimp only
  refine aw_seq_k fun K9 hK9 => ?_
  refine aw_region ?_
  try dsimp only [St.put]
  refine aops_s rfl (s_load_agg' rfl rfl rfl) ?_
  try dsimp only [St.put]
  refine aops_s rfl (s_load_agg' rfl rfl (Enc.len _)) ?_
  try dsimp only [St.put]
  refine aops_e rfl (e_call_f rfl rfl rfl (chartCheck_pureF t e hl) zG ?_)
  refine aops_n rfl (n_as rfl (by constructor)) ?_
  refine aops_nil ?_
  dsimp only [St.put]
  refine hK9 _ ?_
  refine aw_seq_k fun K10 hK10 => ?_
  refine aw_region ?_
  refine aops_n rfl (n_mv rfl (by constructor)) ?_
  refine aops_n rfl (n_bool (c := false) (n_neq rfl rfl rfl) (not_dec_f h0)) ?_
  refine aops_nil ?_
  dsimp only [St.put]
  refine hK10 _ ?_
  refine aw_cond rfl (fun h => by cases h) (fun _ => ?_)
  refine aw_skip ?_
  refine hK7 _ ?_
  refine aw_region ?_
  refine aops_n rfl (n_add rfl rfl rfl (by omega)) ?_
  refine aops_n rfl (n_mv rfl (by constructor)) ?_
  refine aops_nil ?_
  dsimp only [St.put]
  refine hKR4_0 _ ?_
  refine arounds_succ fun KR4_1 hKR4_1 => ?_
  refine aw_seq_k fun K11 hK11 => ?_
  refine aw_region ?_
  refine aops_n rfl (n_bool (c := false) (n_lss rfl rfl rfl) (by rfl)) ?_
  refine aops_nil ?_
  dsimp only [St.put]
  refine hK11 _ ?_
  refine aw_seq_k fun K12 hK12 => ?_
  refine aw_cond rfl (fun h => by cases h) (fun _ => ?_)
  refine aw_exit ?_
  refine hK2 _ ?_
  refine aw_seq_k fun K13 hK13 => ?_
  refine aw_region ?_
  refine aops_n rfl (n_as rfl (by constructor)) ?_
  refine aops_nil ?_
  dsimp only [St.put]
  refine hK13 _ ?_
  refine aw_seq_k fun K14 hK14 => ?_
  refine aw_seq_k fun K15 hK15 => ?_
  refine aw_region ?_
  refine aops_n rfl (n_mv rfl (by constructor)) ?_
  refine aops_n rfl (n_len' rfl rfl (List.length_map _)) ?_
  refine aops_n rfl (n_mv rfl (by constructor)) ?_
  refine aops_nil ?_
  dsimp only [St.put]
  refine hK15 _ ?_
  refine aw_block ?_
  refine aw_rounds 2 ?_
  refine arounds_succ fun KR16_0 hKR16_0 => ?_
  refine aw_seq_k fun K17 hK17 => ?_
  refine aw_region ?_
  refine aops_n rfl (n_bool (c := true) (n_lss rfl rfl rfl) (by rfl)) ?_
  refine aops_nil ?_
  dsimp only [St.put]
  refine hK17 _ ?_
  refine aw_seq_k fun K18 hK18 => ?_
  refine aw_cond rfl (fun _ => ?_) (fun h => by cases h)
  refine aw_skip ?_
  refine hK18 _ ?_
  refine aw_seq_k fun K19 hK19 => ?_
  refine aw_block ?_
  refine aw_seq_k fun K20 hK20 => ?_
  refine aw_region ?_
  try dsimp only [St.put]
  refine aops_n rfl (n_indexAddr (k := 0) rfl rfl rfl (by first | rfl | omega) (map_get hx) (Enc.len _)) ?_
  try dsimp only [St.put]
  refine aops_s rfl (s_load_agg' rfl rfl (Enc.len _)) ?_
  try dsimp only [St.put]
  refine aops_e rfl (e_allocC rfl ?_)
  try dsimp only [St.put]
  refine aops_e rfl (e_store_all rfl rfl rfl zG rfl rfl (by rfl) ?_)
  refine aops_nil ?_
  dsimp only [St.put]
  refine hK20 _ ?_
  refine aw_commitD (i := 11) rfl zG (by first | exact List.cons_ne_nil _ _ | (simp; done) | (simp [putAt]; done)) ?_
  dsimp only
  refine aw_forget G zX ?_
  refine aw_seq_k fun K21 hK21 => ?_
  refine aw_region ?_
  try dsimp only [St.put]
  refine aops_s rfl (s_load_agg' rfl rfl rfl) ?_
  try dsimp only [St.put]
  refine aops_s rfl (s_load_agg' rfl rfl (Enc.len _)) ?_
  try dsimp only [St.put]
  refine aops_e rfl (e_call_namedX rfl rfl rfl (opened_pc t e hl12 he _ _) (fun y => ?_))
  refine aops_n rfl (n_mv rfl (by constructor)) ?_
  refine aops_n rfl (n_extract rfl rfl rfl) ?_
  refine aops_n rfl (n_extract rfl rfl rfl) ?_
  refine aops_n rfl (n_extract rfl rfl rfl) ?_
  refine aops_n rfl (n_extract rfl rfl rfl) ?_
  refine aops_n rfl (n_as rfl (by constructor)) ?_
  refine aops_n rfl (n_as rfl (by constructor)) ?_
  refine aops_n rfl (n_as rfl (by constructor)) ?_
  refine aops_n rfl (n_as rfl (by constructor)) ?_
  refine aops_nil ?_
  dsimp only [St.put]
  refine hK21 _ ?_
  refine aw_seq_k fun K22 hK22 => ?_
  refine aw_seq_k fun K23 hK23 => ?_
  refine aw_region ?_
  refine aops_n rfl (n_bool (c := false) (n_mv rfl (by constructor)) (by rw [hf]; rfl)) ?_
  refine aops_nil ?_
  dsimp only [St.put]
  refine hK23 _ ?_
  refine aw_cond rfl (fun h => by cases h) (fun _ => ?_)
  refine aw_skip ?_
  refine hK22 _ ?_
  refine aw_region ?_
  refine aops_n rfl (n_mv rfl (by constructor)) ?_
  refine aops_n rfl (n_mv rfl (by constructor)) ?_
  try dsimp only [St.put]
  refine aops_e rfl (e_buildSlice rfl rfl rfl (by decide) (by decide) zR (by decide) ?_)
  try dsimp only [St.put]
  refine aops_e rfl (e_append_copy rfl rfl (.inr rfl) rfl (by decide) zR (by show 1 * _ ≤ _; decide) (by show 1 ≤ _; decide) ?_)
  refine aops_n rfl (n_as rfl (by constructor)) ?_
  refine aops_nil ?_
  dsimp only [St.put]
  refine hK19 _ ?_
  refine aw_region ?_
  refine aops_n rfl (n_add rfl rfl rfl (by omega)) ?_
  refine aops_n rfl (n_mv rfl (by constructor)) ?_
  refine aops_nil ?_
  dsimp only [St.put]
  refine hKR16_0 _ ?_
  refine arounds_succ fun KR16_1 hKR16_1 => ?_
  refine aw_seq_k fun K24 hK24 => ?_
  refine aw_region ?_
  refine aops_n rfl (n_bool (c := false) (n_lss rfl rfl rfl) (by rfl)) ?_
  refine aops_nil ?_
  dsimp only [St.put]
  refine hK24 _ ?_
  refine aw_seq_k fun K25 hK25 => ?_
  refine aw_cond rfl (fun h => by cases h) (fun _ => ?_)
  refine aw_exit ?_
  refine hK14 _ ?_
  refine aw_seq_k fun K26 hK26 => ?_
  refine aw_region ?_
  refine aops_n rfl (n_mv rfl (by constructor)) ?_
  refine aops_n rfl (n_as rfl (by constructor)) ?_
  refine aops_n rfl (n_as rfl (by constructor)) ?_
  refine aops_nil ?_
  dsimp only [St.put]
  refine hK26 _ ?_
  refine aw_ret ?_
  refine ⟨y, ?_⟩
  refine ends_v2 rfl (rv_tmp (by constructor)) (rv_tmp (by constructor)) zN zX ?_ ?_
  · exact zW
  · exact zW
theorem sound1_no1 (t : TextD) (e : EditionD) (hl : e.ss.length ≤ 20) (h0 : checkEr t e ≠ 0) :
    PureF chkF Tryd.prog 44 [textC t, lst [e]] (.tup [.list [] .nil, .v (.int .i64 (checkEr t e))]) := by
  refine pureF_of_body Tryd.func44 rfl (fun m => .tup (low_cons nil_low (low_cons .v low_nil))) fun G nx hF => ?_
  simp only [Tryd.ntmps44, List.length_cons, List.length_nil, Nat.reduceAdd, Nat.reduceSub]
  refine aw_lt fun hlt => ?_
  dsimp only at hlt
  have hnx := hlt 0 _ hF
  have hx : ([e] : List EditionD)[0]? = some e := rfl
  refine aw_seq_k fun K1 hK1 => ?_
  refine aw_region ?_
  try dsimp only [St.put]
  refine aops_e rfl (e_box rfl rfl (by simp) ?_)
  refine aops_n rfl (n_as rfl (by constructor)) ?_
  refine aops_n rfl (n_as rfl (by constructor)) ?_
  refine aops_nil ?_
  dsimp only [St.put]
  refine hK1 _ ?_
  refine aw_seq_k fun K2 hK2 => ?_
  refine aw_seq_k fun K3 hK3 => ?_
  refine aw_region ?_
  refine aops_n rfl (n_mv rfl (by constructor)) ?_
  refine aops_n rfl (n_len' rfl rfl (List.length_map _)) ?_
  refine aops_n rfl (n_mv rfl (by constructor)) ?_
  refine aops_nil ?_
  dsimp only [St.put]
  refine hK3 _ ?_
  refine aw_block ?_
  refine aw_rounds 2 ?_
  refine arounds_succ fun KR4_0 hKR4_0 => ?_
  refine aw_seq_k fun K5 hK5 => ?_
  refine aw_region ?_
  refine aops_n rfl (n_bool (c := true) (n_lss rfl rfl rfl) (by rfl)) ?_
  refine aops_nil ?_
  dsimp only [St.put]
  refine hK5 _ ?_
  refine aw_seq_k fun K6 hK6 => ?_
  refine aw_cond rfl (fun _ => ?_) (fun h => by cases h)
  refine aw_skip ?_
  refine hK6 _ ?_
  refine aw_seq_k fun K7 hK7 => ?_
  refine aw_block ?_
  refine aw_seq_k fun K8 hK8 => ?_
  refine aw_region ?_
  try dsimp only [St.put]
  refine aops_n rfl (n_indexAddr (k := 0) rfl rfl rfl (by first | rfl | omega) (map_get hx) (Enc.len _)) ?_
  try dsimp only [St.put]
  refine aops_s rfl (s_load_agg' rfl rfl (Enc.len _)) ?_
  try dsimp only [St.put]
  refine aops_e rfl (e_allocC rfl ?_)
  try dsimp only [St.put]
  refine aops_e rfl (e_store_all rfl rfl rfl zG rfl rfl (by rfl) ?_)
  refine aops_nil ?_
  dsimp only [St.put]
  refine hK8 _ ?_
  refine aw_commitD (i := 7) rfl zG (by first | exact List.cons_ne_nil _ _ | (simp; done) | (simp [putAt]; done)) ?_
  dsimp only
  refine aw_seq_k fun K9 hK9 => ?_
  refine aw_region ?_
  try dsimp only [St.put]
  refine aops_s rfl (s_load_agg' rfl rfl rfl) ?_
  try dsimp only [St.put]
  refine aops_s rfl (s_load_agg' rfl rfl (Enc.len _)) ?_
  try dsimp only [St.put]
  refine aops_e rfl (e_call_f rfl rfl rfl (chartCheck_pureF t e hl) zG ?_)
  refine aops_n rfl (n_as rfl (by constructor)) ?_
  refine aops_nil ?_
  dsimp only [St.put]
  refine hK9 _ ?_
  refine aw_seq_k fun K10 hK10 => ?_
  refine aw_region ?_
  refine aops_n rfl (n_mv rfl (by constructor)) ?_
  refine aops_n rfl (n_bool (c := true) (n_neq rfl rfl rfl) (not_dec_t h0)) ?_
  refine aops_nil ?_
  dsimp only [St.put]
  refine hK10 _ ?_
  refine aw_cond rfl (fun _ => ?_) (fun h => by cases h)
  refine aw_seq_k fun K11 hK11 => ?_
  refine aw_region ?_
  refine aops_n rfl (n_mv rfl (by constructor)) ?_
  refine aops_n rfl (n_as rfl (by constructor)) ?_
  refine aops_n rfl (n_as rfl (by constructor)) ?_
  refine aops_nil ?_
  dsimp only [St.put]
  refine hK11 _ ?_
  refine aw_ret ?_
  refine ends_2 rfl (by constructor) (by constructor) zN zS ?_ ?_
  · rfl
  · rfl
theorem sound1_no2 (t : TextD) (e : EditionD) (hl : e.ss.length ≤ 20) (h0 : checkEr t e = 0) (hf : (firstC e.ss).isSome = true) :
    PureF chkF Tryd.prog 44 [textC t, lst [e]] (.tup [.list [] .nil, .v (.int .i64 8)]) := by
  refine pureF_of_body Tryd.func44 rfl (fun m => .tup (low_cons nil_low (low_cons .v low_nil))) fun G nx hF => ?_
  simp only [Tryd.ntmps44, List.length_cons, List.length_nil, Nat.reduceAdd, Nat.reduceSub]
  refine aw_lt fun hlt => ?_
  dsimp only at hlt
  have hnx := hlt 0 _ hF
  obtain ⟨ht, hl12, he⟩ := checkEr_text h0
  have hx : ([e] : List EditionD)[0]? = some e := rfl
  refine aw_seq_k fun K1 hK1 => ?_
  refine aw_region ?_
  try dsimp only [St.put]
  refine aops_e rfl (e_box rfl rfl (by simp) ?_)
  refine aops_n rfl (n_as rfl (by constructor)) ?_
  refine aops_n rfl (n_as rfl (by constructor)) ?_
  refine aops_nil ?_
  dsimp only [St.put]
  refine hK1 _ ?_
  refine aw_seq_k fun K2 hK2 => ?_
  refine aw_seq_k fun K3 hK3 => ?_
  refine aw_region ?_
  refine aops_n rfl (n_mv rfl (by constructor)) ?_
  refine aops_n rfl (n_len' rfl rfl (List.length_map _)) ?_
  refine aops_n rfl (n_mv rfl (by constructor)) ?_
  refine aops_nil ?_
  dsimp only [St.put]
  refine hK3 _ ?_
  refine aw_block ?_
  refine aw_rounds 2 ?_
  refine arounds_succ fun KR4_0 hKR4_0 => ?_
  refine aw_seq_k fun K5 hK5 => ?_
  refine aw_region ?_
  refine aops_n rfl (n_bool (c := true) (n_lss rfl rfl rfl) (by rfl)) ?_
  refine aops_nil ?_
  dsimp only [St.put]
  refine hK5 _ ?_
  refine aw_seq_k fun K6 hK6 => ?_
  refine aw_cond rfl (fun _ => ?_) (fun h => by cases h)
  refine aw_skip ?_
  refine hK6 _ ?_
  refine aw_seq_k fun K7 hK7 => ?_
  refine aw_block ?_
  refine aw_seq_k fun K8 hK8 => ?_
  refine aw_region ?_
  try dsimp only [St.put]
  refine aops_n rfl (n_indexAddr (k := 0) rfl rfl rfl (by first | rfl | omega) (map_get hx) (Enc.len _)) ?_
  try dsimp only [St.put]
  refine aops_s rfl (s_load_agg' rfl rfl (Enc.len _)) ?_
  try dsimp only [St.put]
  refine aops_e rfl (e_allocC rfl ?_)
  try dsimp only [St.put]
  refine aops_e rfl (e_store_all rfl rfl rfl zG rfl rfl (by rfl) ?_)
  refine aops_nil ?_
  dsimp only [St.put]
  refine hK8 _ ?_
  refine aw_commitD (i := 7) rfl zG (by first | exact List.cons_ne_nil _ _ | (simp; done) | (simp [putAt]; done)) ?_
  dsimp only
  refine aw_seq_k fun K9 hK9 => ?_
  refine aw_region ?_
  try dsimp only [St.put]
  refine aops_s rfl (s_load_agg' rfl rfl rfl) ?_
  try dsimp only [St.put]
  refine aops_s rfl (s_load_agg' rfl rfl (Enc.len _)) ?_
  try dsimp only [St.put]
  refine aops_e rfl (e_call_f rfl rfl rfl (chartCheck_pureF t e hl) zG ?_)
  refine aops_n rfl (n_as rfl (by constructor)) ?_
  refine aops_nil ?_
  dsimp only [St.put]
  refine hK9 _ ?_
  refine aw_seq_k fun K10 hK10 => ?_
  refine aw_region ?_
  refine aops_n rfl (n_mv rfl (by constructor)) ?_
  refine aops_n rfl (n_bool (c := false) (n_neq rfl rfl rfl) (not_dec_f h0)) ?_
  refine aops_nil ?_
  dsimp only [St.put]
  refine hK10 _ ?_
  refine aw_cond rfl (fun h => by cases h) (fun _ => ?_)
  refine aw_skip ?_
  refine hK7 _ ?_
  refine aw_region ?_
  refine aops_n rfl (n_add rfl rfl rfl (by omega)) ?_
  refine aops_n rfl (n_mv rfl (by constructor)) ?_
  refine aops_nil ?_
  dsimp only [St.put]
  refine hKR4_0 _ ?_
  refine arounds_succ fun KR4_1 hKR4_1 => ?_
  refine aw_seq_k fun K11 hK11 => ?_
  refine aw_region ?_
  refine aops_n rfl (n_bool (c := false) (n_lss rfl rfl rfl) (by rfl)) ?_
  refine aops_nil ?_
  dsimp only [St.put]
  refine hK11 _ ?_
  refine aw_seq_k fun K12 hK12 => ?_
  refine aw_cond rfl (fun h => by cases h) (fun _ => ?_)
  refine aw_exit ?_
  refine hK2 _ ?_
  refine aw_seq_k fun K13 hK13 => ?_
  refine aw_region ?_
  refine aops_n rfl (n_as rfl (by constructor)) ?_
  refine aops_nil ?_
  dsimp only [St.put]
  refine hK13 _ ?_
  refine aw_seq_k fun K14 hK14 => ?_
  refine aw_seq_k fun K15 hK15 => ?_
  refine aw_region ?_
  refine aops_n rfl (n_mv rfl (by constructor)) ?_
  refine aops_n rfl (n_len' rfl rfl (List.length_map _)) ?_
  refine aops_n rfl (n_mv rfl (by constructor)) ?_
  refine aops_nil ?_
  dsimp only [St.put]
  refine hK15 _ ?_
  refine aw_block ?_
  refine aw_rounds 2 ?_
  refine arounds_succ fun KR16_0 hKR16_0 => ?_
  refine aw_seq_k fun K17 hK17 => ?_
  refine aw_region ?_
  refine aops_n rfl (n_bool (c := true) (n_lss rfl rfl rfl) (by rfl)) ?_
  refine aops_nil ?_
  dsimp only [St.put]
  refine hK17 _ ?_
  refine aw_seq_k fun K18 hK18 => ?_
  refine aw_cond rfl (fun _ => ?_) (fun h => by cases h)
  refine aw_skip ?_
  refine hK18 _ ?_
  refine aw_seq_k fun K19 hK19 => ?_
  refine aw_block ?_
  refine aw_seq_k fun K20 hK20 => ?_
  refine aw_region ?_
  try dsimp only [St.put]
  refine aops_n rfl (n_indexAddr (k := 0) rfl rfl rfl (by first | rfl | omega) (map_get hx) (Enc.len _)) ?_
  try dsimp only [St.put]
  refine aops_s rfl (s_load_agg' rfl rfl (Enc.len _)) ?_
  try dsimp only [St.put]
  refine aops_e rfl (e_allocC rfl ?_)
  try dsimp only [St.put]
  refine aops_e rfl (e_store_all rfl rfl rfl zG rfl rfl (by rfl) ?_)
  refine aops_nil ?_
  dsimp only [St.put]
  refine hK20 _ ?_
  refine aw_commitD (i := 11) rfl zG (by first | exact List.cons_ne_nil _ _ | (simp; done) | (simp [putAt]; done)) ?_
  dsimp only
  refine aw_seq_k fun K21 hK21 => ?_
  refine aw_region ?_
  try dsimp only [St.put]
  refine aops_s rfl (s_load_agg' rfl rfl rfl) ?_
  try dsimp only [St.put]
  refine aops_s rfl (s_load_agg' rfl rfl (Enc.len _)) ?_
  try dsimp only [St.put]
  refine aops_e rfl (e_call_namedX rfl rfl rfl (opened_pc t e hl12 he _ _) (fun y => ?_))
  refine aops_n rfl (n_mv rfl (by constructor)) ?_
  refine aops_n rfl (n_extract rfl rfl rfl) ?_
  refine aops_n rfl (n_extract rfl rfl rfl) ?_
  refine aops_n rfl (n_extract rfl rfl rfl) ?_
  refine aops_n rfl (n_extract rfl rfl rfl) ?_
  refine aops_n rfl (n_as rfl (by constructor)) ?_
  refine aops_n rfl (n_as rfl (by constructor)) ?_
  refine aops_n rfl (n_as rfl (by constructor)) ?_
  refine aops_n rfl (n_as rfl (by constructor)) ?_
  refine aops_nil ?_
  dsimp only [St.put]
  refine hK21 _ ?_
  refine aw_seq_k fun K22 hK22 => ?_
  refine aw_seq_k fun K23 hK23 => ?_
  refine aw_region ?_
  refine aops_n rfl (n_bool (c := true) (n_mv rfl (by constructor)) hf) ?_
  refine aops_nil ?_
  dsimp only [St.put]
  refine hK23 _ ?_
  refine aw_cond rfl (fun _ => ?_) (fun h => by cases h)
  refine aw_seq_k fun K24 hK24 => ?_
  refine aw_region ?_
  refine aops_n rfl (n_as rfl (by constructor)) ?_
  refine aops_n rfl (n_as rfl (by constructor)) ?_
  refine aops_nil ?_
  dsimp only [St.put]
  refine hK24 _ ?_
  refine aw_ret ?_
  refine ends_2 rfl (by constructor) (by constructor) zN zS ?_ ?_
  · rfl
  · rfl
theorem sound1_no (t : TextD) (e : EditionD) (hl : e.ss.length ≤ 20) (h : soundEr t e ≠ 0) :
    PureF chkF Tryd.prog 44 [textC t, lst [e]] (.tup [.list [] .nil, .v (.int .i64 (soundEr t e))]) := by
  rcases soundEr_err h with ⟨h0, h1⟩ | ⟨h0, h1, h2⟩
  · rw [h1]; exact sound1_no1 t e hl h0
  · rw [h2]; exact sound1_no2 t e hl h0 h1
/-! ### Plain editions -/
end Go.Proofs.YtjjklfgpffgnfaaDoor
