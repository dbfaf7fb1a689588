/-
 Contracts of the program's functions of charts: sound editions, plain ones.
-/
import Derived.Test.YtjjklfgpffgnfabGreatDoorCxTells
namespace Go.AB
open Go Go.RowKit
open Go.AB.Enc (cells)
open Go.PB (Chap TextD PlaceD ReadingD CopyD WayD)
theorem goesOn_eq {s : StretchD} {p v : L2} (hb : SBd s) : decide (({ s with tt := s.tt + 1 } : StretchD) = ⟨p.1, s.fr, p.2 + 1, v.1, v.2 - (p.2 + 1 - s.fr) + 1⟩) = goesOn s p v := by
 obtain ⟨a, b, c, d, e⟩ := s
 rw [Bool.eq_iff_iff, decide_eq_true_eq]
 simp only [goesOn, Bool.and_eq_true, decide_eq_true_eq, StretchD.mk.injEq]
 constructor
 ·rintro ⟨h1, _, h3, h4, h5⟩
  exact ⟨h1, by omega, h4, by omega⟩
 rintro ⟨h1, h3, h4, h5⟩
 exact ⟨h1, trivial, by omega, h4, by omega⟩
end Go.AB
namespace Go.Proofs.YtjjklfgpffgnfabGreatDoor
set_option maxRecDepth 10000
open Go.RowKit Go.AB
open Go.AB.Enc (cells)
open Go.PB (Chap TextD PlaceD ReadingD CopyD WayD)
theorem sound1_ok (t : TextD) (e : EditionD) (hl : e.ss.length ≤ 20) (h : soundEr t e = 0) (G : Nat → Option GObj) (nx : Nat) (hF : G 0 = some chkF) :
  PC Tryz.prog 52 [textC t, lst [e]] G nx fun r G' nx' => ∃ y : Nat × Nat, r = .tup [.list [[.elem (bookC t e (nx + 1 + 1) (nx + 1 + 1 + 1))]] .none, .v (.int .i64 0)] ∧ G' = (setG (setG G (nx + 1 + 1) (gmap Tryz.prog 95 y.1 (capp ((asOf e.ss))))) (nx + 1 + 1 + 1) (gmap Tryz.prog 95 y.2 (capp ((backOf e.ss))))) ∧ nx' = nx + 1 + 1 + 1 + 1 := by
 refine pc_namedX_of_body (fun (y : Nat × Nat) => (setG (setG G (nx + 1 + 1) (gmap Tryz.prog 95 y.1 (capp ((asOf e.ss))))) (nx + 1 + 1 + 1) (gmap Tryz.prog 95 y.2 (capp ((backOf e.ss)))))) (nx + 1 + 1 + 1 + 1) Tryz.func52 rfl (.tup (low_cons (.list (by intro r hr c hc; rw [List.mem_singleton] at hr; subst hr; rw [List.mem_singleton] at hc; subst hc; exact .elem (low_cons .v (low_cons (lst_low _ _) (low_cons (lst_low _ _) (low_cons (.map (show nx + 1 + 1 < nx + 1 + 1 + 1 + 1 by omega)) (low_cons (.map (show nx + 1 + 1 + 1 < nx + 1 + 1 + 1 + 1 by omega)) low_nil)))))) (by simp)) (low_cons .v low_nil))) zN (fun hlt y => (by (repeat' (refine lowG_set ?_ (by (try dsimp only); omega) ?_)); all_goals (first | exact lowG_base zS | (repeat' (first | exact trivial | refine ⟨?_, ?_⟩ | exact .v | exact .any | refine .elem ?_ | exact lst_low _ _ | exact cells_low _ _ | exact val_low _ _ | exact data_low _ (by (try dsimp only); omega) | exact .box (by (try dsimp only); omega) | exact nil_low | exact low_nil | exact gmap_low (capp_low _ _) | refine set_low ?_ ?_ | exact .arr (by (try dsimp only); omega) | exact .own (by (try dsimp only); omega) | exact .map (by (try dsimp only); omega) | exact flatC_low _ | refine low_cons ?_ ?_ | exact lst_low _ _))))) ?_
 simp only [Tryz.ntmps52, List.length_cons, List.length_nil, Nat.reduceAdd, Nat.reduceSub]
 refine aw_lt fun hlt => ?_
 dsimp only at hlt
 have hnx := hlt 0 _ hF
 obtain ⟨h0, hf⟩ := soundEr_check h
 obtain ⟨ht, hl12, he⟩ := checkEr_text h0
 have hx : ([e] : List EditionD)[0]? = some e := rfl
 refine yS fun _ K1 => ?_
 refine yR ?_
 try dsimp only [St.put]
 refine yB rfl rfl rfl ?_
 refine yA rfl rfl ?_
 refine yA rfl rfl ?_
 refine yN ?_
 dsimp only [St.put]
 refine K1 _ ?_
 refine yS fun _ K2 => ?_
 refine yS fun _ K3 => ?_
 refine yR ?_
 refine yM rfl rfl ?_
 refine aops_n rfl (n_len' rfl rfl (List.length_map _)) ?_
 refine yM rfl rfl ?_
 refine yN ?_
 dsimp only [St.put]
 refine K3 _ ?_
 refine aw_block ?_
 refine aw_rounds 2 ?_
 refine arounds_succ fun KR4_0 hKR4_0 => ?_
 refine yS fun _ K5 => ?_
 refine yR ?_
 refine aops_n rfl (n_bool (c := true) (n_lss rfl rfl rfl) (by rfl)) ?_
 refine yN ?_
 dsimp only [St.put]
 refine K5 _ ?_
 refine yS fun _ K6 => ?_
 refine aw_cond rfl (fun _ => ?_) (fun h => by cases h)
 refine aw_skip ?_
 refine K6 _ ?_
 refine yS fun _ K7 => ?_
 refine aw_block ?_
 refine yS fun _ K8 => ?_
 refine yR ?_
 try dsimp only [St.put]
 refine aops_n rfl (n_indexAddr (k := 0) rfl rfl rfl (by first | rfl | omega) (map_get hx) (Enc.len _)) ?_
 refine yE rfl rfl rfl ?_
 try dsimp only [St.put]
 refine aops_e rfl (e_allocC rfl ?_)
 try dsimp only [St.put]
 refine aops_e rfl (e_store_all rfl rfl rfl zG rfl rfl (by rfl) ?_)
 refine yN ?_
 dsimp only [St.put]
 refine K8 _ ?_
 refine aw_commitD (i := 7) rfl zG (by first | exact List.cons_ne_nil _ _ | (simp; done) | (simp [putAt]; done)) ?_
 dsimp only
 refine yS fun _ K9 => ?_
 refine yR ?_
 try dsimp only [St.put]
 refine aops_s rfl (s_load_agg' rfl rfl rfl) ?_
 refine yE rfl rfl rfl ?_
 try dsimp only [St.put]
 refine aops_e rfl (e_call_f rfl rfl rfl (chartCheck_pureF t e hl) zG ?_)
 refine yA rfl rfl ?_
 refine yN ?_
 dsimp only [St.put]
 refine K9 _ ?_
 refine yS fun _ K10 => ?_
 refine yR ?_
 refine yM rfl rfl ?_
 refine aops_n rfl (n_bool (c := false) (n_neq rfl rfl rfl) (not_dec_f h0)) ?_
 refine yN ?_
 dsimp only [St.put]
 refine K10 _ ?_
 refine aw_cond rfl (fun h => by cases h) (fun _ => ?_)
 refine aw_skip ?_
 refine K7 _ ?_
 refine yR ?_
 refine aops_n rfl (n_add rfl rfl rfl (by omega)) ?_
 refine yM rfl rfl ?_
 refine yN ?_
 dsimp only [St.put]
 refine hKR4_0 _ ?_
 refine arounds_succ fun KR4_1 hKR4_1 => ?_
 refine yS fun _ K11 => ?_
 refine yR ?_
 refine aops_n rfl (n_bool (c := false) (n_lss rfl rfl rfl) (by rfl)) ?_
 refine yN ?_
 dsimp only [St.put]
 refine K11 _ ?_
 refine yS fun _ K12 => ?_
 refine aw_cond rfl (fun h => by cases h) (fun _ => ?_)
 refine aw_exit ?_
 refine K2 _ ?_
 refine yS fun _ K13 => ?_
 refine yR ?_
 refine yA rfl rfl ?_
 refine yN ?_
 dsimp only [St.put]
 refine K13 _ ?_
 refine yS fun _ K14 => ?_
 refine yS fun _ K15 => ?_
 refine yR ?_
 refine yM rfl rfl ?_
 refine aops_n rfl (n_len' rfl rfl (List.length_map _)) ?_
 refine yM rfl rfl ?_
 refine yN ?_
 dsimp only [St.put]
 refine K15 _ ?_
 refine aw_block ?_
 refine aw_rounds 2 ?_
 refine arounds_succ fun KR16_0 hKR16_0 => ?_
 refine yS fun _ K17 => ?_
 refine yR ?_
 refine aops_n rfl (n_bool (c := true) (n_lss rfl rfl rfl) (by rfl)) ?_
 refine yN ?_
 dsimp only [St.put]
 refine K17 _ ?_
 refine yS fun _ K18 => ?_
 refine aw_cond rfl (fun _ => ?_) (fun h => by cases h)
 refine aw_skip ?_
 refine K18 _ ?_
 refine yS fun _ K19 => ?_
 refine aw_block ?_
 refine yS fun _ K20 => ?_
 refine yR ?_
 try dsimp only [St.put]
 refine aops_n rfl (n_indexAddr (k := 0) rfl rfl rfl (by first | rfl | omega) (map_get hx) (Enc.len _)) ?_
 refine yE rfl rfl rfl ?_
 try dsimp only [St.put]
 refine aops_e rfl (e_allocC rfl ?_)
 try dsimp only [St.put]
 refine aops_e rfl (e_store_all rfl rfl rfl zG rfl rfl (by rfl) ?_)
 refine yN ?_
 dsimp only [St.put]
 refine K20 _ ?_
 refine aw_commitD (i := 11) rfl zG (by first | exact List.cons_ne_nil _ _ | (simp; done) | (simp [putAt]; done)) ?_
 dsimp only
 refine aw_forget G zX ?_
 refine yS fun _ K21 => ?_
 refine yR ?_
 try dsimp only [St.put]
 refine aops_s rfl (s_load_agg' rfl rfl rfl) ?_
 refine yE rfl rfl rfl ?_
 try dsimp only [St.put]
 refine aops_e rfl (e_call_namedX rfl rfl rfl (opened_pc t e hl12 he _ _) (fun y => ?_))
 refine yM rfl rfl ?_
 refine yX rfl rfl rfl rfl ?_
 refine yX rfl rfl rfl rfl ?_
 refine yX rfl rfl rfl rfl ?_
 refine yX rfl rfl rfl rfl ?_
 refine yA rfl rfl ?_
 refine yA rfl rfl ?_
 refine yA rfl rfl ?_
 refine yA rfl rfl ?_
 refine yN ?_
 dsimp only [St.put]
 refine K21 _ ?_
 refine yS fun _ K22 => ?_
 refine yS fun _ K23 => ?_
 refine yR ?_
 refine aops_n rfl (n_bool (c := false) (n_mv rfl (by constructor)) (by rw [hf]; rfl)) ?_
 refine yN ?_
 dsimp only [St.put]
 refine K23 _ ?_
 refine aw_cond rfl (fun h => by cases h) (fun _ => ?_)
 refine aw_skip ?_
 refine K22 _ ?_
 refine yR ?_
 refine yM rfl rfl ?_
 refine yM rfl rfl ?_
 try dsimp only [St.put]
 refine aops_e rfl (e_buildSlice rfl rfl rfl (by decide) (by decide) zR (by decide) ?_)
 try dsimp only [St.put]
 refine aops_e rfl (e_append_copy rfl rfl (.inr rfl) rfl (by decide) zR (by show 1 * _ ≤ _; decide) (by show 1 ≤ _; decide) ?_)
 refine yA rfl rfl ?_
 refine yN ?_
 dsimp only [St.put]
 refine K19 _ ?_
 refine yR ?_
 refine aops_n rfl (n_add rfl rfl rfl (by omega)) ?_
 refine yM rfl rfl ?_
 refine yN ?_
 dsimp only [St.put]
 refine hKR16_0 _ ?_
 refine arounds_succ fun KR16_1 hKR16_1 => ?_
 refine yS fun _ K24 => ?_
 refine yR ?_
 refine aops_n rfl (n_bool (c := false) (n_lss rfl rfl rfl) (by rfl)) ?_
 refine yN ?_
 dsimp only [St.put]
 refine K24 _ ?_
 refine yS fun _ K25 => ?_
 refine aw_cond rfl (fun h => by cases h) (fun _ => ?_)
 refine aw_exit ?_
 refine K14 _ ?_
 refine yS fun _ K26 => ?_
 refine yR ?_
 refine yM rfl rfl ?_
 refine yA rfl rfl ?_
 refine yA rfl rfl ?_
 refine yN ?_
 dsimp only [St.put]
 refine K26 _ ?_
 refine aw_ret ?_
 refine ⟨y, ?_⟩
 refine ends_v2 rfl (rv_tmp (by constructor)) (rv_tmp (by constructor)) zN zX ?_ ?_
 ·exact zW
 exact zW
theorem sound1_no1 (t : TextD) (e : EditionD) (hl : e.ss.length ≤ 20) (h0 : checkEr t e ≠ 0) :
  PureF chkF Tryz.prog 52 [textC t, lst [e]] (.tup [.list [] .nil, .v (.int .i64 (checkEr t e))]) := by
 refine pureF_of_body Tryz.func52 rfl (fun m => .tup (low_cons nil_low (low_cons .v low_nil))) fun G nx hF => ?_
 simp only [Tryz.ntmps52, List.length_cons, List.length_nil, Nat.reduceAdd, Nat.reduceSub]
 refine aw_lt fun hlt => ?_
 dsimp only at hlt
 have hnx := hlt 0 _ hF
 have hx : ([e] : List EditionD)[0]? = some e := rfl
 refine yS fun _ K1 => ?_
 refine yR ?_
 try dsimp only [St.put]
 refine yB rfl rfl rfl ?_
 refine yA rfl rfl ?_
 refine yA rfl rfl ?_
 refine yN ?_
 dsimp only [St.put]
 refine K1 _ ?_
 refine yS fun _ K2 => ?_
 refine yS fun _ K3 => ?_
 refine yR ?_
 refine yM rfl rfl ?_
 refine aops_n rfl (n_len' rfl rfl (List.length_map _)) ?_
 refine yM rfl rfl ?_
 refine yN ?_
 dsimp only [St.put]
 refine K3 _ ?_
 refine aw_block ?_
 refine aw_rounds 2 ?_
 refine arounds_succ fun KR4_0 hKR4_0 => ?_
 refine yS fun _ K5 => ?_
 refine yR ?_
 refine aops_n rfl (n_bool (c := true) (n_lss rfl rfl rfl) (by rfl)) ?_
 refine yN ?_
 dsimp only [St.put]
 refine K5 _ ?_
 refine yS fun _ K6 => ?_
 refine aw_cond rfl (fun _ => ?_) (fun h => by cases h)
 refine aw_skip ?_
 refine K6 _ ?_
 refine yS fun _ K7 => ?_
 refine aw_block ?_
 refine yS fun _ K8 => ?_
 refine yR ?_
 try dsimp only [St.put]
 refine aops_n rfl (n_indexAddr (k := 0) rfl rfl rfl (by first | rfl | omega) (map_get hx) (Enc.len _)) ?_
 refine yE rfl rfl rfl ?_
 try dsimp only [St.put]
 refine aops_e rfl (e_allocC rfl ?_)
 try dsimp only [St.put]
 refine aops_e rfl (e_store_all rfl rfl rfl zG rfl rfl (by rfl) ?_)
 refine yN ?_
 dsimp only [St.put]
 refine K8 _ ?_
 refine aw_commitD (i := 7) rfl zG (by first | exact List.cons_ne_nil _ _ | (simp; done) | (simp [putAt]; done)) ?_
 dsimp only
 refine yS fun _ K9 => ?_
 refine yR ?_
 try dsimp only [St.put]
 refine aops_s rfl (s_load_agg' rfl rfl rfl) ?_
 refine yE rfl rfl rfl ?_
 try dsimp only [St.put]
 refine aops_e rfl (e_call_f rfl rfl rfl (chartCheck_pureF t e hl) zG ?_)
 refine yA rfl rfl ?_
 refine yN ?_
 dsimp only [St.put]
 refine K9 _ ?_
 refine yS fun _ K10 => ?_
 refine yR ?_
 refine yM rfl rfl ?_
 refine aops_n rfl (n_bool (c := true) (n_neq rfl rfl rfl) (not_dec_t h0)) ?_
 refine yN ?_
 dsimp only [St.put]
 refine K10 _ ?_
 refine aw_cond rfl (fun _ => ?_) (fun h => by cases h)
 refine yS fun _ K11 => ?_
 refine yR ?_
 refine yM rfl rfl ?_
 refine yA rfl rfl ?_
 refine yA rfl rfl ?_
 refine yN ?_
 dsimp only [St.put]
 refine K11 _ ?_
 refine aw_ret ?_
 refine ends_2 rfl (by constructor) (by constructor) zN zS ?_ ?_
 ·rfl
 rfl
theorem sound1_no2 (t : TextD) (e : EditionD) (hl : e.ss.length ≤ 20) (h0 : checkEr t e = 0) (hf : (firstC e.ss).isSome = true) :
  PureF chkF Tryz.prog 52 [textC t, lst [e]] (.tup [.list [] .nil, .v (.int .i64 8)]) := by
 refine pureF_of_body Tryz.func52 rfl (fun m => .tup (low_cons nil_low (low_cons .v low_nil))) fun G nx hF => ?_
 simp only [Tryz.ntmps52, List.length_cons, List.length_nil, Nat.reduceAdd, Nat.reduceSub]
 refine aw_lt fun hlt => ?_
 dsimp only at hlt
 have hnx := hlt 0 _ hF
 obtain ⟨ht, hl12, he⟩ := checkEr_text h0
 have hx : ([e] : List EditionD)[0]? = some e := rfl
 refine yS fun _ K1 => ?_
 refine yR ?_
 try dsimp only [St.put]
 refine yB rfl rfl rfl ?_
 refine yA rfl rfl ?_
 refine yA rfl rfl ?_
 refine yN ?_
 dsimp only [St.put]
 refine K1 _ ?_
 refine yS fun _ K2 => ?_
 refine yS fun _ K3 => ?_
 refine yR ?_
 refine yM rfl rfl ?_
 refine aops_n rfl (n_len' rfl rfl (List.length_map _)) ?_
 refine yM rfl rfl ?_
 refine yN ?_
 dsimp only [St.put]
 refine K3 _ ?_
 refine aw_block ?_
 refine aw_rounds 2 ?_
 refine arounds_succ fun KR4_0 hKR4_0 => ?_
 refine yS fun _ K5 => ?_
 refine yR ?_
 refine aops_n rfl (n_bool (c := true) (n_lss rfl rfl rfl) (by rfl)) ?_
 refine yN ?_
 dsimp only [St.put]
 refine K5 _ ?_
 refine yS fun _ K6 => ?_
 refine aw_cond rfl (fun _ => ?_) (fun h => by cases h)
 refine aw_skip ?_
 refine K6 _ ?_
 refine yS fun _ K7 => ?_
 refine aw_block ?_
 refine yS fun _ K8 => ?_
 refine yR ?_
 try dsimp only [St.put]
 refine aops_n rfl (n_indexAddr (k := 0) rfl rfl rfl (by first | rfl | omega) (map_get hx) (Enc.len _)) ?_
 refine yE rfl rfl rfl ?_
 try dsimp only [St.put]
 refine aops_e rfl (e_allocC rfl ?_)
 try dsimp only [St.put]
 refine aops_e rfl (e_store_all rfl rfl rfl zG rfl rfl (by rfl) ?_)
 refine yN ?_
 dsimp only [St.put]
 refine K8 _ ?_
 refine aw_commitD (i := 7) rfl zG (by first | exact List.cons_ne_nil _ _ | (simp; done) | (simp [putAt]; done)) ?_
 dsimp only
 refine yS fun _ K9 => ?_
 refine yR ?_
 try dsimp only [St.put]
 refine aops_s rfl (s_load_agg' rfl rfl rfl) ?_
 refine yE rfl rfl rfl ?_
 try dsimp only [St.put]
 refine aops_e rfl (e_call_f rfl rfl rfl (chartCheck_pureF t e hl) zG ?_)
 refine yA rfl rfl ?_
 refine yN ?_
 dsimp only [St.put]
 refine K9 _ ?_
 refine yS fun _ K10 => ?_
 refine yR ?_
 refine yM rfl rfl ?_
 refine aops_n rfl (n_bool (c := false) (n_neq rfl rfl rfl) (not_dec_f h0)) ?_
 refine yN ?_
 dsimp only [St.put]
 refine K10 _ ?_
 refine aw_cond rfl (fun h => by cases h) (fun _ => ?_)
 refine aw_skip ?_
 refine K7 _ ?_
 refine yR ?_
 refine aops_n rfl (n_add rfl rfl rfl (by omega)) ?_
 refine yM rfl rfl ?_
 refine yN ?_
 dsimp only [St.put]
 refine hKR4_0 _ ?_
 refine arounds_succ fun KR4_1 hKR4_1 => ?_
 refine yS fun _ K11 => ?_
 refine yR ?_
 refine aops_n rfl (n_bool (c := false) (n_lss rfl rfl rfl) (by rfl)) ?_
 refine yN ?_
 dsimp only [St.put]
 refine K11 _ ?_
 refine yS fun _ K12 => ?_
 refine aw_cond rfl (fun h => by cases h) (fun _ => ?_)
 refine aw_exit ?_
 refine K2 _ ?_
 refine yS fun _ K13 => ?_
 refine yR ?_
 refine yA rfl rfl ?_
 refine yN ?_
 dsimp only [St.put]
 refine K13 _ ?_
 refine yS fun _ K14 => ?_
 refine yS fun _ K15 => ?_
 refine yR ?_
 refine yM rfl rfl ?_
 refine aops_n rfl (n_len' rfl rfl (List.length_map _)) ?_
 refine yM rfl rfl ?_
 refine yN ?_
 dsimp only [St.put]
 refine K15 _ ?_
 refine aw_block ?_
 refine aw_rounds 2 ?_
 refine arounds_succ fun KR16_0 hKR16_0 => ?_
 refine yS fun _ K17 => ?_
 refine yR ?_
 refine aops_n rfl (n_bool (c := true) (n_lss rfl rfl rfl) (by rfl)) ?_
 refine yN ?_
 dsimp only [St.put]
 refine K17 _ ?_
 refine yS fun _ K18 => ?_
 refine aw_cond rfl (fun _ => ?_) (fun h => by cases h)
 refine aw_skip ?_
 refine K18 _ ?_
 refine yS fun _ K19 => ?_
 refine aw_block ?_
 refine yS fun _ K20 => ?_
 refine yR ?_
 try dsimp only [St.put]
 refine aops_n rfl (n_indexAddr (k := 0) rfl rfl rfl (by first | rfl | omega) (map_get hx) (Enc.len _)) ?_
 refine yE rfl rfl rfl ?_
 try dsimp only [St.put]
 refine aops_e rfl (e_allocC rfl ?_)
 try dsimp only [St.put]
 refine aops_e rfl (e_store_all rfl rfl rfl zG rfl rfl (by rfl) ?_)
 refine yN ?_
 dsimp only [St.put]
 refine K20 _ ?_
 refine aw_commitD (i := 11) rfl zG (by first | exact List.cons_ne_nil _ _ | (simp; done) | (simp [putAt]; done)) ?_
 dsimp only
 refine yS fun _ K21 => ?_
 refine yR ?_
 try dsimp only [St.put]
 refine aops_s rfl (s_load_agg' rfl rfl rfl) ?_
 refine yE rfl rfl rfl ?_
 try dsimp only [St.put]
 refine aops_e rfl (e_call_namedX rfl rfl rfl (opened_pc t e hl12 he _ _) (fun y => ?_))
 refine yM rfl rfl ?_
 refine yX rfl rfl rfl rfl ?_
 refine yX rfl rfl rfl rfl ?_
 refine yX rfl rfl rfl rfl ?_
 refine yX rfl rfl rfl rfl ?_
 refine yA rfl rfl ?_
 refine yA rfl rfl ?_
 refine yA rfl rfl ?_
 refine yA rfl rfl ?_
 refine yN ?_
 dsimp only [St.put]
 refine K21 _ ?_
 refine yS fun _ K22 => ?_
 refine yS fun _ K23 => ?_
 refine yR ?_
 refine aops_n rfl (n_bool (c := true) (n_mv rfl (by constructor)) hf) ?_
 refine yN ?_
 dsimp only [St.put]
 refine K23 _ ?_
 refine aw_cond rfl (fun _ => ?_) (fun h => by cases h)
 refine yS fun _ K24 => ?_
 refine yR ?_
 refine yA rfl rfl ?_
 refine yA rfl rfl ?_
 refine yN ?_
 dsimp only [St.put]
 refine K24 _ ?_
 refine aw_ret ?_
 refine ends_2 rfl (by constructor) (by constructor) zN zS ?_ ?_
 ·rfl
 rfl
theorem sound1_no (t : TextD) (e : EditionD) (hl : e.ss.length ≤ 20) (h : soundEr t e ≠ 0) :
  PureF chkF Tryz.prog 52 [textC t, lst [e]] (.tup [.list [] .nil, .v (.int .i64 (soundEr t e))]) := by
 rcases soundEr_err h with ⟨h0, h1⟩ | ⟨h0, h1, h2⟩
 ·rw [h1]; exact sound1_no1 t e hl h0
 rw [h2]; exact sound1_no2 t e hl h0 h1
/-! ### Plain editions -/
theorem bookPlain_pc (t : TextD) (e : EditionD) (f : L2 → Option L2) (n m V : Nat) (ht : textB t = true) (hf : ∀ p v, f p = some v → -100000 ≤ v.2 ∧ v.2 ≤ 100000) (G : Nat → Option GObj) (nx : Nat) (hn : n < nx) (hm : m < nx) (hG : G n = some (gmap Tryz.prog 95 V (capp f))) :
  PC Tryz.prog 56 [.elem (bookC t e n m)] G nx fun r G' nx' => ∃ y : Nat, r = .agg [.v (.int .i64 e.id), .own (nx + 1 + 1) (plainS f (linesT t)).length (plainS f (linesT t)).length] ∧ G' = setG G (nx + 1 + 1) (.arr (plainS f (linesT t)).length y 28 5 (plainS f (linesT t)).length (flatC (plainS f (linesT t)))) ∧ nx' = nx + 1 + 1 + 1 := by
 refine pc_namedX_of_body (fun (y : Nat) => setG G (nx + 1 + 1) (.arr (plainS f (linesT t)).length y 28 5 (plainS f (linesT t)).length (flatC (plainS f (linesT t))))) (nx + 1 + 1 + 1) Tryz.func56 rfl (.agg (low_cons .v (low_cons (.own (show nx + 1 + 1 < nx + 1 + 1 + 1 by omega)) low_nil))) zN (fun hlt y => zH) ?_
 simp only [Tryz.ntmps56, List.length_cons, List.length_nil, Nat.reduceAdd, Nat.reduceSub]
 refine aw_lt fun hlt => ?_
 dsimp only at hlt
 refine yS fun _ K1 => ?_
 refine yR ?_
 try dsimp only [St.put]
 refine yB rfl rfl rfl ?_
 try dsimp only [St.put]
 refine aops_e rfl (e_allocC rfl ?_)
 refine yN ?_
 dsimp only [St.put]
 refine K1 _ ?_
 refine yS fun _ K2 => ?_
 refine yR ?_
 refine yL rfl rfl rfl ?_
 refine aops_n rfl (n_nilCheck rfl rfl) ?_
 refine yF rfl rfl rfl rfl ?_
 refine yF rfl rfl rfl rfl ?_
 refine yL rfl rfl rfl ?_
 refine aops_n rfl (n_build rfl rfl) ?_
 try dsimp only [St.put]
 refine aops_e rfl (e_allocC rfl ?_)
 try dsimp only [St.put]
 refine aops_e rfl (e_store_all rfl rfl rfl zG rfl rfl (by rfl) ?_)
 refine yN ?_
 dsimp only [St.put]
 refine K2 _ ?_
 refine aw_adopt_own_box (nx + 1) 1 _ _ 28 5 zG rfl (by decide) ?_
 dsimp only [List.set_cons_zero, List.set_cons_succ]
 refine yS fun _ K3 => ?_
 refine yS fun _ K4 => ?_
 refine yR ?_
 refine yL rfl rfl rfl ?_
 try dsimp only [St.put]
 refine aops_e rfl (e_call_one rfl rfl rfl (lines_pc t e _ _ _ _ (by dsimp only [St.put]; omega) (by dsimp only [St.put]; omega)) ?_)
 refine yN ?_
 dsimp only [St.put]
 refine K4 _ ?_
 refine aw_block ?_
 refine aw_wipe 19 ?_
 simp only [firsts, getA, Nat.reduceAdd, List.getD_cons_zero, List.getD_cons_succ, List.getD_nil, natBeq, Nat.reduceBEq, cond_true, cond_false]
 refine aw_forget ((setG (setG (setG G nx (.box 0 [.v (.int .i64 0), .list [] .nil])) (nx + 1) (.box ((([] : List StretchD)).length + 1) [.v (.int .i64 e.id), .own (nx + 1 + 1) (([] : List StretchD)).length (([] : List StretchD)).length])) (nx + 1 + 1) (.arr (([] : List StretchD)).length 0 28 5 (([] : List StretchD)).length (flatC (([] : List StretchD)))))) zX ?_
 dsimp only
 refine aw_rangeFuncX (clL) [19, 20] (fun zs => (setG (setG (setG G nx (.box 0 [.v (.int .i64 0), .list [] .nil])) (nx + 1) (.box (((plainP f (zs.map (·.1))).1).length + 1) [.v (.int .i64 e.id), .own (nx + 1 + 1) ((plainP f (zs.map (·.1))).1).length ((plainP f (zs.map (·.1))).1).length])) (nx + 1 + 1) (.arr ((plainP f (zs.map (·.1))).1).length ((plainP f (zs.map (·.1))).2) 28 5 ((plainP f (zs.map (·.1))).1).length (flatC ((plainP f (zs.map (·.1))).1))))) (fun _ _ (_ : Unit) => False) (fun _ => fun _ => none) (fun x => [(20, .v x.2), (19, .agg [.v (.int .i64 x.1.1), .v (.int .i64 x.1.2)])]) (lines_iter t e n m) rfl rfl (fun _ => rfl) (fun xs hX => hX.cl) ?_ ?_ ?_ (fun _ _ _ h => h.elim) (fun xs hX lr pre x hx hlen hpre => ?_) (fun _ _ _ _ _ _ h => h.elim) (fun xs hX => ?_)
 ·intro pre x
  rfl
 ·exact zX
 ·intro zs
  exact zH
 ·have hxl : x.1 ∈ linesT t := hX.fst ▸ List.mem_map_of_mem hx
  have hxb := linesT_bd ht hxl
  have hlen' := linesT_len ht
  rw [← hX.fst, List.length_map] at hlen'
  have hol := plainS_len f (pre.map (·.1))
  rw [List.length_map] at hol
  have hob := plainS_bd hf (l := pre.map (·.1)) fun p hp => by
   obtain ⟨z, hz, rfl⟩ := List.mem_map.1 hp
   have := linesT_bd ht (show z.1 ∈ linesT t from hX.fst ▸ List.mem_map_of_mem (hpre z hz))
   omega
  rw [← plainP_fst] at hol hob
  obtain ⟨⟨out, w⟩, hout⟩ : ∃ o, plainP f (pre.map (·.1)) = o := ⟨_, rfl⟩
  rw [hout] at hol hob ⊢
  dsimp only at hol hob ⊢
  have hsnoc : plainP f ((pre ++ [x]).map (·.1)) = stepP f (out, w) x.1 := by rw [List.map_append, List.map_cons, List.map_nil, plainP_snoc, hout]
  refine yR ?_
  try dsimp only [St.put]
  refine aops_e rfl (e_allocC rfl ?_)
  try dsimp only [St.put]
  refine aops_e rfl (e_store_all rfl rfl rfl zG rfl rfl (by rfl) ?_)
  refine yN ?_
  dsimp only [St.put]
  show AW _ _ _ _ _
  refine aw_commitD (i := 4) rfl zG (by first | exact List.cons_ne_nil _ _ | (simp; done) | (simp [putAt]; done)) ?_
  dsimp only
  refine aw_block ?_
  refine yS fun _ K5 => ?_
  obtain ⟨v1, hv1⟩ : ∃ v : L2, (capp f x.1).getD (constC (.agg #[.int .i64 0, .int .i64 0])) = .agg [.v (.int .i64 v.1), .v (.int .i64 v.2)] := capp_get _ _
  obtain ⟨b1, hb1⟩ : ∃ b, (capp f x.1).isSome = b := ⟨_, rfl⟩
  refine aw_draw [(0, none), (1, none), (2, none), (3, none), (4, none), (5, none), (6, none), (7, none), (8, none), (9, none), (10, none), (11, none)] (fun i => [10].contains i) (fun i => [9, 10].contains i) (fun i => [1, 2, 6, 7, 8, 11].contains i) [n] (by kernel_rfl) (by kernel_rfl) ?_
  try dsimp only [St.put]
  refine acan1_s rfl rfl rfl rfl (s_load rfl rfl) ?_
  refine acan1_n rfl rfl rfl rfl (n_nilCheck rfl rfl) ?_
  refine acan1_n rfl rfl rfl rfl (n_fieldAddr' rfl rfl rfl) ?_
  try dsimp only [St.put]
  refine acan1_s rfl rfl rfl rfl (s_load rfl rfl) ?_
  try dsimp only [St.put]
  refine acan1_s rfl rfl rfl rfl (s_load_agg' rfl rfl rfl) ?_
  try dsimp only [St.put]
  refine acan1_s rfl rfl rfl rfl (s_lookupOk' x.1 rfl rfl zG (by simp) rfl hv1 hb1) ?_
  refine xM rfl rfl rfl rfl rfl ?_
  refine acan1_n rfl rfl rfl rfl (n_extract rfl rfl rfl) ?_
  refine acan1_n rfl rfl rfl rfl (n_extract rfl rfl rfl) ?_
  refine acan1_two ?_
  try dsimp only [St.put]
  refine acan2_e rfl rfl rfl (e_allocC rfl ⟨zD, ?_⟩)
  try dsimp only [St.put]
  refine acan2_late rfl rfl rfl rfl (e_store_all rfl rfl rfl zG rfl rfl (by rfl) ?_)
  refine acan2_n rfl rfl rfl rfl (n_as rfl (by constructor)) ?_
  refine acan2_nil ?_
  dsimp only [St.put]
  refine K5 _ ?_
  refine aw_commitD (i := 5) rfl zG (by first | exact List.cons_ne_nil _ _ | (simp; done) | (simp [putAt]; done)) ?_
  dsimp only
  refine yS fun _ K6 => ?_
  refine yS fun _ K7 => ?_
  refine yR ?_
  refine yM rfl rfl ?_
  refine aops_n rfl (n_not rfl rfl) ?_
  refine yN ?_
  dsimp only [St.put]
  refine K7 _ ?_
  refine aw_cond rfl (fun hc => ?_) (fun hc => ?_)
  ·have hno : f x.1 = none := by
    have : b1 = false := by simpa using hc
    rw [this] at hb1
    exact capp_none.1 (by simpa using hb1)
   refine aw_exit ?_
   unfold ABlock RPost
   dsimp only
   rw [hsnoc]
   first
   | (rw [stepP_none hno]
      exact zX)
   | (rw [hnew]
      simp only [List.length_append]
      exact zX)
   | (rw [hon]
      simp only [List.length_set]
      exact zX)
  have hys : f x.1 = some v1 := by
   have : b1 = true := by simpa using hc
   rw [this] at hb1
   obtain ⟨v, hv⟩ : ∃ v, f x.1 = some v := by
    cases h : f x.1 with
    | none => simp [capp, h] at hb1
    | some v => exact ⟨v, rfl⟩
   unfold capp at hv1
   rw [hv] at hv1
   simp only [Option.map_some, Option.getD_some, pairC, C.agg.injEq, List.cons.injEq, C.v.injEq, Value.int.injEq, true_and, and_true] at hv1
   rw [hv, Prod.ext hv1.1 hv1.2]
  have hvb := hf _ _ hys
  refine aw_skip ?_
  refine K6 _ ?_
  refine yS fun _ K8 => ?_
  refine yR ?_
  try dsimp only [St.put]
  refine aops_n rfl (n_indexAddr_aelem (k := 0) rfl rfl rfl (by first | exact rfl | omega) (by first | decide | omega) rfl) ?_
  refine yL rfl rfl rfl ?_
  try dsimp only [St.put]
  refine aops_n rfl (n_indexAddr_aelem (k := 1) rfl rfl rfl (by first | exact rfl | omega) (by first | decide | omega) rfl) ?_
  refine yL rfl rfl rfl ?_
  try dsimp only [St.put]
  refine aops_n rfl (n_indexAddr_aelem (k := 1) rfl rfl rfl (by first | exact rfl | omega) (by first | decide | omega) rfl) ?_
  refine yL rfl rfl rfl ?_
  refine aops_n rfl (n_add rfl rfl rfl (by omega)) ?_
  try dsimp only [St.put]
  refine aops_n rfl (n_indexAddr_aelem (k := 0) rfl rfl rfl (by first | exact rfl | omega) (by first | decide | omega) rfl) ?_
  refine yL rfl rfl rfl ?_
  try dsimp only [St.put]
  refine aops_n rfl (n_indexAddr_aelem (k := 1) rfl rfl rfl (by first | exact rfl | omega) (by first | decide | omega) rfl) ?_
  refine yL rfl rfl rfl ?_
  refine aops_n rfl (n_build rfl rfl) ?_
  try dsimp only [St.put]
  refine aops_e rfl (e_allocC rfl ?_)
  try dsimp only [St.put]
  refine aops_e rfl (e_store_all rfl rfl rfl zG rfl rfl (by rfl) ?_)
  refine yN ?_
  dsimp only [St.put]
  refine K8 _ ?_
  refine aw_commitD (i := 7) rfl zG (by first | exact List.cons_ne_nil _ _ | (simp; done) | (simp [putAt]; done)) ?_
  dsimp only
  refine yS fun _ K9 => ?_
  refine yS fun _ K10 => ?_
  refine yR ?_
  refine aops_n rfl (n_fieldAddr_box rfl rfl) ?_
  try dsimp only [St.put]
  refine aops_s rfl (s_load_box rfl rfl zG trivial (by first | rfl | assumption)) ?_
  refine aops_n rfl (n_len_own rfl rfl) ?_
  refine aops_n rfl (n_sub rfl rfl rfl (by omega)) ?_
  refine yA rfl rfl ?_
  refine yN ?_
  dsimp only [St.put]
  refine K10 _ ?_
  refine yS fun _ K11 => ?_
  refine yR ?_
  refine yM rfl rfl ?_
  refine aops_n rfl (n_geq rfl rfl rfl) ?_
  refine yN ?_
  dsimp only [St.put]
  refine K11 _ ?_
  refine aw_cond rfl (fun hc => ?_) (fun hc => ?_)
  ·replace hc := of_decide_eq_true hc
   obtain ⟨s, hz⟩ : ∃ x, out[out.length - 1]? = some x := some_of_lt (by omega)
   obtain ⟨c1, c2, c3⟩ := hob s (mem_of_get hz)
   have hsb := hob s (mem_of_get hz)
   refine yS fun _ K12 => ?_
   refine yR ?_
   refine aops_n rfl (n_fieldAddr_box rfl rfl) ?_
   try dsimp only [St.put]
   refine aops_s rfl (s_load_box rfl rfl zG trivial (by first | rfl | assumption)) ?_
   refine yM rfl rfl ?_
   try dsimp only [St.put]
   refine aops_n rfl (n_indexAddr_own (k := (out.length - 1)) rfl rfl zG rfl (by first | exact rfl | omega) (by first | omega | (simp; omega))) ?_
   try dsimp only [St.put]
   refine aops_s rfl (s_load_own_row (α := StretchD) (k := out.length - 1) (y := s) rfl rfl zG trivial rfl hz rfl (by decide)) ?_
   try dsimp only [St.put]
   refine aops_e rfl (e_allocC rfl ?_)
   try dsimp only [St.put]
   refine aops_e rfl (e_store_all rfl rfl rfl zG rfl rfl (by rfl) ?_)
   refine yN ?_
   dsimp only [St.put]
   refine K12 _ ?_
   refine yS fun _ K13 => ?_
   refine yR ?_
   refine aops_n rfl (n_fieldAddr_box rfl rfl) ?_
   try dsimp only [St.put]
   refine aops_s rfl (s_load_box rfl rfl zG trivial (by first | rfl | assumption)) ?_
   refine aops_n rfl (n_add rfl rfl rfl (by omega)) ?_
   refine aops_n rfl (n_fieldAddr_box rfl rfl) ?_
   try dsimp only [St.put]
   refine aops_e rfl (e_store_one rfl rfl rfl zG (by constructor) rfl (by first | (simp; done) | (simp; omega) | exact Nat.lt_of_lt_of_eq (by decide) (Enc.len _).symm) ?_)
   refine yN ?_
   dsimp only [St.put]
   refine K13 _ ?_
   refine yS fun _ K14 => ?_
   refine yR ?_
   refine yF rfl rfl rfl rfl ?_
   refine yL rfl rfl rfl ?_
   refine aops_n rfl (n_fieldAddr_box rfl rfl) ?_
   try dsimp only [St.put]
   refine aops_s rfl (s_load_box rfl rfl zG trivial (by first | rfl | assumption)) ?_
   refine aops_n rfl (n_sub rfl rfl rfl (by omega)) ?_
   refine yA rfl rfl ?_
   refine yN ?_
   dsimp only [St.put]
   refine K14 _ ?_
   refine yS fun _ K15 => ?_
   refine yR ?_
   try dsimp only [St.put]
   refine aops_s rfl (s_load_box_all rfl rfl zG trivial (by rfl)) ?_
   refine yF rfl rfl rfl rfl ?_
   refine yL rfl rfl rfl ?_
   refine aops_n rfl (n_fieldAddr_box rfl rfl) ?_
   try dsimp only [St.put]
   refine aops_s rfl (s_load_box rfl rfl zG trivial (by first | rfl | assumption)) ?_
   refine yF rfl rfl rfl rfl ?_
   refine yL rfl rfl rfl ?_
   refine yF rfl rfl rfl rfl ?_
   refine yL rfl rfl rfl ?_
   refine yF rfl rfl rfl rfl ?_
   refine yL rfl rfl rfl ?_
   refine yM rfl rfl ?_
   refine aops_n rfl (n_sub rfl rfl rfl (by omega)) ?_
   refine aops_n rfl (n_add rfl rfl rfl (by omega)) ?_
   refine aops_n rfl (n_build rfl rfl) ?_
   refine aops_n rfl (n_agg_eql (x := { s with tt := s.tt + 1 }) (y := ⟨x.1.1, s.fr, x.1.2 + 1, v1.1, v1.2 - (x.1.2 + 1 - s.fr) + 1⟩) rfl rfl rfl) ?_
   refine yN ?_
   dsimp only [St.put]
   refine K15 _ ?_
   refine aw_cond rfl (fun hc => ?_) (fun hc => ?_)
   ·have hg : goesOn s x.1 v1 = true := (goesOn_eq hsb).symm.trans hc
    have hon := stepP_on (w := w) hys hz hg
    refine yS fun _ K16 => ?_
    refine yR ?_
    refine aops_n rfl (n_fieldAddr_box rfl rfl) ?_
    try dsimp only [St.put]
    refine aops_s rfl (s_load_box rfl rfl zG trivial (by first | rfl | assumption)) ?_
    refine yM rfl rfl ?_
    try dsimp only [St.put]
    refine aops_s rfl (s_load_box_all rfl rfl zG trivial (by rfl)) ?_
    try dsimp only [St.put]
    refine aops_n rfl (n_indexAddr_own (k := (out.length - 1)) rfl rfl zG rfl (by first | exact rfl | omega) (by first | omega | (simp; omega))) ?_
    try dsimp only [St.put]
    refine aops_e rfl (e_store_ownrow (k := out.length - 1) (z := s) (z' := { s with tt := s.tt + 1 }) rfl rfl rfl zG rfl rfl hz rfl (by decide) ?_)
    refine yN ?_
    dsimp only [St.put]
    refine K16 _ ?_
    refine aw_exit ?_
    unfold ABlock RPost
    dsimp only
    rw [hsnoc]
    first
    | (rw [stepP_none hno]
       exact zX)
    | (rw [hnew]
       simp only [List.length_append]
       exact zX)
    | (rw [hon]
       simp only [List.length_set]
       exact zX)
   have hg : goesOn s x.1 v1 = false := (goesOn_eq hsb).symm.trans hc
   have hnew := stepP_new (w := w) hys hz hg
   refine aw_skip ?_
   refine K9 _ ?_
   refine yR ?_
   refine aops_n rfl (n_fieldAddr_box rfl rfl) ?_
   try dsimp only [St.put]
   refine aops_s rfl (s_load_box rfl rfl zG trivial (by first | rfl | assumption)) ?_
   try dsimp only [St.put]
   refine aops_s rfl (s_load_agg' rfl rfl rfl) ?_
   try dsimp only [St.put]
   refine aops_e rfl (e_buildSlice rfl rfl rfl (by decide) (by decide) zR (by decide) ?_)
   try dsimp only [St.put]
   refine aops_e rfl (e_append_own (⟨x.1.1, x.1.2, x.1.2 + 1, v1.1, v1.2⟩ : StretchD) rfl rfl zG rfl rfl rfl rfl zA ?_ zA)
   refine aops_n rfl (n_fieldAddr_box rfl rfl) ?_
   try dsimp only [St.put]
   refine aops_e rfl (e_store_one rfl rfl rfl zG (by constructor) rfl (by first | (simp; done) | (simp; omega) | exact Nat.lt_of_lt_of_eq (by decide) (Enc.len _).symm) ?_)
   refine yN ?_
   dsimp only [St.put]
   unfold ABlock RPost
   dsimp only
   rw [hsnoc]
   first
   | (rw [stepP_none hno]
      exact zX)
   | (rw [hnew]
      simp only [List.length_append]
      exact zX)
   | (rw [hon]
      simp only [List.length_set]
      exact zX)
  replace hc := of_decide_eq_false hc
  have hnew := stepP_nil (w := w) hys (List.eq_nil_of_length_eq_zero (show out.length = 0 by omega))
  refine aw_skip ?_
  refine K9 _ ?_
  refine yR ?_
  refine aops_n rfl (n_fieldAddr_box rfl rfl) ?_
  try dsimp only [St.put]
  refine aops_s rfl (s_load_box rfl rfl zG trivial (by first | rfl | assumption)) ?_
  try dsimp only [St.put]
  refine aops_s rfl (s_load_agg' rfl rfl rfl) ?_
  try dsimp only [St.put]
  refine aops_e rfl (e_buildSlice rfl rfl rfl (by decide) (by decide) zR (by decide) ?_)
  try dsimp only [St.put]
  refine aops_e rfl (e_append_own (⟨x.1.1, x.1.2, x.1.2 + 1, v1.1, v1.2⟩ : StretchD) rfl rfl zG rfl rfl rfl rfl zA ?_ zA)
  refine aops_n rfl (n_fieldAddr_box rfl rfl) ?_
  try dsimp only [St.put]
  refine aops_e rfl (e_store_one rfl rfl rfl zG (by constructor) rfl (by first | (simp; done) | (simp; omega) | exact Nat.lt_of_lt_of_eq (by decide) (Enc.len _).symm) ?_)
  refine yN ?_
  dsimp only [St.put]
  unfold ABlock RPost
  dsimp only
  rw [hsnoc]
  first
  | (rw [stepP_none hno]
     exact zX)
  | (rw [hnew]
     simp only [List.length_append]
     exact zX)
  | (rw [hon]
     simp only [List.length_set]
     exact zX)
 dsimp only
 rw [hX.fst, plainP_fst]
 refine K3 _ ?_
 refine yS fun _ K17 => ?_
 refine yR ?_
 try dsimp only [St.put]
 refine aops_s rfl (s_load_box_all rfl rfl zG trivial (by rfl)) ?_
 try dsimp only [St.put]
 refine aops_e rfl (e_store_all rfl rfl rfl zG rfl rfl (by rfl) ?_)
 refine yN ?_
 dsimp only [St.put]
 refine K17 _ ?_
 refine aw_ret ?_
 refine ⟨(plainP f (linesT t)).2, ?_⟩
 refine ends_v1 rfl (rv_box rfl zG (by rfl) (by first | exact List.cons_ne_nil _ _ | (simp; done) | (simp [putAt]; done)) rfl) zN zX ?_
 exact zW
end Go.Proofs.YtjjklfgpffgnfabGreatDoor
