/-
 Contracts of the program's functions of charts: two sound editions; references of one in the other one.
-/
import Derived.Test.YtjjklfgpffgnfabGreatDoorEdLead
namespace Go.Proofs.YtjjklfgpffgnfabGreatDoor
set_option maxRecDepth 10000
open Go.RowKit Go.AB
open Go.AB.Enc (cells)
open Go.PB (Chap TextD PlaceD ReadingD CopyD WayD)
theorem book_low (t : TextD) (e : EditionD) {n m k : Nat} (hn : n < k) (hm : m < k) : (C.elem (bookC t e n m)).low k :=
 .elem (low_cons .v (low_cons (lst_low _ _) (low_cons (lst_low _ _) (low_cons (.map hn) (low_cons (.map hm) low_nil)))))
theorem books_low {t : TextD} {e f : EditionD} (nx : Nat) : (C.list [[(.elem (bookC t e (nx + 1 + 1 + 1 + 1) (nx + 1 + 1 + 1 + 1 + 1)))], [(.elem (bookC t f (nx + 1 + 1 + 1 + 1 + 1 + 1 + 1) (nx + 1 + 1 + 1 + 1 + 1 + 1 + 1 + 1)))]] .none).low ((nx + 1 + 1 + 1 + 1 + 1 + 1 + 1 + 1 + 1)) :=
 .list (by
  intro r hr c hc
  simp only [List.mem_cons, List.not_mem_nil, or_false] at hr
  rcases hr with rfl | rfl <;> (rw [List.mem_singleton] at hc; subst hc; exact book_low _ _ (by omega) (by omega))) (by simp)
theorem two_low {es fs : List StretchD} {G : Nat → Option GObj} {nx : Nat} (y : (Nat × Nat) × (Nat × Nat)) : ∀ n o, (setG (setG (setG (setG G (nx + 1 + 1 + 1 + 1) (gmap Tryz.prog 95 y.1.1 (capp (asOf es)))) (nx + 1 + 1 + 1 + 1 + 1) (gmap Tryz.prog 95 y.1.2 (capp (backOf es)))) (nx + 1 + 1 + 1 + 1 + 1 + 1 + 1) (gmap Tryz.prog 95 y.2.1 (capp (asOf fs)))) (nx + 1 + 1 + 1 + 1 + 1 + 1 + 1 + 1) (gmap Tryz.prog 95 y.2.2 (capp (backOf fs)))) n = some o → G n = some o ∨ (n < (nx + 1 + 1 + 1 + 1 + 1 + 1 + 1 + 1 + 1) ∧ o.low ((nx + 1 + 1 + 1 + 1 + 1 + 1 + 1 + 1 + 1))) :=
 lowG_set (lowG_set (lowG_set (lowG_set (lowG_base fun n o h => h) (by omega) (gmap_low (capp_low _ _))) (by omega) (gmap_low (capp_low _ _))) (by omega) (gmap_low (capp_low _ _))) (by omega) (gmap_low (capp_low _ _))
theorem sound2_ok (t : TextD) (e f : EditionD) (hl : e.ss.length ≤ 20) (hlf : f.ss.length ≤ 20) (h : soundEr t e = 0) (hh : soundEr t f = 0) (G : Nat → Option GObj) (nx : Nat) (hF : G 0 = some chkF) :
  PC Tryz.prog 52 [textC t, lst [e, f]] G nx fun r G' nx' => ∃ y : (Nat × Nat) × (Nat × Nat), r = .tup [.list [[(.elem (bookC t e (nx + 1 + 1 + 1 + 1) (nx + 1 + 1 + 1 + 1 + 1)))], [(.elem (bookC t f (nx + 1 + 1 + 1 + 1 + 1 + 1 + 1) (nx + 1 + 1 + 1 + 1 + 1 + 1 + 1 + 1)))]] .none, .v (.int .i64 0)] ∧ G' = (setG (setG (setG (setG G (nx + 1 + 1 + 1 + 1) (gmap Tryz.prog 95 y.1.1 (capp (asOf e.ss)))) (nx + 1 + 1 + 1 + 1 + 1) (gmap Tryz.prog 95 y.1.2 (capp (backOf e.ss)))) (nx + 1 + 1 + 1 + 1 + 1 + 1 + 1) (gmap Tryz.prog 95 y.2.1 (capp (asOf f.ss)))) (nx + 1 + 1 + 1 + 1 + 1 + 1 + 1 + 1) (gmap Tryz.prog 95 y.2.2 (capp (backOf f.ss)))) ∧ nx' = (nx + 1 + 1 + 1 + 1 + 1 + 1 + 1 + 1 + 1) := by
 refine pc_namedX_of_body (fun (y : (Nat × Nat) × (Nat × Nat)) => (setG (setG (setG (setG G (nx + 1 + 1 + 1 + 1) (gmap Tryz.prog 95 y.1.1 (capp (asOf e.ss)))) (nx + 1 + 1 + 1 + 1 + 1) (gmap Tryz.prog 95 y.1.2 (capp (backOf e.ss)))) (nx + 1 + 1 + 1 + 1 + 1 + 1 + 1) (gmap Tryz.prog 95 y.2.1 (capp (asOf f.ss)))) (nx + 1 + 1 + 1 + 1 + 1 + 1 + 1 + 1) (gmap Tryz.prog 95 y.2.2 (capp (backOf f.ss))))) ((nx + 1 + 1 + 1 + 1 + 1 + 1 + 1 + 1 + 1)) Tryz.func52 rfl (.tup (low_cons (books_low _) (low_cons .v low_nil))) zN (fun hlt y => (by (repeat' (refine lowG_set ?_ (by (try dsimp only); omega) ?_)); all_goals (first | exact lowG_base zS | (repeat' (first | exact trivial | refine ⟨?_, ?_⟩ | exact .v | exact .any | refine .elem ?_ | exact lst_low _ _ | exact cells_low _ _ | exact val_low _ _ | exact data_low _ (by (try dsimp only); omega) | exact .box (by (try dsimp only); omega) | exact nil_low | exact low_nil | exact gmap_low (capp_low _ _) | refine set_low ?_ ?_ | exact .arr (by (try dsimp only); omega) | exact .own (by (try dsimp only); omega) | exact .map (by (try dsimp only); omega) | exact flatC_low _ | refine low_cons ?_ ?_ | exact lst_low _ _))))) ?_
 simp only [Tryz.ntmps52, List.length_cons, List.length_nil, Nat.reduceAdd, Nat.reduceSub]
 refine aw_lt fun hlt => ?_
 dsimp only at hlt
 have hnx := hlt 0 _ hF
 obtain ⟨h0, hf⟩ := soundEr_check h
 obtain ⟨ht, hl12, he⟩ := checkEr_text h0
 obtain ⟨hh0, hhf⟩ := soundEr_check hh
 obtain ⟨_, hhl12, hhe⟩ := checkEr_text hh0
 have hx : ([e, f] : List EditionD)[0]? = some e := rfl
 have hy : ([e, f] : List EditionD)[1]? = some f := rfl
 refine yS fun _ K1 => ?_
 refine yR ?_
 try dsimp only [St.put]
 refine yB rfl rfl rfl ?_
 refine yA rfl rfl ?_
 refine yA rfl rfl ?_
 refine yN ?_
 dsimp only [St.put]
 refine K1 _ ?_
 refine yS fun _ K2 => ?_
 refine yS fun _ K3 => ?_
 refine yR ?_
 refine yM rfl rfl ?_
 refine aops_n rfl (n_len' rfl rfl (List.length_map _)) ?_
 refine yM rfl rfl ?_
 refine yN ?_
 dsimp only [St.put]
 refine K3 _ ?_
 refine aw_block ?_
 refine aw_rounds 3 ?_
 refine arounds_succ fun KR4_0 hKR4_0 => ?_
 refine yS fun _ K5 => ?_
 refine yR ?_
 refine aops_n rfl (n_bool (c := true) (n_lss rfl rfl rfl) (by rfl)) ?_
 refine yN ?_
 dsimp only [St.put]
 refine K5 _ ?_
 refine yS fun _ K6 => ?_
 refine aw_cond rfl (fun _ => ?_) (fun h => by cases h)
 refine aw_skip ?_
 refine K6 _ ?_
 refine yS fun _ K7 => ?_
 refine aw_block ?_
 refine yS fun _ K8 => ?_
 refine yR ?_
 try dsimp only [St.put]
 refine aops_n rfl (n_indexAddr (k := 0) rfl rfl rfl (by first | rfl | omega) (map_get hx) (Enc.len _)) ?_
 refine yE rfl rfl rfl ?_
 try dsimp only [St.put]
 refine aops_e rfl (e_allocC rfl ?_)
 try dsimp only [St.put]
 refine aops_e rfl (e_store_all rfl rfl rfl zG rfl rfl (by rfl) ?_)
 refine yN ?_
 dsimp only [St.put]
 refine K8 _ ?_
 refine aw_commitD (i := 7) rfl zG (by first | exact List.cons_ne_nil _ _ | (simp; done) | (simp [putAt]; done)) ?_
 dsimp only
 refine yS fun _ K9 => ?_
 refine yR ?_
 try dsimp only [St.put]
 refine aops_s rfl (s_load_agg' rfl rfl rfl) ?_
 refine yE rfl rfl rfl ?_
 try dsimp only [St.put]
 refine aops_e rfl (e_call_f rfl rfl rfl (chartCheck_pureF t e hl) zG ?_)
 refine yA rfl rfl ?_
 refine yN ?_
 dsimp only [St.put]
 refine K9 _ ?_
 refine yS fun _ K10 => ?_
 refine yR ?_
 refine yM rfl rfl ?_
 refine aops_n rfl (n_bool (c := false) (n_neq rfl rfl rfl) (not_dec_f h0)) ?_
 refine yN ?_
 dsimp only [St.put]
 refine K10 _ ?_
 refine aw_cond rfl (fun h => by cases h) (fun _ => ?_)
 refine aw_skip ?_
 refine K7 _ ?_
 refine yR ?_
 refine aops_n rfl (n_add rfl rfl rfl (by omega)) ?_
 refine yM rfl rfl ?_
 refine yN ?_
 dsimp only [St.put]
 refine hKR4_0 _ ?_
 refine arounds_succ fun KR4_1 hKR4_1 => ?_
 refine yS fun _ K11 => ?_
 refine yR ?_
 refine aops_n rfl (n_bool (c := true) (n_lss rfl rfl rfl) (by rfl)) ?_
 refine yN ?_
 dsimp only [St.put]
 refine K11 _ ?_
 refine yS fun _ K12 => ?_
 refine aw_cond rfl (fun _ => ?_) (fun h => by cases h)
 refine aw_skip ?_
 refine K12 _ ?_
 refine yS fun _ K13 => ?_
 refine aw_block ?_
 refine yS fun _ K14 => ?_
 refine yR ?_
 try dsimp only [St.put]
 refine aops_n rfl (n_indexAddr (k := 1) rfl rfl rfl (by first | rfl | omega) (map_get hy) (Enc.len _)) ?_
 refine yE rfl rfl rfl ?_
 try dsimp only [St.put]
 refine aops_e rfl (e_allocC rfl ?_)
 try dsimp only [St.put]
 refine aops_e rfl (e_store_all rfl rfl rfl zG rfl rfl (by rfl) ?_)
 refine yN ?_
 dsimp only [St.put]
 refine K14 _ ?_
 refine aw_commitD (i := 7) rfl zG (by first | exact List.cons_ne_nil _ _ | (simp; done) | (simp [putAt]; done)) ?_
 dsimp only
 refine yS fun _ K15 => ?_
 refine yR ?_
 try dsimp only [St.put]
 refine aops_s rfl (s_load_agg' rfl rfl rfl) ?_
 refine yE rfl rfl rfl ?_
 try dsimp only [St.put]
 refine aops_e rfl (e_call_f rfl rfl rfl (chartCheck_pureF t f hlf) zG ?_)
 refine yA rfl rfl ?_
 refine yN ?_
 dsimp only [St.put]
 refine K15 _ ?_
 refine yS fun _ K16 => ?_
 refine yR ?_
 refine yM rfl rfl ?_
 refine aops_n rfl (n_bool (c := false) (n_neq rfl rfl rfl) (not_dec_f hh0)) ?_
 refine yN ?_
 dsimp only [St.put]
 refine K16 _ ?_
 refine aw_cond rfl (fun h => by cases h) (fun _ => ?_)
 refine aw_skip ?_
 refine K13 _ ?_
 refine yR ?_
 refine aops_n rfl (n_add rfl rfl rfl (by omega)) ?_
 refine yM rfl rfl ?_
 refine yN ?_
 dsimp only [St.put]
 refine hKR4_1 _ ?_
 refine arounds_succ fun KR4_2 hKR4_2 => ?_
 refine yS fun _ K17 => ?_
 refine yR ?_
 refine aops_n rfl (n_bool (c := false) (n_lss rfl rfl rfl) (by rfl)) ?_
 refine yN ?_
 dsimp only [St.put]
 refine K17 _ ?_
 refine yS fun _ K18 => ?_
 refine aw_cond rfl (fun h => by cases h) (fun _ => ?_)
 refine aw_exit ?_
 refine K2 _ ?_
 refine yS fun _ K19 => ?_
 refine yR ?_
 refine yA rfl rfl ?_
 refine yN ?_
 dsimp only [St.put]
 refine K19 _ ?_
 refine aw_adopt 9 84 1 rfl (by decide) ?_
 dsimp only [List.set_cons_zero, List.set_cons_succ]
 refine yS fun _ K20 => ?_
 refine yS fun _ K21 => ?_
 refine yR ?_
 refine yM rfl rfl ?_
 refine aops_n rfl (n_len' rfl rfl (List.length_map _)) ?_
 refine yM rfl rfl ?_
 refine yN ?_
 dsimp only [St.put]
 refine K21 _ ?_
 refine aw_block ?_
 refine aw_rounds 3 ?_
 refine arounds_succ fun KR22_0 hKR22_0 => ?_
 refine yS fun _ K23 => ?_
 refine yR ?_
 refine aops_n rfl (n_bool (c := true) (n_lss rfl rfl rfl) (by rfl)) ?_
 refine yN ?_
 dsimp only [St.put]
 refine K23 _ ?_
 refine yS fun _ K24 => ?_
 refine aw_cond rfl (fun _ => ?_) (fun h => by cases h)
 refine aw_skip ?_
 refine K24 _ ?_
 refine yS fun _ K25 => ?_
 refine aw_block ?_
 refine yS fun _ K26 => ?_
 refine yR ?_
 try dsimp only [St.put]
 refine aops_n rfl (n_indexAddr (k := 0) rfl rfl rfl (by first | rfl | omega) (map_get hx) (Enc.len _)) ?_
 refine yE rfl rfl rfl ?_
 try dsimp only [St.put]
 refine aops_e rfl (e_allocC rfl ?_)
 try dsimp only [St.put]
 refine aops_e rfl (e_store_all rfl rfl rfl zG rfl rfl (by rfl) ?_)
 refine yN ?_
 dsimp only [St.put]
 refine K26 _ ?_
 refine aw_commitD (i := 11) rfl zG (by first | exact List.cons_ne_nil _ _ | (simp; done) | (simp [putAt]; done)) ?_
 dsimp only
 refine yS fun _ K27 => ?_
 refine yR ?_
 try dsimp only [St.put]
 refine aops_s rfl (s_load_agg' rfl rfl rfl) ?_
 refine yE rfl rfl rfl ?_
 try dsimp only [St.put]
 refine aops_e rfl (e_call_namedX rfl rfl rfl (opened_pc t e hl12 he _ _) (fun y => ?_))
 refine yM rfl rfl ?_
 refine yX rfl rfl rfl rfl ?_
 refine yX rfl rfl rfl rfl ?_
 refine yX rfl rfl rfl rfl ?_
 refine yX rfl rfl rfl rfl ?_
 refine yA rfl rfl ?_
 refine yA rfl rfl ?_
 refine yA rfl rfl ?_
 refine yA rfl rfl ?_
 refine yN ?_
 dsimp only [St.put]
 refine K27 _ ?_
 refine yS fun _ K28 => ?_
 refine yS fun _ K29 => ?_
 refine yR ?_
 refine aops_n rfl (n_bool (c := false) (n_mv rfl (by constructor)) (by rw [hf]; rfl)) ?_
 refine yN ?_
 dsimp only [St.put]
 refine K29 _ ?_
 refine aw_cond rfl (fun h => by cases h) (fun _ => ?_)
 refine aw_skip ?_
 refine K28 _ ?_
 refine yR ?_
 refine yM rfl rfl ?_
 refine yM rfl rfl ?_
 try dsimp only [St.put]
 refine aops_e rfl (e_buildSlice rfl rfl rfl (by decide) (by decide) zR (by decide) ?_)
 try dsimp only [St.put]
 refine aops_e rfl (e_append_tip rfl rfl zG rfl zR zR (by first | (show 1 * _ ≤ _; decide) | (show 2 * _ ≤ _; decide)) (by first | (show 1 ≤ _; decide) | (show 2 ≤ _; decide)) ?_)
 refine yA rfl rfl ?_
 refine yN ?_
 dsimp only [St.put]
 refine K25 _ ?_
 refine yR ?_
 refine aops_n rfl (n_add rfl rfl rfl (by omega)) ?_
 refine yM rfl rfl ?_
 refine yN ?_
 dsimp only [St.put]
 refine hKR22_0 _ ?_
 refine arounds_succ fun KR22_1 hKR22_1 => ?_
 refine yS fun _ K30 => ?_
 refine yR ?_
 refine aops_n rfl (n_bool (c := true) (n_lss rfl rfl rfl) (by rfl)) ?_
 refine yN ?_
 dsimp only [St.put]
 refine K30 _ ?_
 refine yS fun _ K31 => ?_
 refine aw_cond rfl (fun _ => ?_) (fun h => by cases h)
 refine aw_skip ?_
 refine K31 _ ?_
 refine yS fun _ K32 => ?_
 refine aw_block ?_
 refine yS fun _ K33 => ?_
 refine yR ?_
 try dsimp only [St.put]
 refine aops_n rfl (n_indexAddr (k := 1) rfl rfl rfl (by first | rfl | omega) (map_get hy) (Enc.len _)) ?_
 refine yE rfl rfl rfl ?_
 try dsimp only [St.put]
 refine aops_e rfl (e_allocC rfl ?_)
 try dsimp only [St.put]
 refine aops_e rfl (e_store_all rfl rfl rfl zG rfl rfl (by rfl) ?_)
 refine yN ?_
 dsimp only [St.put]
 refine K33 _ ?_
 refine aw_commitD (i := 11) rfl zG (by first | exact List.cons_ne_nil _ _ | (simp; done) | (simp [putAt]; done)) ?_
 dsimp only
 refine yS fun _ K34 => ?_
 refine yR ?_
 try dsimp only [St.put]
 refine aops_s rfl (s_load_agg' rfl rfl rfl) ?_
 refine yE rfl rfl rfl ?_
 try dsimp only [St.put]
 refine aops_e rfl (e_call_namedX rfl rfl rfl (opened_pc t f hhl12 hhe _ _) (fun z => ?_))
 refine yM rfl rfl ?_
 refine yX rfl rfl rfl rfl ?_
 refine yX rfl rfl rfl rfl ?_
 refine yX rfl rfl rfl rfl ?_
 refine yX rfl rfl rfl rfl ?_
 refine yA rfl rfl ?_
 refine yA rfl rfl ?_
 refine yA rfl rfl ?_
 refine yA rfl rfl ?_
 refine yN ?_
 dsimp only [St.put]
 refine K34 _ ?_
 refine yS fun _ K35 => ?_
 refine yS fun _ K36 => ?_
 refine yR ?_
 refine aops_n rfl (n_bool (c := false) (n_mv rfl (by constructor)) (by rw [hhf]; rfl)) ?_
 refine yN ?_
 dsimp only [St.put]
 refine K36 _ ?_
 refine aw_cond rfl (fun h => by cases h) (fun _ => ?_)
 refine aw_skip ?_
 refine K35 _ ?_
 refine yR ?_
 refine yM rfl rfl ?_
 refine yM rfl rfl ?_
 try dsimp only [St.put]
 refine aops_e rfl (e_buildSlice rfl rfl rfl (by decide) (by decide) zR (by decide) ?_)
 try dsimp only [St.put]
 refine aops_e rfl (e_append_tip rfl rfl zG rfl zR zR (by first | (show 1 * _ ≤ _; decide) | (show 2 * _ ≤ _; decide)) (by first | (show 1 ≤ _; decide) | (show 2 ≤ _; decide)) ?_)
 refine yA rfl rfl ?_
 refine yN ?_
 dsimp only [St.put]
 refine K32 _ ?_
 refine yR ?_
 refine aops_n rfl (n_add rfl rfl rfl (by omega)) ?_
 refine yM rfl rfl ?_
 refine yN ?_
 dsimp only [St.put]
 refine hKR22_1 _ ?_
 refine arounds_succ fun KR22_2 hKR22_2 => ?_
 refine yS fun _ K37 => ?_
 refine yR ?_
 refine aops_n rfl (n_bool (c := false) (n_lss rfl rfl rfl) (by rfl)) ?_
 refine yN ?_
 dsimp only [St.put]
 refine K37 _ ?_
 refine yS fun _ K38 => ?_
 refine aw_cond rfl (fun h => by cases h) (fun _ => ?_)
 refine aw_exit ?_
 refine K20 _ ?_
 refine yS fun _ K39 => ?_
 refine yR ?_
 refine yM rfl rfl ?_
 refine yA rfl rfl ?_
 refine yA rfl rfl ?_
 refine yN ?_
 dsimp only [St.put]
 refine K39 _ ?_
 refine aw_ret ?_
 refine ⟨(y, z), ?_⟩
 refine ends_v2 rfl (rv_tmp (by constructor)) (rv_tmp (by constructor)) zN zX ?_ ?_
 ·exact zW
 exact zW
theorem sound2_no1 (t : TextD) (e f : EditionD) (hl : e.ss.length ≤ 20) (h0 : checkEr t e ≠ 0) :
  PureF chkF Tryz.prog 52 [textC t, lst [e, f]] (.tup [.list [] .nil, .v (.int .i64 (checkEr t e))]) := by
 refine pureF_of_body Tryz.func52 rfl (fun m => .tup (low_cons nil_low (low_cons .v low_nil))) fun G nx hF => ?_
 simp only [Tryz.ntmps52, List.length_cons, List.length_nil, Nat.reduceAdd, Nat.reduceSub]
 refine aw_lt fun hlt => ?_
 dsimp only at hlt
 have hnx := hlt 0 _ hF
 have hx : ([e, f] : List EditionD)[0]? = some e := rfl
 refine yS fun _ K1 => ?_
 refine yR ?_
 try dsimp only [St.put]
 refine yB rfl rfl rfl ?_
 refine yA rfl rfl ?_
 refine yA rfl rfl ?_
 refine yN ?_
 dsimp only [St.put]
 refine K1 _ ?_
 refine yS fun _ K2 => ?_
 refine yS fun _ K3 => ?_
 refine yR ?_
 refine yM rfl rfl ?_
 refine aops_n rfl (n_len' rfl rfl (List.length_map _)) ?_
 refine yM rfl rfl ?_
 refine yN ?_
 dsimp only [St.put]
 refine K3 _ ?_
 refine aw_block ?_
 refine aw_rounds 2 ?_
 refine arounds_succ fun KR4_0 hKR4_0 => ?_
 refine yS fun _ K5 => ?_
 refine yR ?_
 refine aops_n rfl (n_bool (c := true) (n_lss rfl rfl rfl) (by rfl)) ?_
 refine yN ?_
 dsimp only [St.put]
 refine K5 _ ?_
 refine yS fun _ K6 => ?_
 refine aw_cond rfl (fun _ => ?_) (fun h => by cases h)
 refine aw_skip ?_
 refine K6 _ ?_
 refine yS fun _ K7 => ?_
 refine aw_block ?_
 refine yS fun _ K8 => ?_
 refine yR ?_
 try dsimp only [St.put]
 refine aops_n rfl (n_indexAddr (k := 0) rfl rfl rfl (by first | rfl | omega) (map_get hx) (Enc.len _)) ?_
 refine yE rfl rfl rfl ?_
 try dsimp only [St.put]
 refine aops_e rfl (e_allocC rfl ?_)
 try dsimp only [St.put]
 refine aops_e rfl (e_store_all rfl rfl rfl zG rfl rfl (by rfl) ?_)
 refine yN ?_
 dsimp only [St.put]
 refine K8 _ ?_
 refine aw_commitD (i := 7) rfl zG (by first | exact List.cons_ne_nil _ _ | (simp; done) | (simp [putAt]; done)) ?_
 dsimp only
 refine yS fun _ K9 => ?_
 refine yR ?_
 try dsimp only [St.put]
 refine aops_s rfl (s_load_agg' rfl rfl rfl) ?_
 refine yE rfl rfl rfl ?_
 try dsimp only [St.put]
 refine aops_e rfl (e_call_f rfl rfl rfl (chartCheck_pureF t e hl) zG ?_)
 refine yA rfl rfl ?_
 refine yN ?_
 dsimp only [St.put]
 refine K9 _ ?_
 refine yS fun _ K10 => ?_
 refine yR ?_
 refine yM rfl rfl ?_
 refine aops_n rfl (n_bool (c := true) (n_neq rfl rfl rfl) (not_dec_t h0)) ?_
 refine yN ?_
 dsimp only [St.put]
 refine K10 _ ?_
 refine aw_cond rfl (fun _ => ?_) (fun h => by cases h)
 refine yS fun _ K11 => ?_
 refine yR ?_
 refine yM rfl rfl ?_
 refine yA rfl rfl ?_
 refine yA rfl rfl ?_
 refine yN ?_
 dsimp only [St.put]
 refine K11 _ ?_
 refine aw_ret ?_
 refine ends_2 rfl (by constructor) (by constructor) zN zS ?_ ?_
 ·rfl
 rfl
theorem sound2_no2 (t : TextD) (e f : EditionD) (hl : e.ss.length ≤ 20) (hlf : f.ss.length ≤ 20) (h0 : checkEr t e = 0) (hh0 : checkEr t f ≠ 0) :
  PureF chkF Tryz.prog 52 [textC t, lst [e, f]] (.tup [.list [] .nil, .v (.int .i64 (checkEr t f))]) := by
 refine pureF_of_body Tryz.func52 rfl (fun m => .tup (low_cons nil_low (low_cons .v low_nil))) fun G nx hF => ?_
 simp only [Tryz.ntmps52, List.length_cons, List.length_nil, Nat.reduceAdd, Nat.reduceSub]
 refine aw_lt fun hlt => ?_
 dsimp only at hlt
 have hnx := hlt 0 _ hF
 have hx : ([e, f] : List EditionD)[0]? = some e := rfl
 have hy : ([e, f] : List EditionD)[1]? = some f := rfl
 refine yS fun _ K1 => ?_
 refine yR ?_
 try dsimp only [St.put]
 refine yB rfl rfl rfl ?_
 refine yA rfl rfl ?_
 refine yA rfl rfl ?_
 refine yN ?_
 dsimp only [St.put]
 refine K1 _ ?_
 refine yS fun _ K2 => ?_
 refine yS fun _ K3 => ?_
 refine yR ?_
 refine yM rfl rfl ?_
 refine aops_n rfl (n_len' rfl rfl (List.length_map _)) ?_
 refine yM rfl rfl ?_
 refine yN ?_
 dsimp only [St.put]
 refine K3 _ ?_
 refine aw_block ?_
 refine aw_rounds 2 ?_
 refine arounds_succ fun KR4_0 hKR4_0 => ?_
 refine yS fun _ K5 => ?_
 refine yR ?_
 (refine aops_n rfl (n_bool (c := true) (n_lss rfl rfl rfl) (by rfl)) ?_)
 refine yN ?_
 dsimp only [St.put]
 refine K5 _ ?_
 refine yS fun _ K6 => ?_
 refine aw_cond rfl (fun _ => ?_) (fun h => by cases h)
 refine aw_skip ?_
 refine K6 _ ?_
 refine yS fun _ K7 => ?_
 refine aw_block ?_
 refine yS fun _ K8 => ?_
 refine yR ?_
 try dsimp only [St.put]
 (refine aops_n rfl (n_indexAddr (k := 0) rfl rfl rfl (by first | rfl | omega) (map_get hx) (Enc.len _)) ?_)
 refine yE rfl rfl rfl ?_
 try dsimp only [St.put]
 refine aops_e rfl (e_allocC rfl ?_)
 try dsimp only [St.put]
 refine aops_e rfl (e_store_all rfl rfl rfl zG rfl rfl (by rfl) ?_)
 refine yN ?_
 dsimp only [St.put]
 refine K8 _ ?_
 refine aw_commitD (i := 7) rfl zG (by first | exact List.cons_ne_nil _ _ | (simp; done) | (simp [putAt]; done)) ?_
 dsimp only
 refine yS fun _ K9 => ?_
 refine yR ?_
 try dsimp only [St.put]
 refine aops_s rfl (s_load_agg' rfl rfl rfl) ?_
 refine yE rfl rfl rfl ?_
 try dsimp only [St.put]
 refine aops_e rfl (e_call_f rfl rfl rfl (chartCheck_pureF t e hl) zG ?_)
 refine yA rfl rfl ?_
 refine yN ?_
 dsimp only [St.put]
 refine K9 _ ?_
 refine yS fun _ K10 => ?_
 refine yR ?_
 refine yM rfl rfl ?_
 (refine aops_n rfl (n_bool (c := false) (n_neq rfl rfl rfl) ((not_dec_f h0))) ?_)
 refine yN ?_
 dsimp only [St.put]
 refine K10 _ ?_
 refine aw_cond rfl (fun h => by cases h) (fun _ => ?_)
 refine aw_skip ?_
 refine K7 _ ?_
 refine yR ?_
 refine aops_n rfl (n_add rfl rfl rfl (by omega)) ?_
 refine yM rfl rfl ?_
 refine yN ?_
 dsimp only [St.put]
 refine hKR4_0 _ ?_
 refine arounds_succ fun KR4_1 hKR4_1 => ?_
 refine yS fun _ K11 => ?_
 refine yR ?_
 (refine aops_n rfl (n_bool (c := true) (n_lss rfl rfl rfl) (by rfl)) ?_)
 refine yN ?_
 dsimp only [St.put]
 refine K11 _ ?_
 refine yS fun _ K12 => ?_
 refine aw_cond rfl (fun _ => ?_) (fun h => by cases h)
 refine aw_skip ?_
 refine K12 _ ?_
 refine yS fun _ K13 => ?_
 refine aw_block ?_
 refine yS fun _ K14 => ?_
 refine yR ?_
 try dsimp only [St.put]
 (refine aops_n rfl (n_indexAddr (k := 1) rfl rfl rfl (by first | rfl | omega) (map_get hy) (Enc.len _)) ?_)
 refine yE rfl rfl rfl ?_
 try dsimp only [St.put]
 refine aops_e rfl (e_allocC rfl ?_)
 try dsimp only [St.put]
 refine aops_e rfl (e_store_all rfl rfl rfl zG rfl rfl (by rfl) ?_)
 refine yN ?_
 dsimp only [St.put]
 refine K14 _ ?_
 refine aw_commitD (i := 7) rfl zG (by first | exact List.cons_ne_nil _ _ | (simp; done) | (simp [putAt]; done)) ?_
 dsimp only
 refine yS fun _ K15 => ?_
 refine yR ?_
 try dsimp only [St.put]
 refine aops_s rfl (s_load_agg' rfl rfl rfl) ?_
 refine yE rfl rfl rfl ?_
 try dsimp only [St.put]
 refine aops_e rfl (e_call_f rfl rfl rfl (chartCheck_pureF t f hlf) zG ?_)
 refine yA rfl rfl ?_
 refine yN ?_
 dsimp only [St.put]
 refine K15 _ ?_
 refine yS fun _ K16 => ?_
 refine yR ?_
 refine yM rfl rfl ?_
 (refine aops_n rfl (n_bool (c := true) (n_neq rfl rfl rfl) ((not_dec_t hh0))) ?_)
 refine yN ?_
 dsimp only [St.put]
 refine K16 _ ?_
 refine aw_cond rfl (fun _ => ?_) (fun h => by cases h)
 refine yS fun _ K17 => ?_
 refine yR ?_
 refine yM rfl rfl ?_
 refine yA rfl rfl ?_
 refine yA rfl rfl ?_
 refine yN ?_
 dsimp only [St.put]
 refine K17 _ ?_
 refine aw_ret ?_
 refine ends_2 rfl (by constructor) (by constructor) zN zS ?_ ?_
 ·rfl
 rfl
theorem sound2_no3 (t : TextD) (e f : EditionD) (hl : e.ss.length ≤ 20) (hlf : f.ss.length ≤ 20) (h0 : checkEr t e = 0) (hh0 : checkEr t f = 0) (hf : (firstC e.ss).isSome = true) :
  PureF chkF Tryz.prog 52 [textC t, lst [e, f]] (.tup [.list [] .nil, .v (.int .i64 8)]) := by
 refine pureF_of_body Tryz.func52 rfl (fun m => .tup (low_cons nil_low (low_cons .v low_nil))) fun G nx hF => ?_
 simp only [Tryz.ntmps52, List.length_cons, List.length_nil, Nat.reduceAdd, Nat.reduceSub]
 refine aw_lt fun hlt => ?_
 dsimp only at hlt
 have hnx := hlt 0 _ hF
 obtain ⟨ht, hl12, he⟩ := checkEr_text h0
 have hx : ([e, f] : List EditionD)[0]? = some e := rfl
 have hy : ([e, f] : List EditionD)[1]? = some f := rfl
 refine yS fun _ K1 => ?_
 refine yR ?_
 try dsimp only [St.put]
 refine yB rfl rfl rfl ?_
 refine yA rfl rfl ?_
 refine yA rfl rfl ?_
 refine yN ?_
 dsimp only [St.put]
 refine K1 _ ?_
 refine yS fun _ K2 => ?_
 refine yS fun _ K3 => ?_
 refine yR ?_
 refine yM rfl rfl ?_
 refine aops_n rfl (n_len' rfl rfl (List.length_map _)) ?_
 refine yM rfl rfl ?_
 refine yN ?_
 dsimp only [St.put]
 refine K3 _ ?_
 refine aw_block ?_
 refine aw_rounds 3 ?_
 refine arounds_succ fun KR4_0 hKR4_0 => ?_
 refine yS fun _ K5 => ?_
 refine yR ?_
 (refine aops_n rfl (n_bool (c := true) (n_lss rfl rfl rfl) (by rfl)) ?_)
 refine yN ?_
 dsimp only [St.put]
 refine K5 _ ?_
 refine yS fun _ K6 => ?_
 refine aw_cond rfl (fun _ => ?_) (fun h => by cases h)
 refine aw_skip ?_
 refine K6 _ ?_
 refine yS fun _ K7 => ?_
 refine aw_block ?_
 refine yS fun _ K8 => ?_
 refine yR ?_
 try dsimp only [St.put]
 (refine aops_n rfl (n_indexAddr (k := 0) rfl rfl rfl (by first | rfl | omega) (map_get hx) (Enc.len _)) ?_)
 refine yE rfl rfl rfl ?_
 try dsimp only [St.put]
 refine aops_e rfl (e_allocC rfl ?_)
 try dsimp only [St.put]
 refine aops_e rfl (e_store_all rfl rfl rfl zG rfl rfl (by rfl) ?_)
 refine yN ?_
 dsimp only [St.put]
 refine K8 _ ?_
 refine aw_commitD (i := 7) rfl zG (by first | exact List.cons_ne_nil _ _ | (simp; done) | (simp [putAt]; done)) ?_
 dsimp only
 refine yS fun _ K9 => ?_
 refine yR ?_
 try dsimp only [St.put]
 refine aops_s rfl (s_load_agg' rfl rfl rfl) ?_
 refine yE rfl rfl rfl ?_
 try dsimp only [St.put]
 refine aops_e rfl (e_call_f rfl rfl rfl (chartCheck_pureF t e hl) zG ?_)
 refine yA rfl rfl ?_
 refine yN ?_
 dsimp only [St.put]
 refine K9 _ ?_
 refine yS fun _ K10 => ?_
 refine yR ?_
 refine yM rfl rfl ?_
 (refine aops_n rfl (n_bool (c := false) (n_neq rfl rfl rfl) ((not_dec_f h0))) ?_)
 refine yN ?_
 dsimp only [St.put]
 refine K10 _ ?_
 refine aw_cond rfl (fun h => by cases h) (fun _ => ?_)
 refine aw_skip ?_
 refine K7 _ ?_
 refine yR ?_
 refine aops_n rfl (n_add rfl rfl rfl (by omega)) ?_
 refine yM rfl rfl ?_
 refine yN ?_
 dsimp only [St.put]
 refine hKR4_0 _ ?_
 refine arounds_succ fun KR4_1 hKR4_1 => ?_
 refine yS fun _ K11 => ?_
 refine yR ?_
 (refine aops_n rfl (n_bool (c := true) (n_lss rfl rfl rfl) (by rfl)) ?_)
 refine yN ?_
 dsimp only [St.put]
 refine K11 _ ?_
 refine yS fun _ K12 => ?_
 refine aw_cond rfl (fun _ => ?_) (fun h => by cases h)
 refine aw_skip ?_
 refine K12 _ ?_
 refine yS fun _ K13 => ?_
 refine aw_block ?_
 refine yS fun _ K14 => ?_
 refine yR ?_
 try dsimp only [St.put]
 (refine aops_n rfl (n_indexAddr (k := 1) rfl rfl rfl (by first | rfl | omega) (map_get hy) (Enc.len _)) ?_)
 refine yE rfl rfl rfl ?_
 try dsimp only [St.put]
 refine aops_e rfl (e_allocC rfl ?_)
 try dsimp only [St.put]
 refine aops_e rfl (e_store_all rfl rfl rfl zG rfl rfl (by rfl) ?_)
 refine yN ?_
 dsimp only [St.put]
 refine K14 _ ?_
 refine aw_commitD (i := 7) rfl zG (by first | exact List.cons_ne_nil _ _ | (simp; done) | (simp [putAt]; done)) ?_
 dsimp only
 refine yS fun _ K15 => ?_
 refine yR ?_
 try dsimp only [St.put]
 refine aops_s rfl (s_load_agg' rfl rfl rfl) ?_
 refine yE rfl rfl rfl ?_
 try dsimp only [St.put]
 refine aops_e rfl (e_call_f rfl rfl rfl (chartCheck_pureF t f hlf) zG ?_)
 refine yA rfl rfl ?_
 refine yN ?_
 dsimp only [St.put]
 refine K15 _ ?_
 refine yS fun _ K16 => ?_
 refine yR ?_
 refine yM rfl rfl ?_
 (refine aops_n rfl (n_bool (c := false) (n_neq rfl rfl rfl) ((not_dec_f hh0))) ?_)
 refine yN ?_
 dsimp only [St.put]
 refine K16 _ ?_
 refine aw_cond rfl (fun h => by cases h) (fun _ => ?_)
 refine aw_skip ?_
 refine K13 _ ?_
 refine yR ?_
 refine aops_n rfl (n_add rfl rfl rfl (by omega)) ?_
 refine yM rfl rfl ?_
 refine yN ?_
 dsimp only [St.put]
 refine hKR4_1 _ ?_
 refine arounds_succ fun KR4_2 hKR4_2 => ?_
 refine yS fun _ K17 => ?_
 refine yR ?_
 (refine aops_n rfl (n_bool (c := false) (n_lss rfl rfl rfl) (by rfl)) ?_)
 refine yN ?_
 dsimp only [St.put]
 refine K17 _ ?_
 refine yS fun _ K18 => ?_
 refine aw_cond rfl (fun h => by cases h) (fun _ => ?_)
 refine aw_exit ?_
 refine K2 _ ?_
 refine yS fun _ K19 => ?_
 refine yR ?_
 refine yA rfl rfl ?_
 refine yN ?_
 dsimp only [St.put]
 refine K19 _ ?_
 refine aw_adopt 9 84 1 rfl (by decide) ?_
 dsimp only [List.set_cons_zero, List.set_cons_succ]
 refine yS fun _ K20 => ?_
 refine yS fun _ K21 => ?_
 refine yR ?_
 refine yM rfl rfl ?_
 refine aops_n rfl (n_len' rfl rfl (List.length_map _)) ?_
 refine yM rfl rfl ?_
 refine yN ?_
 dsimp only [St.put]
 refine K21 _ ?_
 refine aw_block ?_
 refine aw_rounds 2 ?_
 refine arounds_succ fun KR22_0 hKR22_0 => ?_
 refine yS fun _ K23 => ?_
 refine yR ?_
 (refine aops_n rfl (n_bool (c := true) (n_lss rfl rfl rfl) (by rfl)) ?_)
 refine yN ?_
 dsimp only [St.put]
 refine K23 _ ?_
 refine yS fun _ K24 => ?_
 refine aw_cond rfl (fun _ => ?_) (fun h => by cases h)
 refine aw_skip ?_
 refine K24 _ ?_
 refine yS fun _ K25 => ?_
 refine aw_block ?_
 refine yS fun _ K26 => ?_
 refine yR ?_
 try dsimp only [St.put]
 (refine aops_n rfl (n_indexAddr (k := 0) rfl rfl rfl (by first | rfl | omega) (map_get hx) (Enc.len _)) ?_)
 refine yE rfl rfl rfl ?_
 try dsimp only [St.put]
 refine aops_e rfl (e_allocC rfl ?_)
 try dsimp only [St.put]
 refine aops_e rfl (e_store_all rfl rfl rfl zG rfl rfl (by rfl) ?_)
 refine yN ?_
 dsimp only [St.put]
 refine K26 _ ?_
 refine aw_commitD (i := 11) rfl zG (by first | exact List.cons_ne_nil _ _ | (simp; done) | (simp [putAt]; done)) ?_
 dsimp only
 refine yS fun _ K27 => ?_
 refine yR ?_
 try dsimp only [St.put]
 refine aops_s rfl (s_load_agg' rfl rfl rfl) ?_
 refine yE rfl rfl rfl ?_
 try dsimp only [St.put]
 refine aops_e rfl (e_call_namedX rfl rfl rfl (opened_pc t e hl12 he _ _) (fun y => ?_))
 refine yM rfl rfl ?_
 refine yX rfl rfl rfl rfl ?_
 refine yX rfl rfl rfl rfl ?_
 refine yX rfl rfl rfl rfl ?_
 refine yX rfl rfl rfl rfl ?_
 refine yA rfl rfl ?_
 refine yA rfl rfl ?_
 refine yA rfl rfl ?_
 refine yA rfl rfl ?_
 refine yN ?_
 dsimp only [St.put]
 refine K27 _ ?_
 refine yS fun _ K28 => ?_
 refine yS fun _ K29 => ?_
 refine yR ?_
 refine aops_n rfl (n_bool (c := true) (n_mv rfl (by constructor)) hf) ?_
 refine yN ?_
 dsimp only [St.put]
 refine K29 _ ?_
 refine aw_cond rfl (fun _ => ?_) (fun h => by cases h)
 refine yS fun _ K30 => ?_
 refine yR ?_
 refine yA rfl rfl ?_
 refine yA rfl rfl ?_
 refine yN ?_
 dsimp only [St.put]
 refine K30 _ ?_
 refine aw_ret ?_
 refine ends_2 rfl (by constructor) (by constructor) zN zS ?_ ?_
 ·rfl
 rfl
theorem sound2_no4 (t : TextD) (e f : EditionD) (hl : e.ss.length ≤ 20) (hlf : f.ss.length ≤ 20) (h : soundEr t e = 0) (hh0 : checkEr t f = 0) (hhf : (firstC f.ss).isSome = true) :
  PureF chkF Tryz.prog 52 [textC t, lst [e, f]] (.tup [.list [] .nil, .v (.int .i64 8)]) := by
 refine pureF_of_body Tryz.func52 rfl (fun m => .tup (low_cons nil_low (low_cons .v low_nil))) fun G nx hF => ?_
 simp only [Tryz.ntmps52, List.length_cons, List.length_nil, Nat.reduceAdd, Nat.reduceSub]
 refine aw_lt fun hlt => ?_
 dsimp only at hlt
 have hnx := hlt 0 _ hF
 obtain ⟨h0, hf⟩ := soundEr_check h
 obtain ⟨ht, hl12, he⟩ := checkEr_text h0
 obtain ⟨_, hhl12, hhe⟩ := checkEr_text hh0
 have hx : ([e, f] : List EditionD)[0]? = some e := rfl
 have hy : ([e, f] : List EditionD)[1]? = some f := rfl
 refine yS fun _ K1 => ?_
 refine yR ?_
 try dsimp only [St.put]
 refine yB rfl rfl rfl ?_
 refine yA rfl rfl ?_
 refine yA rfl rfl ?_
 refine yN ?_
 dsimp only [St.put]
 refine K1 _ ?_
 refine yS fun _ K2 => ?_
 refine yS fun _ K3 => ?_
 refine yR ?_
 refine yM rfl rfl ?_
 refine aops_n rfl (n_len' rfl rfl (List.length_map _)) ?_
 refine yM rfl rfl ?_
 refine yN ?_
 dsimp only [St.put]
 refine K3 _ ?_
 refine aw_block ?_
 refine aw_rounds 3 ?_
 refine arounds_succ fun KR4_0 hKR4_0 => ?_
 refine yS fun _ K5 => ?_
 refine yR ?_
 (refine aops_n rfl (n_bool (c := true) (n_lss rfl rfl rfl) (by rfl)) ?_)
 refine yN ?_
 dsimp only [St.put]
 refine K5 _ ?_
 refine yS fun _ K6 => ?_
 refine aw_cond rfl (fun _ => ?_) (fun h => by cases h)
 refine aw_skip ?_
 refine K6 _ ?_
 refine yS fun _ K7 => ?_
 refine aw_block ?_
 refine yS fun _ K8 => ?_
 refine yR ?_
 try dsimp only [St.put]
 (refine aops_n rfl (n_indexAddr (k := 0) rfl rfl rfl (by first | rfl | omega) (map_get hx) (Enc.len _)) ?_)
 refine yE rfl rfl rfl ?_
 try dsimp only [St.put]
 refine aops_e rfl (e_allocC rfl ?_)
 try dsimp only [St.put]
 refine aops_e rfl (e_store_all rfl rfl rfl zG rfl rfl (by rfl) ?_)
 refine yN ?_
 dsimp only [St.put]
 refine K8 _ ?_
 refine aw_commitD (i := 7) rfl zG (by first | exact List.cons_ne_nil _ _ | (simp; done) | (simp [putAt]; done)) ?_
 dsimp only
 refine yS fun _ K9 => ?_
 refine yR ?_
 try dsimp only [St.put]
 refine aops_s rfl (s_load_agg' rfl rfl rfl) ?_
 refine yE rfl rfl rfl ?_
 try dsimp only [St.put]
 refine aops_e rfl (e_call_f rfl rfl rfl (chartCheck_pureF t e hl) zG ?_)
 refine yA rfl rfl ?_
 refine yN ?_
 dsimp only [St.put]
 refine K9 _ ?_
 refine yS fun _ K10 => ?_
 refine yR ?_
 refine yM rfl rfl ?_
 (refine aops_n rfl (n_bool (c := false) (n_neq rfl rfl rfl) ((not_dec_f h0))) ?_)
 refine yN ?_
 dsimp only [St.put]
 refine K10 _ ?_
 refine aw_cond rfl (fun h => by cases h) (fun _ => ?_)
 refine aw_skip ?_
 refine K7 _ ?_
 refine yR ?_
 refine aops_n rfl (n_add rfl rfl rfl (by omega)) ?_
 refine yM rfl rfl ?_
 refine yN ?_
 dsimp only [St.put]
 refine hKR4_0 _ ?_
 refine arounds_succ fun KR4_1 hKR4_1 => ?_
 refine yS fun _ K11 => ?_
 refine yR ?_
 (refine aops_n rfl (n_bool (c := true) (n_lss rfl rfl rfl) (by rfl)) ?_)
 refine yN ?_
 dsimp only [St.put]
 refine K11 _ ?_
 refine yS fun _ K12 => ?_
 refine aw_cond rfl (fun _ => ?_) (fun h => by cases h)
 refine aw_skip ?_
 refine K12 _ ?_
 refine yS fun _ K13 => ?_
 refine aw_block ?_
 refine yS fun _ K14 => ?_
 refine yR ?_
 try dsimp only [St.put]
 (refine aops_n rfl (n_indexAddr (k := 1) rfl rfl rfl (by first | rfl | omega) (map_get hy) (Enc.len _)) ?_)
 refine yE rfl rfl rfl ?_
 try dsimp only [St.put]
 refine aops_e rfl (e_allocC rfl ?_)
 try dsimp only [St.put]
 refine aops_e rfl (e_store_all rfl rfl rfl zG rfl rfl (by rfl) ?_)
 refine yN ?_
 dsimp only [St.put]
 refine K14 _ ?_
 refine aw_commitD (i := 7) rfl zG (by first | exact List.cons_ne_nil _ _ | (simp; done) | (simp [putAt]; done)) ?_
 dsimp only
 refine yS fun _ K15 => ?_
 refine yR ?_
 try dsimp only [St.put]
 refine aops_s rfl (s_load_agg' rfl rfl rfl) ?_
 refine yE rfl rfl rfl ?_
 try dsimp only [St.put]
 refine aops_e rfl (e_call_f rfl rfl rfl (chartCheck_pureF t f hlf) zG ?_)
 refine yA rfl rfl ?_
 refine yN ?_
 dsimp only [St.put]
 refine K15 _ ?_
 refine yS fun _ K16 => ?_
 refine yR ?_
 refine yM rfl rfl ?_
 (refine aops_n rfl (n_bool (c := false) (n_neq rfl rfl rfl) ((not_dec_f hh0))) ?_)
 refine yN ?_
 dsimp only [St.put]
 refine K16 _ ?_
 refine aw_cond rfl (fun h => by cases h) (fun _ => ?_)
 refine aw_skip ?_
 refine K13 _ ?_
 refine yR ?_
 refine aops_n rfl (n_add rfl rfl rfl (by omega)) ?_
 refine yM rfl rfl ?_
 refine yN ?_
 dsimp only [St.put]
 refine hKR4_1 _ ?_
 refine arounds_succ fun KR4_2 hKR4_2 => ?_
 refine yS fun _ K17 => ?_
 refine yR ?_
 (refine aops_n rfl (n_bool (c := false) (n_lss rfl rfl rfl) (by rfl)) ?_)
 refine yN ?_
 dsimp only [St.put]
 refine K17 _ ?_
 refine yS fun _ K18 => ?_
 refine aw_cond rfl (fun h => by cases h) (fun _ => ?_)
 refine aw_exit ?_
 refine K2 _ ?_
 refine yS fun _ K19 => ?_
 refine yR ?_
 refine yA rfl rfl ?_
 refine yN ?_
 dsimp only [St.put]
 refine K19 _ ?_
 refine aw_adopt 9 84 1 rfl (by decide) ?_
 dsimp only [List.set_cons_zero, List.set_cons_succ]
 refine yS fun _ K20 => ?_
 refine yS fun _ K21 => ?_
 refine yR ?_
 refine yM rfl rfl ?_
 refine aops_n rfl (n_len' rfl rfl (List.length_map _)) ?_
 refine yM rfl rfl ?_
 refine yN ?_
 dsimp only [St.put]
 refine K21 _ ?_
 refine aw_block ?_
 refine aw_rounds 3 ?_
 refine arounds_succ fun KR22_0 hKR22_0 => ?_
 refine yS fun _ K23 => ?_
 refine yR ?_
 (refine aops_n rfl (n_bool (c := true) (n_lss rfl rfl rfl) (by rfl)) ?_)
 refine yN ?_
 dsimp only [St.put]
 refine K23 _ ?_
 refine yS fun _ K24 => ?_
 refine aw_cond rfl (fun _ => ?_) (fun h => by cases h)
 refine aw_skip ?_
 refine K24 _ ?_
 refine yS fun _ K25 => ?_
 refine aw_block ?_
 refine yS fun _ K26 => ?_
 refine yR ?_
 try dsimp only [St.put]
 (refine aops_n rfl (n_indexAddr (k := 0) rfl rfl rfl (by first | rfl | omega) (map_get hx) (Enc.len _)) ?_)
 refine yE rfl rfl rfl ?_
 try dsimp only [St.put]
 refine aops_e rfl (e_allocC rfl ?_)
 try dsimp only [St.put]
 refine aops_e rfl (e_store_all rfl rfl rfl zG rfl rfl (by rfl) ?_)
 refine yN ?_
 dsimp only [St.put]
 refine K26 _ ?_
 refine aw_commitD (i := 11) rfl zG (by first | exact List.cons_ne_nil _ _ | (simp; done) | (simp [putAt]; done)) ?_
 dsimp only
 refine yS fun _ K27 => ?_
 refine yR ?_
 try dsimp only [St.put]
 refine aops_s rfl (s_load_agg' rfl rfl rfl) ?_
 refine yE rfl rfl rfl ?_
 try dsimp only [St.put]
 refine aops_e rfl (e_call_namedX rfl rfl rfl (opened_pc t e hl12 he _ _) (fun y => ?_))
 refine yM rfl rfl ?_
 refine yX rfl rfl rfl rfl ?_
 refine yX rfl rfl rfl rfl ?_
 refine yX rfl rfl rfl rfl ?_
 refine yX rfl rfl rfl rfl ?_
 refine yA rfl rfl ?_
 refine yA rfl rfl ?_
 refine yA rfl rfl ?_
 refine yA rfl rfl ?_
 refine yN ?_
 dsimp only [St.put]
 refine K27 _ ?_
 refine yS fun _ K28 => ?_
 refine yS fun _ K29 => ?_
 refine yR ?_
 refine aops_n rfl (n_bool (c := false) (n_mv rfl (by constructor)) (by rw [hf]; rfl)) ?_
 refine yN ?_
 dsimp only [St.put]
 refine K29 _ ?_
 refine aw_cond rfl (fun h => by cases h) (fun _ => ?_)
 refine aw_skip ?_
 refine K28 _ ?_
 refine yR ?_
 refine yM rfl rfl ?_
 refine yM rfl rfl ?_
 try dsimp only [St.put]
 refine aops_e rfl (e_buildSlice rfl rfl rfl (by decide) (by decide) zR (by decide) ?_)
 try dsimp only [St.put]
 (refine aops_e rfl (e_append_tip rfl rfl zG rfl zR zR (by first | (show 1 * _ ≤ _; decide) | (show 2 * _ ≤ _; decide)) (by first | (show 1 ≤ _; decide) | (show 2 ≤ _; decide)) ?_))
 refine yA rfl rfl ?_
 refine yN ?_
 dsimp only [St.put]
 refine K25 _ ?_
 refine yR ?_
 refine aops_n rfl (n_add rfl rfl rfl (by omega)) ?_
 refine yM rfl rfl ?_
 refine yN ?_
 dsimp only [St.put]
 refine hKR22_0 _ ?_
 refine arounds_succ fun KR22_1 hKR22_1 => ?_
 refine yS fun _ K30 => ?_
 refine yR ?_
 (refine aops_n rfl (n_bool (c := true) (n_lss rfl rfl rfl) (by rfl)) ?_)
 refine yN ?_
 dsimp only [St.put]
 refine K30 _ ?_
 refine yS fun _ K31 => ?_
 refine aw_cond rfl (fun _ => ?_) (fun h => by cases h)
 refine aw_skip ?_
 refine K31 _ ?_
 refine yS fun _ K32 => ?_
 refine aw_block ?_
 refine yS fun _ K33 => ?_
 refine yR ?_
 try dsimp only [St.put]
 (refine aops_n rfl (n_indexAddr (k := 1) rfl rfl rfl (by first | rfl | omega) (map_get hy) (Enc.len _)) ?_)
 refine yE rfl rfl rfl ?_
 try dsimp only [St.put]
 refine aops_e rfl (e_allocC rfl ?_)
 try dsimp only [St.put]
 refine aops_e rfl (e_store_all rfl rfl rfl zG rfl rfl (by rfl) ?_)
 refine yN ?_
 dsimp only [St.put]
 refine K33 _ ?_
 refine aw_commitD (i := 11) rfl zG (by first | exact List.cons_ne_nil _ _ | (simp; done) | (simp [putAt]; done)) ?_
 dsimp only
 refine yS fun _ K34 => ?_
 refine yR ?_
 try dsimp only [St.put]
 refine aops_s rfl (s_load_agg' rfl rfl rfl) ?_
 refine yE rfl rfl rfl ?_
 try dsimp only [St.put]
 refine aops_e rfl (e_call_namedX rfl rfl rfl (opened_pc t f hhl12 hhe _ _) (fun z => ?_))
 refine yM rfl rfl ?_
 refine yX rfl rfl rfl rfl ?_
 refine yX rfl rfl rfl rfl ?_
 refine yX rfl rfl rfl rfl ?_
 refine yX rfl rfl rfl rfl ?_
 refine yA rfl rfl ?_
 refine yA rfl rfl ?_
 refine yA rfl rfl ?_
 refine yA rfl rfl ?_
 refine yN ?_
 dsimp only [St.put]
 refine K34 _ ?_
 refine yS fun _ K35 => ?_
 refine yS fun _ K36 => ?_
 refine yR ?_
 refine aops_n rfl (n_bool (c := true) (n_mv rfl (by constructor)) hhf) ?_
 refine yN ?_
 dsimp only [St.put]
 refine K36 _ ?_
 refine aw_cond rfl (fun _ => ?_) (fun h => by cases h)
 refine yS fun _ K37 => ?_
 refine yR ?_
 refine yA rfl rfl ?_
 refine yA rfl rfl ?_
 refine yN ?_
 dsimp only [St.put]
 refine K37 _ ?_
 refine aw_ret ?_
 refine ends_2 rfl (by constructor) (by constructor) zN zS ?_ ?_
 ·rfl
 rfl
theorem sound2_no (t : TextD) (e f : EditionD) (hl : e.ss.length ≤ 20) (hlf : f.ss.length ≤ 20) (h : bothEr t e f ≠ 0) :
  PureF chkF Tryz.prog 52 [textC t, lst [e, f]] (.tup [.list [] .nil, .v (.int .i64 (bothEr t e f))]) := by
 rcases bothEr_err h with ⟨h1, h2⟩ | ⟨h1, h2, h3⟩ | ⟨h1, h2, h3, h4⟩ | ⟨h1, h2, h3, h4⟩
 ·rw [h2]; exact sound2_no1 t e f hl h1
 ·rw [h3]; exact sound2_no2 t e f hl hlf h1 h2
 ·rw [h4]; exact sound2_no3 t e f hl hlf h1 h2 h3
 rw [h4]; exact sound2_no4 t e f hl hlf h2 h1 h3
theorem numbered2_ok (t : TextD) (e f : EditionD) (r : RefD) (hl : e.ss.length ≤ 20) (hlf : f.ss.length ≤ 20) (h : soundEr t e = 0) (hh : soundEr t f = 0) (hr : refB r = true) (G : Nat → Option GObj) (nx : Nat) (hF : G 0 = some chkF) :
  PC Tryz.prog 42 [textC t, val r, lst [e, f]] G nx fun r' G' nx' => ∃ y : (Nat × Nat) × (Nat × Nat), r' = .tup [.list [[(.elem (bookC t e (nx + 1 + 1 + 1 + 1) (nx + 1 + 1 + 1 + 1 + 1)))], [(.elem (bookC t f (nx + 1 + 1 + 1 + 1 + 1 + 1 + 1) (nx + 1 + 1 + 1 + 1 + 1 + 1 + 1 + 1)))]] .none, .v (.int .i64 0)] ∧ G' = (setG (setG (setG (setG G (nx + 1 + 1 + 1 + 1) (gmap Tryz.prog 95 y.1.1 (capp (asOf e.ss)))) (nx + 1 + 1 + 1 + 1 + 1) (gmap Tryz.prog 95 y.1.2 (capp (backOf e.ss)))) (nx + 1 + 1 + 1 + 1 + 1 + 1 + 1) (gmap Tryz.prog 95 y.2.1 (capp (asOf f.ss)))) (nx + 1 + 1 + 1 + 1 + 1 + 1 + 1 + 1) (gmap Tryz.prog 95 y.2.2 (capp (backOf f.ss)))) ∧ nx' = (nx + 1 + 1 + 1 + 1 + 1 + 1 + 1 + 1 + 1) :=
 numbered_ok t r [e, f] _ G nx (fun y : (Nat × Nat) × (Nat × Nat) => (setG (setG (setG (setG G (nx + 1 + 1 + 1 + 1) (gmap Tryz.prog 95 y.1.1 (capp (asOf e.ss)))) (nx + 1 + 1 + 1 + 1 + 1) (gmap Tryz.prog 95 y.1.2 (capp (backOf e.ss)))) (nx + 1 + 1 + 1 + 1 + 1 + 1 + 1) (gmap Tryz.prog 95 y.2.1 (capp (asOf f.ss)))) (nx + 1 + 1 + 1 + 1 + 1 + 1 + 1 + 1) (gmap Tryz.prog 95 y.2.2 (capp (backOf f.ss))))) _ hr (by omega) (books_low _) (fun hlt y => two_low y) (sound2_ok t e f hl hlf h hh G nx hF)
theorem numbered2_no2 (t : TextD) (e f : EditionD) (r : RefD) (hl : e.ss.length ≤ 20) (hlf : f.ss.length ≤ 20) (h : soundEr t e = 0) (hh : soundEr t f = 0) (hr : refB r = false) :
  PureF chkF Tryz.prog 42 [textC t, val r, lst [e, f]] (.tup [.list [] .nil, .v (.int .i64 2)]) :=
 numbered_no2 t r [e, f] (fun nx => .list [[(.elem (bookC t e (nx + 1 + 1 + 1 + 1) (nx + 1 + 1 + 1 + 1 + 1)))], [(.elem (bookC t f (nx + 1 + 1 + 1 + 1 + 1 + 1 + 1) (nx + 1 + 1 + 1 + 1 + 1 + 1 + 1 + 1)))]] .none) (fun G nx (y : (Nat × Nat) × (Nat × Nat)) => (setG (setG (setG (setG G (nx + 1 + 1 + 1 + 1) (gmap Tryz.prog 95 y.1.1 (capp (asOf e.ss)))) (nx + 1 + 1 + 1 + 1 + 1) (gmap Tryz.prog 95 y.1.2 (capp (backOf e.ss)))) (nx + 1 + 1 + 1 + 1 + 1 + 1 + 1) (gmap Tryz.prog 95 y.2.1 (capp (asOf f.ss)))) (nx + 1 + 1 + 1 + 1 + 1 + 1 + 1 + 1) (gmap Tryz.prog 95 y.2.2 (capp (backOf f.ss))))) (fun nx => (nx + 1 + 1 + 1 + 1 + 1 + 1 + 1 + 1 + 1)) hr (fun nx => by omega) (fun G nx hlt y n o ho => by
  have := hlt n o ho
  rw [setG_other (by omega), setG_other (by omega), setG_other (by omega), setG_other (by omega)]; exact ho) (fun G nx hF => sound2_ok t e f hl hlf h hh G nx hF)
theorem chartTurn_no (t : TextD) (e f : EditionD) (r : RefD) (er : Int) (he0 : er ≠ 0) (hcall : PureF chkF Tryz.prog 42 [textC t, val r, lst [e, f]] (.tup [.list [] .nil, .v (.int .i64 er)])) :
  PureF chkF Tryz.prog 22 [textC t, val e, val f, val r] (.tup [val (⟨0, 0, 0⟩ : RefD), .v (.int .i64 er)]) := by
 refine pureF_of_body Tryz.func22 rfl (fun m => .tup (low_cons (val_low _ _) (low_cons .v low_nil))) fun G nx hF => ?_
 simp only [Tryz.ntmps22, List.length_cons, List.length_nil, Nat.reduceAdd, Nat.reduceSub]
 refine aw_lt fun hlt => ?_
 dsimp only at hlt
 have hnx := hlt 0 _ hF
 refine yS fun _ K1 => ?_
 refine yR ?_
 try dsimp only [St.put]
 refine yB rfl rfl rfl ?_
 try dsimp only [St.put]
 refine yB rfl rfl rfl ?_
 try dsimp only [St.put]
 refine yB rfl rfl rfl ?_
 try dsimp only [St.put]
 refine yB rfl rfl rfl ?_
 try dsimp only [St.put]
 refine aops_e rfl (e_allocC rfl ?_)
 refine yA rfl rfl ?_
 refine yN ?_
 dsimp only [St.put]
 refine K1 _ ?_
 refine yS fun _ K2 => ?_
 refine yR ?_
 try dsimp only [St.put]
 refine aops_s rfl (s_load_agg' rfl rfl rfl) ?_
 refine yE rfl rfl rfl ?_
 refine yE rfl rfl rfl ?_
 refine yE rfl rfl rfl ?_
 try dsimp only [St.put]
 refine aops_e rfl (e_buildSlice rfl rfl rfl (by decide) (by decide) zR (by decide) ?_)
 try dsimp only [St.put]
 refine aops_e rfl (e_call_f rfl rfl rfl (hcall) zG ?_)
 refine yM rfl rfl ?_
 refine yX rfl rfl rfl rfl ?_
 refine yX rfl rfl rfl rfl ?_
 refine yA rfl rfl ?_
 refine yA rfl rfl ?_
 refine yN ?_
 dsimp only [St.put]
 refine K2 _ ?_
 refine yS fun _ K3 => ?_
 refine yS fun _ K4 => ?_
 refine yR ?_
 refine yM rfl rfl ?_
 (refine aops_n rfl (n_bool (c := true) (n_neq rfl rfl rfl) ((not_dec_t he0))) ?_)
 refine yN ?_
 dsimp only [St.put]
 refine K4 _ ?_
 refine aw_cond rfl (fun _ => ?_) (fun h => by cases h)
 refine yS fun _ K5 => ?_
 refine yR ?_
 refine aops_n rfl (n_build rfl rfl) ?_
 refine yM rfl rfl ?_
 try dsimp only [St.put]
 refine aops_e rfl (e_store_all rfl rfl rfl zG rfl rfl (by rfl) ?_)
 refine yA rfl rfl ?_
 refine yN ?_
 dsimp only [St.put]
 refine K5 _ ?_
 refine aw_ret ?_
 refine ends_v2 rfl (rv_box rfl zG (by rfl) (by first | exact List.cons_ne_nil _ _ | (simp; done) | (simp [putAt]; done)) rfl) (rv_tmp (by constructor)) zN zS ?_ ?_
 ·exact zW
 exact zW
theorem chartTurn_ok (t : TextD) (e f : EditionD) (r : RefD) (hl : e.ss.length ≤ 20) (hlf : f.ss.length ≤ 20) (hb : bothEr t e f = 0) (hr : refB r = true) :
  PureF chkF Tryz.prog 22 [textC t, val e, val f, val r] (.tup [val (turnV t e f r), .v (.int .i64 (turnEr t e f r))]) := by
 refine pureF_of_body Tryz.func22 rfl (fun m => .tup (low_cons (val_low _ _) (low_cons .v low_nil))) fun G nx hF => ?_
 simp only [Tryz.ntmps22, List.length_cons, List.length_nil, Nat.reduceAdd, Nat.reduceSub]
 refine aw_lt fun hlt => ?_
 dsimp only at hlt
 have hnx := hlt 0 _ hF
 obtain ⟨h, hh⟩ := bothEr_ok hb
 have hS := soundEr_sound h
 refine yS fun _ K1 => ?_
 refine yR ?_
 try dsimp only [St.put]
 refine yB rfl rfl rfl ?_
 try dsimp only [St.put]
 refine yB rfl rfl rfl ?_
 try dsimp only [St.put]
 refine yB rfl rfl rfl ?_
 try dsimp only [St.put]
 refine yB rfl rfl rfl ?_
 try dsimp only [St.put]
 refine aops_e rfl (e_allocC rfl ?_)
 refine yA rfl rfl ?_
 refine yN ?_
 dsimp only [St.put]
 refine K1 _ ?_
 refine yS fun _ K2 => ?_
 refine yR ?_
 try dsimp only [St.put]
 refine aops_s rfl (s_load_agg' rfl rfl rfl) ?_
 refine yE rfl rfl rfl ?_
 refine yE rfl rfl rfl ?_
 refine yE rfl rfl rfl ?_
 try dsimp only [St.put]
 refine aops_e rfl (e_buildSlice rfl rfl rfl (by decide) (by decide) zR (by decide) ?_)
 try dsimp only [St.put]
 refine aops_e rfl (e_call_namedX rfl rfl rfl (numbered2_ok t e f r hl hlf h hh hr _ _ zG) (fun y => ?_))
 refine yM rfl rfl ?_
 refine yX rfl rfl rfl rfl ?_
 refine yX rfl rfl rfl rfl ?_
 refine yA rfl rfl ?_
 refine yA rfl rfl ?_
 refine yN ?_
 dsimp only [St.put]
 refine K2 _ ?_
 refine yS fun _ K3 => ?_
 refine yS fun _ K4 => ?_
 refine yR ?_
 refine yM rfl rfl ?_
 (refine aops_n rfl (n_bool (c := false) (n_neq rfl rfl rfl) ((by rfl))) ?_)
 refine yN ?_
 dsimp only [St.put]
 refine K4 _ ?_
 refine aw_cond rfl (fun h => by cases h) (fun _ => ?_)
 refine aw_skip ?_
 refine K3 _ ?_
 refine yS fun _ K5 => ?_
 refine aw_drawT [(0, none), (1, none), (2, none), (3, none)] (fun _ => false) (fun i => [0, 1].contains i) 7 [true, true, true, true, false, false, false, false, false, false, false] (by kernel_rfl) (by kernel_rfl) ?_
 refine xM rfl rfl rfl rfl rfl ?_
 try dsimp only [St.put]
 refine acan1_n rfl rfl rfl rfl (n_indexAddr (k := 0) rfl rfl rfl (by first | rfl | omega) rfl rfl) ?_
 try dsimp only [St.put]
 refine acan1_s rfl rfl rfl rfl (s_load rfl rfl) ?_
 try dsimp only [St.put]
 refine acan1_s rfl rfl rfl rfl (s_load_agg' rfl rfl (Enc.len _)) ?_
 refine acan1_nil ?_
 refine aany_step [4, 8] (by kernel_rfl) (by simp) ?_
 refine aeach_cons ?_ ?_
 ·try dsimp only [St.put]
  refine aone_e rfl rfl rfl (e_call_one rfl rfl rfl (bookLead_pc t e _ _ _ (backOf e.ss) r hS.tx (back_words hS) hr _ _ (by dsimp only [St.put]; omega) (by dsimp only [St.put]; omega) zG) ?_)
  refine aany_quiet [(5, none), (6, none), (7, none)] (fun i => [5, 6, 7].contains i) 3 [true, true, true, true, true, true, true, true, false, false, false] (by kernel_rfl) ?_
  refine xM rfl rfl rfl rfl rfl ?_
  refine acan1_n rfl rfl rfl rfl (n_extract rfl rfl rfl) ?_
  refine acan1_n rfl rfl rfl rfl (n_extract rfl rfl rfl) ?_
  refine acan1_nil ?_
  refine aany_step [8] (by kernel_rfl) (by simp) ?_
  refine aeach_cons ?_ ?_
  ·try dsimp only [St.put]
   refine aone_e rfl rfl rfl (e_allocC rfl ?_)
   refine aany_step [9] (by kernel_rfl) (by simp) ?_
   refine aeach_cons ?_ ?_
   ·try dsimp only [St.put]
    refine aone_e rfl rfl rfl (e_store_all rfl rfl rfl zG rfl rfl (by rfl) ?_)
    refine aany_quiet [(10, none)] (fun i => [10].contains i) 0 [true, true, true, true, true, true, true, true, true, true, true] (by kernel_rfl) ?_
    refine acan1_n rfl rfl rfl rfl (n_as rfl (by constructor)) ?_
    refine acan1_nil ?_
    dsimp only [St.put]
    refine aany_of_tr (tr_commit (i := 12) rfl zG (by first | exact List.cons_ne_nil _ _ | (simp; done) | (simp [putAt]; done))) ?_
    dsimp only
    refine aany_nil (by kernel_rfl) ?_
    refine K5 _ ?_
    refine yS fun _ K6 => ?_
    refine yS fun _ K7 => ?_
    refine yR ?_
    refine yM rfl rfl ?_
    refine aops_n rfl (n_not rfl rfl) ?_
    refine yN ?_
    dsimp only [St.put]
    refine K7 _ ?_
    refine aw_cond rfl (fun hc => ?_) (fun hc => ?_)
    ·have hf : leadO t e.ss r = none := by simpa [ldO_lead] using hc
     have hE : turnEr t e f r = 6 := by simp [turnEr, leadEr0, hb, hr, hf]
     have hV : turnV t e f r = ⟨0, 0, 0⟩ := by simp [turnV, hE]
     refine yS fun _ K8 => ?_
     refine yR ?_
     refine aops_n rfl (n_build rfl rfl) ?_
     try dsimp only [St.put]
     refine aops_e rfl (e_store_all rfl rfl rfl zG rfl rfl (by rfl) ?_)
     refine yA rfl rfl ?_
     refine yN ?_
     dsimp only [St.put]
     refine K8 _ ?_
     refine aw_ret ?_
     refine ends_v2 rfl (rv_box rfl zG (by rfl) (by first | exact List.cons_ne_nil _ _ | (simp; done) | (simp [putAt]; done)) rfl) (rv_tmp (by constructor)) zN zS ?_ ?_
     ·rw [hV]
      exact zW
     exact Wk.of_eq (vi hE.symm)
    have hf : (leadO t e.ss r).isSome = true := by simpa [ldO_lead] using hc
    obtain ⟨p, hp⟩ := Option.isSome_iff_exists.1 hf
    obtain ⟨hp1, hp2, hp3⟩ := leadO_place hS hr hp
    have hpd : (ldO t (backOf e.ss) r).getD ⟨0, 0, 0⟩ = p := by rw [ldO_lead, hp]; rfl
    have hE0 : turnEr t e f r = referEr t f p := by simp [turnEr, leadEr0, hb, hr, hp]
    have hr' := hr
    simp only [refB, Bool.and_eq_true, inB_true] at hr'
    rw [hpd]
    refine aw_skip ?_
    refine K6 _ ?_
    refine yS fun _ K9 => ?_
    refine aw_drawT [(0, none), (1, none), (2, none), (3, none)] (fun _ => false) (fun i => [0, 1].contains i) 7 [true, true, true, true, false, false, false, false, false, false, false] (by kernel_rfl) (by kernel_rfl) ?_
    refine xM rfl rfl rfl rfl rfl ?_
    try dsimp only [St.put]
    refine acan1_n rfl rfl rfl rfl (n_indexAddr (k := 1) rfl rfl rfl (by first | rfl | omega) rfl rfl) ?_
    try dsimp only [St.put]
    refine acan1_s rfl rfl rfl rfl (s_load rfl rfl) ?_
    try dsimp only [St.put]
    refine acan1_s rfl rfl rfl rfl (s_load_agg' rfl rfl (Enc.len _)) ?_
    refine acan1_nil ?_
    refine aany_step [4, 8] (by kernel_rfl) (by simp) ?_
    refine aeach_cons ?_ ?_
    ·try dsimp only [St.put]
     refine aone_e rfl rfl rfl (e_call_one rfl rfl rfl (bookRefer_pc t f _ _ _ (asOf f.ss) p (by omega) _ _ (by dsimp only [St.put]; omega) (by dsimp only [St.put]; omega) zG) ?_)
     refine aany_quiet [(5, none), (6, none), (7, none)] (fun i => [5, 6, 7].contains i) 3 [true, true, true, true, true, true, true, true, false, false, false] (by kernel_rfl) ?_
     refine xM rfl rfl rfl rfl rfl ?_
     refine acan1_n rfl rfl rfl rfl (n_extract rfl rfl rfl) ?_
     refine acan1_n rfl rfl rfl rfl (n_extract rfl rfl rfl) ?_
     refine acan1_nil ?_
     refine aany_step [8] (by kernel_rfl) (by simp) ?_
     refine aeach_cons ?_ ?_
     ·try dsimp only [St.put]
      refine aone_e rfl rfl rfl (e_allocC rfl ?_)
      refine aany_step [9] (by kernel_rfl) (by simp) ?_
      refine aeach_cons ?_ ?_
      ·try dsimp only [St.put]
       refine aone_e rfl rfl rfl (e_store_all rfl rfl rfl zG rfl rfl (by rfl) ?_)
       refine aany_quiet [(10, none)] (fun i => [10].contains i) 0 [true, true, true, true, true, true, true, true, true, true, true] (by kernel_rfl) ?_
       refine acan1_n rfl rfl rfl rfl (n_as rfl (by constructor)) ?_
       refine acan1_nil ?_
       dsimp only [St.put]
       refine aany_nil (by kernel_rfl) ?_
       refine K9 _ ?_
       refine yS fun _ K10 => ?_
       refine yS fun _ K11 => ?_
       refine yR ?_
       refine yM rfl rfl ?_
       refine aops_n rfl (n_not rfl rfl) ?_
       refine yN ?_
       dsimp only [St.put]
       refine K11 _ ?_
       refine aw_cond rfl (fun hc => ?_) (fun hc => ?_)
       ·have hg : asOf f.ss (p.ch, p.ln) = none := by simpa using hc
        have hE1 : referEr t f p = 6 := by simp [referEr, hh, hp1, hg]
        have hE : turnEr t e f r = 6 := hE0.trans hE1
        have hV : turnV t e f r = ⟨0, 0, 0⟩ := by simp [turnV, hE]
        refine yS fun _ K12 => ?_
        refine yR ?_
        refine aops_n rfl (n_build rfl rfl) ?_
        try dsimp only [St.put]
        refine aops_e rfl (e_store_all rfl rfl rfl zG rfl rfl (by rfl) ?_)
        refine yA rfl rfl ?_
        refine yN ?_
        dsimp only [St.put]
        refine K12 _ ?_
        refine aw_ret ?_
        refine ends_v2 rfl (rv_box rfl zG (by rfl) (by first | exact List.cons_ne_nil _ _ | (simp; done) | (simp [putAt]; done)) rfl) (rv_tmp (by constructor)) zN zS ?_ ?_
        ·rw [hV]
         exact zW
        exact Wk.of_eq (vi hE.symm)
       have hg : (asOf f.ss (p.ch, p.ln)).isSome = true := by simpa using hc
       have hE1 : referEr t f p = 0 := by simp [referEr, hh, hp1, hg]
       have hE : turnEr t e f r = 0 := hE0.trans hE1
       have hV : turnV t e f r = rfV (asOf f.ss) p := by
        obtain ⟨v, hv⟩ := Option.isSome_iff_exists.1 hg
        simp [turnV, hE, hp, referV, hE1, rfV, hv]
       refine aw_skip ?_
       refine K10 _ ?_
       refine yS fun _ K13 => ?_
       refine yR ?_
       try dsimp only [St.put]
       refine aops_s rfl (s_load_box_all rfl rfl zG trivial (by rfl)) ?_
       try dsimp only [St.put]
       refine aops_e rfl (e_store_all rfl rfl rfl zG rfl rfl (by rfl) ?_)
       refine yA rfl rfl ?_
       refine yN ?_
       dsimp only [St.put]
       refine K13 _ ?_
       refine aw_ret ?_
       refine ends_v2 rfl (rv_box rfl zG (by rfl) (by first | exact List.cons_ne_nil _ _ | (simp; done) | (simp [putAt]; done)) rfl) (rv_tmp (by constructor)) zN zS ?_ ?_
       ·rw [hV]
        exact zW
       exact Wk.of_eq (vi hE.symm)
      exact aeach_nil
     exact aeach_nil
    refine aeach_cons ?_ ?_
    ·try dsimp only [St.put]
     refine aone_e rfl rfl rfl (e_allocC rfl ?_)
     refine aany_step [4] (by kernel_rfl) (by simp) ?_
     refine aeach_cons ?_ ?_
     ·try dsimp only [St.put]
      refine aone_e rfl rfl rfl (e_call_one rfl rfl rfl (bookRefer_pc t f _ _ _ (asOf f.ss) p (by omega) _ _ (by dsimp only [St.put]; omega) (by dsimp only [St.put]; omega) zG) ?_)
      refine aany_quiet [(5, none), (6, none), (7, none)] (fun i => [5, 6, 7].contains i) 2 [true, true, true, true, true, true, true, true, true, false, false] (by kernel_rfl) ?_
      refine xM rfl rfl rfl rfl rfl ?_
      refine acan1_n rfl rfl rfl rfl (n_extract rfl rfl rfl) ?_
      refine acan1_n rfl rfl rfl rfl (n_extract rfl rfl rfl) ?_
      refine acan1_nil ?_
      refine aany_step [9] (by kernel_rfl) (by simp) ?_
      refine aeach_cons ?_ ?_
      ·try dsimp only [St.put]
       refine aone_e rfl rfl rfl (e_store_all rfl rfl rfl zG rfl rfl (by rfl) ?_)
       refine aany_quiet [(10, none)] (fun i => [10].contains i) 0 [true, true, true, true, true, true, true, true, true, true, true] (by kernel_rfl) ?_
       refine acan1_n rfl rfl rfl rfl (n_as rfl (by constructor)) ?_
       refine acan1_nil ?_
       dsimp only [St.put]
       refine aany_nil (by kernel_rfl) ?_
       refine K9 _ ?_
       refine yS fun _ K14 => ?_
       refine yS fun _ K15 => ?_
       refine yR ?_
       refine yM rfl rfl ?_
       refine aops_n rfl (n_not rfl rfl) ?_
       refine yN ?_
       dsimp only [St.put]
       refine K15 _ ?_
       refine aw_cond rfl (fun hc => ?_) (fun hc => ?_)
       ·have hg : asOf f.ss (p.ch, p.ln) = none := by simpa using hc
        have hE1 : referEr t f p = 6 := by simp [referEr, hh, hp1, hg]
        have hE : turnEr t e f r = 6 := hE0.trans hE1
        have hV : turnV t e f r = ⟨0, 0, 0⟩ := by simp [turnV, hE]
        refine yS fun _ K16 => ?_
        refine yR ?_
        refine aops_n rfl (n_build rfl rfl) ?_
        try dsimp only [St.put]
        refine aops_e rfl (e_store_all rfl rfl rfl zG rfl rfl (by rfl) ?_)
        refine yA rfl rfl ?_
        refine yN ?_
        dsimp only [St.put]
        refine K16 _ ?_
        refine aw_ret ?_
        refine ends_v2 rfl (rv_box rfl zG (by rfl) (by first | exact List.cons_ne_nil _ _ | (simp; done) | (simp [putAt]; done)) rfl) (rv_tmp (by constructor)) zN zS ?_ ?_
        ·rw [hV]
         exact zW
        exact Wk.of_eq (vi hE.symm)
       have hg : (asOf f.ss (p.ch, p.ln)).isSome = true := by simpa using hc
       have hE1 : referEr t f p = 0 := by simp [referEr, hh, hp1, hg]
       have hE : turnEr t e f r = 0 := hE0.trans hE1
       have hV : turnV t e f r = rfV (asOf f.ss) p := by
        obtain ⟨v, hv⟩ := Option.isSome_iff_exists.1 hg
        simp [turnV, hE, hp, referV, hE1, rfV, hv]
       refine aw_skip ?_
       refine K14 _ ?_
       refine yS fun _ K17 => ?_
       refine yR ?_
       try dsimp only [St.put]
       refine aops_s rfl (s_load_box_all rfl rfl zG trivial (by rfl)) ?_
       try dsimp only [St.put]
       refine aops_e rfl (e_store_all rfl rfl rfl zG rfl rfl (by rfl) ?_)
       refine yA rfl rfl ?_
       refine yN ?_
       dsimp only [St.put]
       refine K17 _ ?_
       refine aw_ret ?_
       refine ends_v2 rfl (rv_box rfl zG (by rfl) (by first | exact List.cons_ne_nil _ _ | (simp; done) | (simp [putAt]; done)) rfl) (rv_tmp (by constructor)) zN zS ?_ ?_
       ·rw [hV]
        exact zW
       exact Wk.of_eq (vi hE.symm)
      exact aeach_nil
     exact aeach_nil
    exact aeach_nil
   exact aeach_nil
  exact aeach_nil
 refine aeach_cons ?_ ?_
 ·try dsimp only [St.put]
  refine aone_e rfl rfl rfl (e_allocC rfl ?_)
  refine aany_step [4] (by kernel_rfl) (by simp) ?_
  refine aeach_cons ?_ ?_
  ·try dsimp only [St.put]
   refine aone_e rfl rfl rfl (e_call_one rfl rfl rfl (bookLead_pc t e _ _ _ (backOf e.ss) r hS.tx (back_words hS) hr _ _ (by dsimp only [St.put]; omega) (by dsimp only [St.put]; omega) zG) ?_)
   refine aany_quiet [(5, none), (6, none), (7, none)] (fun i => [5, 6, 7].contains i) 2 [true, true, true, true, true, true, true, true, true, false, false] (by kernel_rfl) ?_
   refine xM rfl rfl rfl rfl rfl ?_
   refine acan1_n rfl rfl rfl rfl (n_extract rfl rfl rfl) ?_
   refine acan1_n rfl rfl rfl rfl (n_extract rfl rfl rfl) ?_
   refine acan1_nil ?_
   refine aany_step [9] (by kernel_rfl) (by simp) ?_
   refine aeach_cons ?_ ?_
   ·try dsimp only [St.put]
    refine aone_e rfl rfl rfl (e_store_all rfl rfl rfl zG rfl rfl (by rfl) ?_)
    refine aany_quiet [(10, none)] (fun i => [10].contains i) 0 [true, true, true, true, true, true, true, true, true, true, true] (by kernel_rfl) ?_
    refine acan1_n rfl rfl rfl rfl (n_as rfl (by constructor)) ?_
    refine acan1_nil ?_
    dsimp only [St.put]
    refine aany_of_tr (tr_commit (i := 12) rfl zG (by first | exact List.cons_ne_nil _ _ | (simp; done) | (simp [putAt]; done))) ?_
    dsimp only
    refine aany_nil (by kernel_rfl) ?_
    refine K5 _ ?_
    refine yS fun _ K18 => ?_
    refine yS fun _ K19 => ?_
    refine yR ?_
    refine yM rfl rfl ?_
    refine aops_n rfl (n_not rfl rfl) ?_
    refine yN ?_
    dsimp only [St.put]
    refine K19 _ ?_
    refine aw_cond rfl (fun hc => ?_) (fun hc => ?_)
    ·have hf : leadO t e.ss r = none := by simpa [ldO_lead] using hc
     have hE : turnEr t e f r = 6 := by simp [turnEr, leadEr0, hb, hr, hf]
     have hV : turnV t e f r = ⟨0, 0, 0⟩ := by simp [turnV, hE]
     refine yS fun _ K20 => ?_
     refine yR ?_
     refine aops_n rfl (n_build rfl rfl) ?_
     try dsimp only [St.put]
     refine aops_e rfl (e_store_all rfl rfl rfl zG rfl rfl (by rfl) ?_)
     refine yA rfl rfl ?_
     refine yN ?_
     dsimp only [St.put]
     refine K20 _ ?_
     refine aw_ret ?_
     refine ends_v2 rfl (rv_box rfl zG (by rfl) (by first | exact List.cons_ne_nil _ _ | (simp; done) | (simp [putAt]; done)) rfl) (rv_tmp (by constructor)) zN zS ?_ ?_
     ·rw [hV]
      exact zW
     exact Wk.of_eq (vi hE.symm)
    have hf : (leadO t e.ss r).isSome = true := by simpa [ldO_lead] using hc
    obtain ⟨p, hp⟩ := Option.isSome_iff_exists.1 hf
    obtain ⟨hp1, hp2, hp3⟩ := leadO_place hS hr hp
    have hpd : (ldO t (backOf e.ss) r).getD ⟨0, 0, 0⟩ = p := by rw [ldO_lead, hp]; rfl
    have hE0 : turnEr t e f r = referEr t f p := by simp [turnEr, leadEr0, hb, hr, hp]
    have hr' := hr
    simp only [refB, Bool.and_eq_true, inB_true] at hr'
    rw [hpd]
    refine aw_skip ?_
    refine K18 _ ?_
    refine yS fun _ K21 => ?_
    refine aw_drawT [(0, none), (1, none), (2, none), (3, none)] (fun _ => false) (fun i => [0, 1].contains i) 7 [true, true, true, true, false, false, false, false, false, false, false] (by kernel_rfl) (by kernel_rfl) ?_
    refine xM rfl rfl rfl rfl rfl ?_
    try dsimp only [St.put]
    refine acan1_n rfl rfl rfl rfl (n_indexAddr (k := 1) rfl rfl rfl (by first | rfl | omega) rfl rfl) ?_
    try dsimp only [St.put]
    refine acan1_s rfl rfl rfl rfl (s_load rfl rfl) ?_
    try dsimp only [St.put]
    refine acan1_s rfl rfl rfl rfl (s_load_agg' rfl rfl (Enc.len _)) ?_
    refine acan1_nil ?_
    refine aany_step [4, 8] (by kernel_rfl) (by simp) ?_
    refine aeach_cons ?_ ?_
    ·try dsimp only [St.put]
     refine aone_e rfl rfl rfl (e_call_one rfl rfl rfl (bookRefer_pc t f _ _ _ (asOf f.ss) p (by omega) _ _ (by dsimp only [St.put]; omega) (by dsimp only [St.put]; omega) zG) ?_)
     refine aany_quiet [(5, none), (6, none), (7, none)] (fun i => [5, 6, 7].contains i) 3 [true, true, true, true, true, true, true, true, false, false, false] (by kernel_rfl) ?_
     refine xM rfl rfl rfl rfl rfl ?_
     refine acan1_n rfl rfl rfl rfl (n_extract rfl rfl rfl) ?_
     refine acan1_n rfl rfl rfl rfl (n_extract rfl rfl rfl) ?_
     refine acan1_nil ?_
     refine aany_step [8] (by kernel_rfl) (by simp) ?_
     refine aeach_cons ?_ ?_
     ·try dsimp only [St.put]
      refine aone_e rfl rfl rfl (e_allocC rfl ?_)
      refine aany_step [9] (by kernel_rfl) (by simp) ?_
      refine aeach_cons ?_ ?_
      ·try dsimp only [St.put]
       refine aone_e rfl rfl rfl (e_store_all rfl rfl rfl zG rfl rfl (by rfl) ?_)
       refine aany_quiet [(10, none)] (fun i => [10].contains i) 0 [true, true, true, true, true, true, true, true, true, true, true] (by kernel_rfl) ?_
       refine acan1_n rfl rfl rfl rfl (n_as rfl (by constructor)) ?_
       refine acan1_nil ?_
       dsimp only [St.put]
       refine aany_nil (by kernel_rfl) ?_
       refine K21 _ ?_
       refine yS fun _ K22 => ?_
       refine yS fun _ K23 => ?_
       refine yR ?_
       refine yM rfl rfl ?_
       refine aops_n rfl (n_not rfl rfl) ?_
       refine yN ?_
       dsimp only [St.put]
       refine K23 _ ?_
       refine aw_cond rfl (fun hc => ?_) (fun hc => ?_)
       ·have hg : asOf f.ss (p.ch, p.ln) = none := by simpa using hc
        have hE1 : referEr t f p = 6 := by simp [referEr, hh, hp1, hg]
        have hE : turnEr t e f r = 6 := hE0.trans hE1
        have hV : turnV t e f r = ⟨0, 0, 0⟩ := by simp [turnV, hE]
        refine yS fun _ K24 => ?_
        refine yR ?_
        refine aops_n rfl (n_build rfl rfl) ?_
        try dsimp only [St.put]
        refine aops_e rfl (e_store_all rfl rfl rfl zG rfl rfl (by rfl) ?_)
        refine yA rfl rfl ?_
        refine yN ?_
        dsimp only [St.put]
        refine K24 _ ?_
        refine aw_ret ?_
        refine ends_v2 rfl (rv_box rfl zG (by rfl) (by first | exact List.cons_ne_nil _ _ | (simp; done) | (simp [putAt]; done)) rfl) (rv_tmp (by constructor)) zN zS ?_ ?_
        ·rw [hV]
         exact zW
        exact Wk.of_eq (vi hE.symm)
       have hg : (asOf f.ss (p.ch, p.ln)).isSome = true := by simpa using hc
       have hE1 : referEr t f p = 0 := by simp [referEr, hh, hp1, hg]
       have hE : turnEr t e f r = 0 := hE0.trans hE1
       have hV : turnV t e f r = rfV (asOf f.ss) p := by
        obtain ⟨v, hv⟩ := Option.isSome_iff_exists.1 hg
        simp [turnV, hE, hp, referV, hE1, rfV, hv]
       refine aw_skip ?_
       refine K22 _ ?_
       refine yS fun _ K25 => ?_
       refine yR ?_
       try dsimp only [St.put]
       refine aops_s rfl (s_load_box_all rfl rfl zG trivial (by rfl)) ?_
       try dsimp only [St.put]
       refine aops_e rfl (e_store_all rfl rfl rfl zG rfl rfl (by rfl) ?_)
       refine yA rfl rfl ?_
       refine yN ?_
       dsimp only [St.put]
       refine K25 _ ?_
       refine aw_ret ?_
       refine ends_v2 rfl (rv_box rfl zG (by rfl) (by first | exact List.cons_ne_nil _ _ | (simp; done) | (simp [putAt]; done)) rfl) (rv_tmp (by constructor)) zN zS ?_ ?_
       ·rw [hV]
        exact zW
       exact Wk.of_eq (vi hE.symm)
      exact aeach_nil
     exact aeach_nil
    refine aeach_cons ?_ ?_
    ·try dsimp only [St.put]
     refine aone_e rfl rfl rfl (e_allocC rfl ?_)
     refine aany_step [4] (by kernel_rfl) (by simp) ?_
     refine aeach_cons ?_ ?_
     ·try dsimp only [St.put]
      refine aone_e rfl rfl rfl (e_call_one rfl rfl rfl (bookRefer_pc t f _ _ _ (asOf f.ss) p (by omega) _ _ (by dsimp only [St.put]; omega) (by dsimp only [St.put]; omega) zG) ?_)
      refine aany_quiet [(5, none), (6, none), (7, none)] (fun i => [5, 6, 7].contains i) 2 [true, true, true, true, true, true, true, true, true, false, false] (by kernel_rfl) ?_
      refine xM rfl rfl rfl rfl rfl ?_
      refine acan1_n rfl rfl rfl rfl (n_extract rfl rfl rfl) ?_
      refine acan1_n rfl rfl rfl rfl (n_extract rfl rfl rfl) ?_
      refine acan1_nil ?_
      refine aany_step [9] (by kernel_rfl) (by simp) ?_
      refine aeach_cons ?_ ?_
      ·try dsimp only [St.put]
       refine aone_e rfl rfl rfl (e_store_all rfl rfl rfl zG rfl rfl (by rfl) ?_)
       refine aany_quiet [(10, none)] (fun i => [10].contains i) 0 [true, true, true, true, true, true, true, true, true, true, true] (by kernel_rfl) ?_
       refine acan1_n rfl rfl rfl rfl (n_as rfl (by constructor)) ?_
       refine acan1_nil ?_
       dsimp only [St.put]
       refine aany_nil (by kernel_rfl) ?_
       refine K21 _ ?_
       refine yS fun _ K26 => ?_
       refine yS fun _ K27 => ?_
       refine yR ?_
       refine yM rfl rfl ?_
       refine aops_n rfl (n_not rfl rfl) ?_
       refine yN ?_
       dsimp only [St.put]
       refine K27 _ ?_
       refine aw_cond rfl (fun hc => ?_) (fun hc => ?_)
       ·have hg : asOf f.ss (p.ch, p.ln) = none := by simpa using hc
        have hE1 : referEr t f p = 6 := by simp [referEr, hh, hp1, hg]
        have hE : turnEr t e f r = 6 := hE0.trans hE1
        have hV : turnV t e f r = ⟨0, 0, 0⟩ := by simp [turnV, hE]
        refine yS fun _ K28 => ?_
        refine yR ?_
        refine aops_n rfl (n_build rfl rfl) ?_
        try dsimp only [St.put]
        refine aops_e rfl (e_store_all rfl rfl rfl zG rfl rfl (by rfl) ?_)
        refine yA rfl rfl ?_
        refine yN ?_
        dsimp only [St.put]
        refine K28 _ ?_
        refine aw_ret ?_
        refine ends_v2 rfl (rv_box rfl zG (by rfl) (by first | exact List.cons_ne_nil _ _ | (simp; done) | (simp [putAt]; done)) rfl) (rv_tmp (by constructor)) zN zS ?_ ?_
        ·rw [hV]
         exact zW
        exact Wk.of_eq (vi hE.symm)
       have hg : (asOf f.ss (p.ch, p.ln)).isSome = true := by simpa using hc
       have hE1 : referEr t f p = 0 := by simp [referEr, hh, hp1, hg]
       have hE : turnEr t e f r = 0 := hE0.trans hE1
       have hV : turnV t e f r = rfV (asOf f.ss) p := by
        obtain ⟨v, hv⟩ := Option.isSome_iff_exists.1 hg
        simp [turnV, hE, hp, referV, hE1, rfV, hv]
       refine aw_skip ?_
       refine K26 _ ?_
       refine yS fun _ K29 => ?_
       refine yR ?_
       try dsimp only [St.put]
       refine aops_s rfl (s_load_box_all rfl rfl zG trivial (by rfl)) ?_
       try dsimp only [St.put]
       refine aops_e rfl (e_store_all rfl rfl rfl zG rfl rfl (by rfl) ?_)
       refine yA rfl rfl ?_
       refine yN ?_
       dsimp only [St.put]
       refine K29 _ ?_
       refine aw_ret ?_
       refine ends_v2 rfl (rv_box rfl zG (by rfl) (by first | exact List.cons_ne_nil _ _ | (simp; done) | (simp [putAt]; done)) rfl) (rv_tmp (by constructor)) zN zS ?_ ?_
       ·rw [hV]
        exact zW
       exact Wk.of_eq (vi hE.symm)
      exact aeach_nil
     exact aeach_nil
    exact aeach_nil
   exact aeach_nil
  exact aeach_nil
 exact aeach_nil
theorem chartTurn_pureF (t : TextD) (e f : EditionD) (r : RefD) (hl : e.ss.length ≤ 20) (hlf : f.ss.length ≤ 20) :
  PureF chkF Tryz.prog 22 [textC t, val e, val f, val r] (.tup [val (turnV t e f r), .v (.int .i64 (turnEr t e f r))]) := by
 by_cases h : bothEr t e f = 0
 ·cases hr : refB r with
  | true => exact chartTurn_ok t e f r hl hlf h hr
  | false =>
   have hE : turnEr t e f r = 2 := by simp [turnEr, leadEr0, h, hr]
   have hV : turnV t e f r = ⟨0, 0, 0⟩ := by simp [turnV, hE]
   rw [hV, hE]
   obtain ⟨h1, h2⟩ := bothEr_ok h
   exact chartTurn_no t e f r 2 (by decide) (numbered2_no2 t e f r hl hlf h1 h2 hr)
 have hE : turnEr t e f r = bothEr t e f := by simp [turnEr, h]
 have hV : turnV t e f r = ⟨0, 0, 0⟩ := by simp [turnV, hE, h]
 rw [hV, hE]
 exact chartTurn_no t e f r _ h (numbered_no1 t r [e, f] _ h (sound2_no t e f hl hlf h))
end Go.Proofs.YtjjklfgpffgnfabGreatDoor
