/-
 The law LeafWords: its walk.
-/
import Derived.Test.YtejhjijbgceklaaLaRef
import Derived.Test.YtejhjijbgceklaaKfVoc
import Derived.Test.YtejhjijbgceklaaLcCheck
import Derived.Test.YtejhjijbgceklaaGrpA
import Derived.Test.YtejhjijbgceklaaCuFuncs
namespace Go.Proofs.Ytejhjijbgceklaa
set_option maxRecDepth 10000
open Go.RowKit Go.AB
open Go.AB.Enc (cells)
open Go.PB (Chap TextD PlaceD ReadingD CopyD WayD)
theorem Same_selfW (a : TextD) : Pure Try.prog 12 [textC a, textC a] (.v (.bool true)) := by
 have := Same_pure a a
 rwa [decide_eq_true rfl] at this
theorem SamePlaces_selfW (a : List PlaceD) : Pure Try.prog 27 [lst a, lst a] (.v (.bool true)) := by
 have := SamePlaces_pure a a
 rwa [decide_eq_true rfl] at this
theorem SameWords_selfW (a : List ByteArray) : Pure Try.prog 28 [lst a, lst a] (.v (.bool true)) := by
 have := SameWords_pure a a
 rwa [decide_eq_true rfl] at this
set_option maxHeartbeats 1000000 in
theorem lawWords_pure (t : TextD) (p : PlaceD) (n : Int) (s : ByteArray) : Pure Try.prog 4 [textC t, val p, .v (.int .i64 n), .v (.string s)] (.v (.bool true)) := by
 refine pure_of_body Try.func4 rfl (fun m => .v) fun G nx => ?_
 simp only [Try.ntmps4, List.length_cons, List.length_nil, Nat.reduceAdd, Nat.reduceSub]
 refine aw_lt fun hlt => ?_
 dsimp only at hlt
 refine yS fun _ K1 => ?_
 refine yR ?_
 try dsimp only [St.put]
 refine yB rfl rfl rfl ?_
 try dsimp only [St.put]
 refine yB rfl rfl rfl ?_
 refine yA rfl rfl ?_
 refine yN ?_
 dsimp only [St.put]
 refine K1 _ ?_
 refine yS fun _ K2 => ?_
 refine yS fun _ K3 => ?_
 refine yR ?_
 try dsimp only [St.put]
 refine aops_s rfl (s_load_agg' rfl rfl rfl) ?_
 try dsimp only [St.put]
 refine aops_e rfl (e_call_pure rfl rfl rfl (Great_pure _) ?_)
 refine yM rfl rfl ?_
 refine aops_split (fun hs => ?_) (fun hs => ?_)
 ·try replace hs := of_decide_eq_true hs
  refine yK rfl ?_
  refine yK rfl ?_
  refine yK rfl ?_
  refine aops_n rfl (n_pt rfl rfl (by constructor)) ?_
  refine yN ?_
  dsimp only [St.put]
  refine K3 _ ?_
  refine aw_cond rfl (fun _ => ?_) (fun h => by cases h)
  skip
  refine yS fun _ K4 => ?_
  refine yR ?_
  refine yA rfl rfl ?_
  refine yN ?_
  dsimp only [St.put]
  refine K4 _ ?_
  refine aw_ret ?_
  refine ends_1 rfl (by constructor) zN zS ?_
  rfl
 have hgt : greatB t = false := hs
 refine yM rfl rfl ?_
 refine aops_n rfl (n_lenstr' rfl rfl) ?_
 refine aops_n rfl (n_gtr rfl rfl rfl) ?_
 refine aops_n rfl (n_pf rfl rfl (by constructor)) ?_
 refine yN ?_
 dsimp only [St.put]
 refine K3 _ ?_
 refine aw_cond rfl (fun hc => ?_) (fun hc => ?_)
 ·skip
  refine yS fun _ K5 => ?_
  refine yR ?_
  refine yA rfl rfl ?_
  refine yN ?_
  dsimp only [St.put]
  refine K5 _ ?_
  refine aw_ret ?_
  refine ends_1 rfl (by constructor) zN zS ?_
  rfl
 skip
 refine aw_skip ?_
 refine K2 _ ?_
 refine yS fun _ K6 => ?_
 refine yR ?_
 try dsimp only [St.put]
 refine aops_s rfl (s_load_agg' rfl rfl rfl) ?_
 try dsimp only [St.put]
 refine aops_e rfl (e_call_pure rfl rfl rfl (Twin_pure t hgt) ?_)
 try dsimp only [St.put]
 refine aops_e rfl (e_allocC rfl ?_)
 try dsimp only [St.put]
 refine aops_e rfl (e_store_all rfl rfl rfl zG rfl rfl (by rfl) ?_)
 refine yN ?_
 dsimp only [St.put]
 refine K6 _ ?_
 refine aw_commitD (i := 9) rfl zG (by first | exact List.cons_ne_nil _ _ | (simp; done) | (simp [putAt]; done)) ?_
 dsimp only
 refine yS fun _ K7 => ?_
 refine yR ?_
 try dsimp only [St.put]
 refine aops_s rfl (s_load_agg' rfl rfl rfl) ?_
 try dsimp only [St.put]
 refine aops_e rfl (e_call_pure rfl rfl rfl (leafWords_pure t) ?_)
 refine yM rfl rfl ?_
 refine yX rfl rfl rfl rfl ?_
 refine yX rfl rfl rfl rfl ?_
 refine yA rfl rfl ?_
 refine yA rfl rfl ?_
 refine yN ?_
 dsimp only [St.put]
 refine K7 _ ?_
 refine yS fun _ K8 => ?_
 refine yR ?_
 try dsimp only [St.put]
 refine aops_s rfl (s_load_agg' rfl rfl rfl) ?_
 try dsimp only [St.put]
 refine aops_e rfl (e_call_pure rfl rfl rfl (refWords_pure t) ?_)
 refine yM rfl rfl ?_
 refine yX rfl rfl rfl rfl ?_
 refine yX rfl rfl rfl rfl ?_
 refine yA rfl rfl ?_
 refine yA rfl rfl ?_
 refine yN ?_
 dsimp only [St.put]
 refine K8 _ ?_
 refine yS fun _ K9 => ?_
 refine yR ?_
 try dsimp only [St.put]
 refine aops_s rfl (s_load_agg' rfl rfl rfl) ?_
 refine yE rfl rfl rfl ?_
 try dsimp only [St.put]
 refine aops_e rfl (e_call_pure rfl rfl rfl (leafAt_pure t p) ?_)
 refine yM rfl rfl ?_
 refine yX rfl rfl rfl rfl ?_
 refine yX rfl rfl rfl rfl ?_
 refine yA rfl rfl ?_
 refine yA rfl rfl ?_
 refine yN ?_
 dsimp only [St.put]
 refine K9 _ ?_
 refine yS fun _ K10 => ?_
 refine yR ?_
 try dsimp only [St.put]
 refine aops_s rfl (s_load_agg' rfl rfl rfl) ?_
 refine yE rfl rfl rfl ?_
 try dsimp only [St.put]
 refine aops_e rfl (e_call_pure rfl rfl rfl (refAtP_pure t p) ?_)
 refine yM rfl rfl ?_
 refine yX rfl rfl rfl rfl ?_
 refine yX rfl rfl rfl rfl ?_
 refine yA rfl rfl ?_
 refine yA rfl rfl ?_
 refine yN ?_
 dsimp only [St.put]
 refine K10 _ ?_
 refine yS fun _ K11 => ?_
 refine yS fun _ K12 => ?_
 refine aw_draw [(0, none), (2, none), (1, none), (3, none), (4, none), (5, none), (6, none), (7, none), (8, none), (9, none), (10, none), (11, none), (12, none), (13, none), (14, none), (15, none), (16, none), (17, none), (18, none), (19, none), (20, none), (21, none), (22, none), (23, none), (24, none)] (fun i => [3].contains i) (fun i => [1, 3].contains i) (fun i => [4, 5, 6, 7, 8, 9, 10, 11, 12, 13, 14, 15, 16, 17, 18, 19, 20, 21, 22, 23, 24].contains i) [] (by kernel_rfl) (by kernel_rfl) ?_
 try dsimp only [St.put]
 refine acan1_s rfl rfl rfl rfl (s_load_agg' rfl rfl rfl) ?_
 try dsimp only [St.put]
 refine acan1_s rfl rfl rfl rfl (s_load_agg' rfl rfl rfl) ?_
 refine acan1_two ?_
 try dsimp only [St.put]
 refine acan2_e rfl rfl rfl (e_call_pure rfl rfl rfl (leafCheck_pure t) ⟨zD, ?_⟩)
 try dsimp only [St.put]
 refine acan2_late rfl rfl rfl rfl (e_call_pure rfl rfl rfl (Check1_pure t) ?_)
 refine acan2_n rfl rfl rfl rfl (n_bool (n_neq rfl rfl rfl) (not_dec_f (by omega))) ?_
 refine acan2_n rfl rfl rfl rfl (n_mv rfl (by constructor)) ?_
 refine acan2_n rfl rfl rfl rfl (n_mv rfl (by constructor)) ?_
 refine acan2_n rfl rfl rfl rfl (n_mv rfl (by constructor)) ?_
 refine acan2_n rfl rfl rfl rfl (n_bool (n_neq rfl rfl rfl) (not_dec_f (by omega))) ?_
 refine acan2_n rfl rfl rfl rfl (n_pf rfl rfl (by constructor)) ?_
 refine acan2_n rfl rfl rfl rfl (n_mv rfl (by constructor)) ?_
 refine acan2_n rfl rfl rfl rfl (n_mv rfl (by constructor)) ?_
 refine acan2_n rfl rfl rfl rfl (n_mv rfl (by constructor)) ?_
 refine acan2_n rfl rfl rfl rfl (n_bool (n_neq rfl rfl rfl) (not_dec_f (by omega))) ?_
 refine acan2_n rfl rfl rfl rfl (n_pf rfl rfl (by constructor)) ?_
 refine acan2_n rfl rfl rfl rfl (n_mv rfl (by constructor)) ?_
 refine acan2_n rfl rfl rfl rfl (n_mv rfl (by constructor)) ?_
 refine acan2_n rfl rfl rfl rfl (n_mv rfl (by constructor)) ?_
 refine acan2_n rfl rfl rfl rfl (n_bool (n_strne rfl rfl rfl) (not_dec_f (by first | assumption | with_reducible rfl))) ?_
 refine acan2_n rfl rfl rfl rfl (n_pf rfl rfl (by constructor)) ?_
 refine acan2_n rfl rfl rfl rfl (n_mv rfl (by constructor)) ?_
 refine acan2_n rfl rfl rfl rfl (n_mv rfl (by constructor)) ?_
 refine acan2_n rfl rfl rfl rfl (n_mv rfl (by constructor)) ?_
 refine acan2_n rfl rfl rfl rfl (n_bool (n_neq rfl rfl rfl) (not_dec_f (by omega))) ?_
 refine acan2_n rfl rfl rfl rfl (n_pf rfl rfl (by constructor)) ?_
 refine acan2_nil ?_
 dsimp only [St.put]
 refine K12 _ ?_
 refine aw_cond rfl (fun h => by cases h) (fun _ => ?_)
 refine aw_skip ?_
 refine K11 _ ?_
 refine yS fun _ K13 => ?_
 refine yR ?_
 try dsimp only [St.put]
 refine aops_s rfl (s_load_agg' rfl rfl rfl) ?_
 refine yE rfl rfl rfl ?_
 try dsimp only [St.put]
 refine aops_e rfl (e_call_pure rfl rfl rfl (leafNumber_pure t p) ?_)
 refine yM rfl rfl ?_
 refine yX rfl rfl rfl rfl ?_
 refine yX rfl rfl rfl rfl ?_
 refine yA rfl rfl ?_
 refine yA rfl rfl ?_
 refine yN ?_
 dsimp only [St.put]
 refine K13 _ ?_
 refine yS fun _ K14 => ?_
 refine yR ?_
 try dsimp only [St.put]
 refine aops_s rfl (s_load_agg' rfl rfl rfl) ?_
 refine yE rfl rfl rfl ?_
 try dsimp only [St.put]
 refine aops_e rfl (e_call_pure rfl rfl rfl (refNumber_pure t p) ?_)
 refine yM rfl rfl ?_
 refine yX rfl rfl rfl rfl ?_
 refine yX rfl rfl rfl rfl ?_
 refine yA rfl rfl ?_
 refine yA rfl rfl ?_
 refine yN ?_
 dsimp only [St.put]
 refine K14 _ ?_
 refine yS fun _ K15 => ?_
 refine yR ?_
 try dsimp only [St.put]
 refine aops_s rfl (s_load_agg' rfl rfl rfl) ?_
 refine yM rfl rfl ?_
 try dsimp only [St.put]
 refine aops_e rfl (e_call_pure rfl rfl rfl (leafPlaceOf_pure t n) ?_)
 refine yM rfl rfl ?_
 refine yX rfl rfl rfl rfl ?_
 refine yX rfl rfl rfl rfl ?_
 try dsimp only [St.put]
 refine aops_e rfl (e_allocC rfl ?_)
 try dsimp only [St.put]
 refine aops_e rfl (e_store_all rfl rfl rfl zG rfl rfl (by rfl) ?_)
 refine yA rfl rfl ?_
 refine yN ?_
 dsimp only [St.put]
 refine K15 _ ?_
 refine aw_commitD (i := 18) rfl zG (by first | exact List.cons_ne_nil _ _ | (simp; done) | (simp [putAt]; done)) ?_
 dsimp only
 refine yS fun _ K16 => ?_
 refine yR ?_
 try dsimp only [St.put]
 refine aops_s rfl (s_load_agg' rfl rfl rfl) ?_
 refine yM rfl rfl ?_
 try dsimp only [St.put]
 refine aops_e rfl (e_call_pure rfl rfl rfl (refPlaceOf_pure t n) ?_)
 refine yM rfl rfl ?_
 refine yX rfl rfl rfl rfl ?_
 refine yX rfl rfl rfl rfl ?_
 try dsimp only [St.put]
 refine aops_e rfl (e_allocC rfl ?_)
 try dsimp only [St.put]
 refine aops_e rfl (e_store_all rfl rfl rfl zG rfl rfl (by rfl) ?_)
 refine yA rfl rfl ?_
 refine yN ?_
 dsimp only [St.put]
 refine K16 _ ?_
 refine aw_commitD (i := 19) rfl zG (by first | exact List.cons_ne_nil _ _ | (simp; done) | (simp [putAt]; done)) ?_
 dsimp only
 refine yS fun _ K17 => ?_
 refine yR ?_
 try dsimp only [St.put]
 refine aops_s rfl (s_load_agg' rfl rfl rfl) ?_
 refine yM rfl rfl ?_
 try dsimp only [St.put]
 refine aops_e rfl (e_call_pure rfl rfl rfl (leafPlaces_pure t s) ?_)
 refine yM rfl rfl ?_
 refine yX rfl rfl rfl rfl ?_
 refine yX rfl rfl rfl rfl ?_
 refine yA rfl rfl ?_
 refine yA rfl rfl ?_
 refine yN ?_
 dsimp only [St.put]
 refine K17 _ ?_
 refine yS fun _ K18 => ?_
 refine yR ?_
 try dsimp only [St.put]
 refine aops_s rfl (s_load_agg' rfl rfl rfl) ?_
 refine yM rfl rfl ?_
 try dsimp only [St.put]
 refine aops_e rfl (e_call_pure rfl rfl rfl (refPlaces_pure t s) ?_)
 refine yM rfl rfl ?_
 refine yX rfl rfl rfl rfl ?_
 refine yX rfl rfl rfl rfl ?_
 refine yA rfl rfl ?_
 refine yA rfl rfl ?_
 refine yN ?_
 dsimp only [St.put]
 refine K18 _ ?_
 refine yS fun _ K19 => ?_
 refine yR ?_
 try dsimp only [St.put]
 refine aops_s rfl (s_load_agg' rfl rfl rfl) ?_
 try dsimp only [St.put]
 refine aops_e rfl (e_call_pure rfl rfl rfl (leafVocabulary_pure t) ?_)
 refine yM rfl rfl ?_
 refine yX rfl rfl rfl rfl ?_
 refine yX rfl rfl rfl rfl ?_
 refine yA rfl rfl ?_
 refine yA rfl rfl ?_
 refine yN ?_
 dsimp only [St.put]
 refine K19 _ ?_
 refine yS fun _ K20 => ?_
 refine yR ?_
 try dsimp only [St.put]
 refine aops_s rfl (s_load_agg' rfl rfl rfl) ?_
 try dsimp only [St.put]
 refine aops_e rfl (e_call_pure rfl rfl rfl (refVocabulary_pure t) ?_)
 refine yM rfl rfl ?_
 refine yX rfl rfl rfl rfl ?_
 refine yX rfl rfl rfl rfl ?_
 refine yA rfl rfl ?_
 refine yA rfl rfl ?_
 refine yN ?_
 dsimp only [St.put]
 refine K20 _ ?_
 refine yS fun _ K21 => ?_
 refine yR ?_
 refine yM rfl rfl ?_
 refine yM rfl rfl ?_
 refine aops_n rfl (n_bool (n_eql rfl rfl rfl) (decide_eq_true (by omega))) ?_
 refine yM rfl rfl ?_
 refine yM rfl rfl ?_
 refine yM rfl rfl ?_
 refine aops_n rfl (n_bool (n_eql rfl rfl rfl) (decide_eq_true (by omega))) ?_
 refine aops_n rfl (n_pt rfl rfl (by constructor)) ?_
 refine yM rfl rfl ?_
 refine yE rfl rfl rfl ?_
 refine yE rfl rfl rfl ?_
 refine aops_n rfl (n_bool (c := true) (n_agg_eql (x := placeOfV t n) (y := placeOfV t n) rfl rfl rfl) (decide_eq_true rfl)) ?_
 refine aops_n rfl (n_pt rfl rfl (by constructor)) ?_
 refine yM rfl rfl ?_
 refine yM rfl rfl ?_
 refine yM rfl rfl ?_
 refine aops_n rfl (n_bool (n_eql rfl rfl rfl) (decide_eq_true (by omega))) ?_
 refine aops_n rfl (n_pt rfl rfl (by constructor)) ?_
 refine yM rfl rfl ?_
 refine yM rfl rfl ?_
 refine yM rfl rfl ?_
 try dsimp only [St.put]
 refine aops_e rfl (e_call_pure rfl rfl rfl (SamePlaces_selfW _) ?_)
 refine aops_n rfl (n_pt rfl rfl (by constructor)) ?_
 refine yM rfl rfl ?_
 refine yM rfl rfl ?_
 refine yM rfl rfl ?_
 refine aops_n rfl (n_bool (n_eql rfl rfl rfl) (decide_eq_true (by omega))) ?_
 refine aops_n rfl (n_pt rfl rfl (by constructor)) ?_
 refine yM rfl rfl ?_
 refine yM rfl rfl ?_
 refine yM rfl rfl ?_
 try dsimp only [St.put]
 refine aops_e rfl (e_call_pure rfl rfl rfl (SameWords_selfW _) ?_)
 refine aops_n rfl (n_pt rfl rfl (by constructor)) ?_
 refine yM rfl rfl ?_
 refine yM rfl rfl ?_
 refine yM rfl rfl ?_
 refine aops_n rfl (n_bool (n_eql rfl rfl rfl) (decide_eq_true (by omega))) ?_
 refine aops_n rfl (n_pt rfl rfl (by constructor)) ?_
 refine yM rfl rfl ?_
 try dsimp only [St.put]
 refine aops_s rfl (s_load_agg' rfl rfl rfl) ?_
 try dsimp only [St.put]
 refine aops_s rfl (s_load_agg' rfl rfl rfl) ?_
 try dsimp only [St.put]
 refine aops_e rfl (e_call_pure rfl rfl rfl (Same_selfW _) ?_)
 refine aops_n rfl (n_pt rfl rfl (by constructor)) ?_
 refine yA rfl rfl ?_
 refine yN ?_
 dsimp only [St.put]
 refine K21 _ ?_
 refine aw_ret ?_
 refine ends_1 rfl (by constructor) zN zS ?_
 rfl
end Go.Proofs.Ytejhjijbgceklaa
