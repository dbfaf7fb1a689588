/-
 Contracts of the program's functions of charts: lines that lead from one edition to another one.
-/
import Derived.Test.YtjjklfgpffgnfabGreatDoorEeTurn
import Derived.Test.YtjjklfgpffgnfabGreatDoorEhOrd
namespace Go.Proofs.YtjjklfgpffgnfabGreatDoor
set_option maxRecDepth 10000
open Go.RowKit Go.AB
open Go.AB.Enc (cells)
open Go.PB (Chap TextD PlaceD ReadingD CopyD WayD)
instance : Ty Tryz.prog (srt_line_ren.t 24) true (Enc.n L2) := inferInstanceAs (Ty Tryz.prog 95 true 2)
theorem chartCross_no (t : TextD) (e f : EditionD) (hl : e.ss.length ≤ 20) (hlf : f.ss.length ≤ 20) (h : bothEr t e f ≠ 0) :
  PureF chkF Tryz.prog 14 [textC t, val e, val f] (.tup [lst (crossL t e f), .v (.int .i64 (bothEr t e f))]) := by
 refine pureF_of_body Tryz.func14 rfl (fun m => .tup (low_cons (lst_low _ _) (low_cons .v low_nil))) fun G nx hF => ?_
 simp only [Tryz.ntmps14, List.length_cons, List.length_nil, Nat.reduceAdd, Nat.reduceSub]
 refine aw_lt fun hlt => ?_
 dsimp only at hlt
 have hnx := hlt 0 _ hF
 have hV : crossL t e f = [] := by simp [crossL, h]
 rw [hV]
 refine yS fun _ K1 => ?_
 refine yR ?_
 try dsimp only [St.put]
 refine yB rfl rfl rfl ?_
 try dsimp only [St.put]
 refine yB rfl rfl rfl ?_
 try dsimp only [St.put]
 refine yB rfl rfl rfl ?_
 refine yA rfl rfl ?_
 refine yA rfl rfl ?_
 refine yN ?_
 dsimp only [St.put]
 refine K1 _ ?_
 refine yS fun _ K2 => ?_
 refine yR ?_
 try dsimp only [St.put]
 refine aops_s rfl (s_load_agg' rfl rfl rfl) ?_
 refine yE rfl rfl rfl ?_
 refine yE rfl rfl rfl ?_
 try dsimp only [St.put]
 refine aops_e rfl (e_buildSlice rfl rfl rfl (by decide) (by decide) zR (by decide) ?_)
 try dsimp only [St.put]
 refine aops_e rfl (e_call_f rfl rfl rfl (sound2_no t e f hl hlf h) zG ?_)
 refine yM rfl rfl ?_
 refine yX rfl rfl rfl rfl ?_
 refine yX rfl rfl rfl rfl ?_
 refine yA rfl rfl ?_
 refine yA rfl rfl ?_
 refine yN ?_
 dsimp only [St.put]
 refine K2 _ ?_
 refine yS fun _ K3 => ?_
 refine yS fun _ K4 => ?_
 refine yR ?_
 refine yM rfl rfl ?_
 refine aops_n rfl (n_bool (c := true) (n_neq rfl rfl rfl) (not_dec_t h)) ?_
 refine yN ?_
 dsimp only [St.put]
 refine K4 _ ?_
 refine aw_cond rfl (fun _ => ?_) (fun h => by cases h)
 refine yS fun _ K5 => ?_
 refine yR ?_
 refine yM rfl rfl ?_
 refine yA rfl rfl ?_
 refine yA rfl rfl ?_
 refine yN ?_
 dsimp only [St.put]
 refine K5 _ ?_
 refine aw_ret ?_
 refine ends_v2 rfl (rv_tmp (by constructor)) (rv_tmp (by constructor)) zN zS ?_ ?_
 ·exact zW
 exact zW
set_option maxHeartbeats 4000000 in
theorem chartCross_ok (t : TextD) (e f : EditionD) (hl : e.ss.length ≤ 20) (hlf : f.ss.length ≤ 20) (hb : bothEr t e f = 0) :
  PureF chkF Tryz.prog 14 [textC t, val e, val f] (.tup [lst (crossL t e f), .v (.int .i64 (bothEr t e f))]) := by
 refine pureF_of_body Tryz.func14 rfl (fun m => .tup (low_cons (lst_low _ _) (low_cons .v low_nil))) fun G nx hF => ?_
 simp only [Tryz.ntmps14, List.length_cons, List.length_nil, Nat.reduceAdd, Nat.reduceSub]
 refine aw_lt fun hlt => ?_
 dsimp only at hlt
 have hnx := hlt 0 _ hF
 obtain ⟨h, hh⟩ := bothEr_ok hb
 have hS := soundEr_sound h
 have hSf := soundEr_sound hh
 have hok := hS.ok
 have hokf := hSf.ok
 refine yS fun _ K1 => ?_
 refine yR ?_
 try dsimp only [St.put]
 refine yB rfl rfl rfl ?_
 try dsimp only [St.put]
 refine yB rfl rfl rfl ?_
 try dsimp only [St.put]
 refine yB rfl rfl rfl ?_
 refine yA rfl rfl ?_
 refine yA rfl rfl ?_
 refine yN ?_
 dsimp only [St.put]
 refine K1 _ ?_
 refine yS fun _ K2 => ?_
 refine yR ?_
 try dsimp only [St.put]
 refine aops_s rfl (s_load_agg' rfl rfl rfl) ?_
 refine yE rfl rfl rfl ?_
 refine yE rfl rfl rfl ?_
 try dsimp only [St.put]
 refine aops_e rfl (e_buildSlice rfl rfl rfl (by decide) (by decide) zR (by decide) ?_)
 try dsimp only [St.put]
 refine aops_e rfl (e_call_namedX rfl rfl rfl (sound2_ok t e f hl hlf h hh _ _ zG) (fun yy => ?_))
 refine yM rfl rfl ?_
 refine yX rfl rfl rfl rfl ?_
 refine yX rfl rfl rfl rfl ?_
 refine yA rfl rfl ?_
 refine yA rfl rfl ?_
 refine yN ?_
 dsimp only [St.put]
 refine K2 _ ?_
 refine yS fun _ K3 => ?_
 refine yS fun _ K4 => ?_
 refine yR ?_
 refine yM rfl rfl ?_
 refine aops_n rfl (n_bool (c := false) (n_neq rfl rfl rfl) (by rfl)) ?_
 refine yN ?_
 dsimp only [St.put]
 refine K4 _ ?_
 refine aw_cond rfl (fun h => by cases h) (fun _ => ?_)
 refine aw_skip ?_
 refine K3 _ ?_
 refine yS fun _ K5 => ?_
 refine yR ?_
 refine yA rfl rfl ?_
 refine yN ?_
 dsimp only [St.put]
 refine K5 _ ?_
 refine aw_adopt_own 10 95 2 rfl (by decide) ?_
 dsimp only
 refine yS fun _ K6 => ?_
 refine yS fun _ K7 => ?_
 refine yR ?_
 refine yM rfl rfl ?_
 try dsimp only [St.put]
 refine aops_n rfl (n_indexAddr (k := 0) rfl rfl rfl (by first | rfl | omega) rfl rfl) ?_
 refine yL rfl rfl rfl ?_
 refine aops_n rfl (n_nilCheck rfl rfl) ?_
 refine yF rfl rfl rfl rfl ?_
 refine yL rfl rfl rfl ?_
 try dsimp only [St.put]
 refine aops_e rfl (e_range rfl rfl zG fun r β cl ks hnd hks0 hinj => ?_)
 refine yN ?_
 dsimp only [St.put]
 have hks : ∀ x, backOf e.ss x ≠ none ↔ x ∈ ks := fun x => (not_congr capp_none).symm.trans (hks0 x)
 refine K7 _ ?_
 refine aw_block ?_
 refine aw_wipe 39 ?_
 simp only [firsts, getA, Nat.reduceAdd, List.getD_cons_zero, List.getD_cons_succ, List.getD_nil, natBeq, Nat.reduceBEq, cond_true, cond_false]
 refine aw_forget ((setG (setG (setG (setG (setG (setG (setG G (nx + 1 + 1 + 1 + 1) (gmap Tryz.prog 95 yy.1.1 (capp (asOf e.ss)))) (nx + 1 + 1 + 1 + 1 + 1) (gmapB Tryz.prog 95 yy.1.2 (capp (backOf e.ss)) β cl)) (nx + 1 + 1 + 1 + 1 + 1 + 1 + 1) (gmap Tryz.prog 95 yy.2.1 (capp (asOf f.ss)))) (nx + 1 + 1 + 1 + 1 + 1 + 1 + 1 + 1) (gmap Tryz.prog 95 yy.2.2 (capp (backOf f.ss)))) ((nx + 1 + 1 + 1 + 1 + 1 + 1 + 1 + 1 + 1)) ((.arr ((((([] : List L2)).filter (fun a => (overO e.ss f.ss a).isSome)))).length 0 95 2 ((((([] : List L2)).filter (fun a => (overO e.ss f.ss a).isSome)))).length (flatC ((((([] : List L2)).filter (fun a => (overO e.ss f.ss a).isSome)))))))) ((nx + 1 + 1 + 1 + 1 + 1 + 1 + 1 + 1 + 1 + 1)) (.raw 0 (.mapIter (some r) cl (seenOf β (([] : List L2))) cl))) ((nx + 1 + 1 + 1 + 1 + 1 + 1 + 1 + 1 + 1 + 1 + 1)) (.fact (.map (some r)) (.map ((nx + 1 + 1 + 1 + 1 + 1)))))) zX ?_
 dsimp only
 refine aw_loopD (X := List L2 × Nat × Nat) (fun x => (∀ y ∈ x.1, y ∈ ks) ∧ x.1.Nodup) (fun x => leftN ks x.1) (fun x => [(10, .own ((nx + 1 + 1 + 1 + 1 + 1 + 1 + 1 + 1 + 1)) ((x.1.filter (fun a => (overO e.ss f.ss a).isSome))).length ((x.1.filter (fun a => (overO e.ss f.ss a).isSome))).length), (11, .any), (12, .any), (13, .any), (14, .any)]) (fun x G' => (setG (setG (setG (setG (setG (setG (setG G (nx + 1 + 1 + 1 + 1) (gmap Tryz.prog 95 yy.1.1 (capp (asOf e.ss)))) (nx + 1 + 1 + 1 + 1 + 1) (gmapB Tryz.prog 95 yy.1.2 (capp (backOf e.ss)) β cl)) (nx + 1 + 1 + 1 + 1 + 1 + 1 + 1) (gmap Tryz.prog 95 yy.2.1 (capp (asOf f.ss)))) (nx + 1 + 1 + 1 + 1 + 1 + 1 + 1 + 1) (gmap Tryz.prog 95 yy.2.2 (capp (backOf f.ss)))) ((nx + 1 + 1 + 1 + 1 + 1 + 1 + 1 + 1 + 1)) ((.arr (x.1.filter (fun a => (overO e.ss f.ss a).isSome)).length x.2.2 95 2 (x.1.filter (fun a => (overO e.ss f.ss a).isSome)).length (flatC (x.1.filter (fun a => (overO e.ss f.ss a).isSome)))))) ((nx + 1 + 1 + 1 + 1 + 1 + 1 + 1 + 1 + 1 + 1)) (.raw x.2.1 (.mapIter (some r) cl (seenOf β x.1) cl))) ((nx + 1 + 1 + 1 + 1 + 1 + 1 + 1 + 1 + 1 + 1 + 1)) (.fact (.map (some r)) (.map ((nx + 1 + 1 + 1 + 1 + 1)))))) ([], 0, 0) rfl ?_ ?_ ?_ ?_ ?_ ?_
 ·exact ⟨fun y hy => by simp at hy, List.nodup_nil⟩
 ·exact zF
 ·exact zX
 ·rintro ⟨done, wi, wv⟩ hI
  exact (by (try dsimp only); repeat' (first | exact trivial | refine ⟨?_, ?_⟩ | exact .v | exact .any | refine .elem ?_ | exact lst_low _ _ | exact cells_low _ _ | exact val_low _ _ | exact data_low _ (by (try dsimp only); omega) | exact .box (by (try dsimp only); omega) | exact nil_low | exact low_nil | exact gmapB_low (capp_low _ _) | exact gmap_low (capp_low _ _) | refine set_low ?_ ?_ | exact .arr (by (try dsimp only); omega) | exact .own (by (try dsimp only); omega) | exact .map (by (try dsimp only); omega) | exact flatC_low _ | refine low_cons ?_ ?_ | exact lst_low _ _))
 ·rintro ⟨done, wi, wv⟩ hI
  exact (by (repeat' (refine lowG_set ?_ (by (try dsimp only); omega) ?_)); all_goals (first | exact lowG_base zS | (repeat' (first | exact trivial | refine ⟨?_, ?_⟩ | exact .v | exact .any | refine .elem ?_ | exact lst_low _ _ | exact cells_low _ _ | exact val_low _ _ | exact data_low _ (by (try dsimp only); omega) | exact .box (by (try dsimp only); omega) | exact nil_low | exact low_nil | exact gmapB_low (capp_low _ _) | exact gmap_low (capp_low _ _) | refine set_low ?_ ?_ | exact .arr (by (try dsimp only); omega) | exact .own (by (try dsimp only); omega) | exact .map (by (try dsimp only); omega) | exact flatC_low _ | refine low_cons ?_ ?_ | exact lst_low _ _))))
 rintro ⟨done, wi, wv⟩ hI
 dsimp only at hI ⊢
 refine yS fun _ K8 => ?_
 refine yR ?_
 try dsimp only [St.put]
 refine aops_e rfl (e_next (done := done) rfl rfl zG zG zG (hks0) (hinj) (hI.1) (fun hend => ?_) (fun y c hym hyk hyd => ?_))
 ·have hys0 : ∀ x, x ∈ (done.filter (fun a => (overO e.ss f.ss a).isSome)) ↔ x ∈ ks ∧ (overO e.ss f.ss x).isSome = true := fun x => by
   rw [List.mem_filter]
   exact ⟨fun ⟨h1, h2⟩ => ⟨hI.1 x h1, h2⟩, fun ⟨h1, h2⟩ => ⟨hend x h1, h2⟩⟩
  have hnd : (done.filter (fun a => (overO e.ss f.ss a).isSome)).Nodup := List.Pairwise.filter _ hI.2
  have hbl := back_len hS hnd fun x hx => (hks x).2 ((hys0 x).1 hx).1
  have hxb : ∀ x ∈ (done.filter (fun a => (overO e.ss f.ss a).isSome)), LBd x := fun x hx => by
   obtain ⟨p, hp⟩ := Option.ne_none_iff_exists'.1 ((hks x).2 ((hys0 x).1 hx).1)
   have := asOf_pos hok ((back_iff hS.no).1 hp)
   exact ⟨by omega, by omega, by omega, by omega⟩
  refine yX rfl rfl rfl rfl ?_
  refine yN ?_
  dsimp only [St.put]
  refine K8 _ ?_
  refine yS fun _ K9 => ?_
  refine aw_cond rfl (fun h => by cases h) (fun _ => ?_)
  refine aw_exit ?_
  refine K6 _ ?_
  refine yS fun _ K10 => ?_
  refine aw_unrange (n := (nx + 1 + 1 + 1 + 1 + 1)) zG ?_
  dsimp only
  refine yR ?_
  refine yM rfl rfl ?_
  try dsimp only [St.put]
  refine aops_e rfl (e_sort srt_line LBd cmp2 rfl rfl rfl rfl zG rfl rfl rfl (fun y hy => hy.plain) hxb (by omega) (fun a b _ _ => cross1_pure a b _ _) cmp2_ord (fun ys hperm hsort => ?_))
  refine yN ?_
  dsimp only [St.put]
  have hlen := hperm.length_eq
  have hyn : ys.Nodup := hperm.nodup_iff.2 hnd
  have hcr := cross_sorted (fs := f.ss) hS hks (fun x => hperm.mem_iff.trans (hys0 x)) (sort_strict hsort hyn)
  have hcl : crossL t e f = mergeQ (ys.map (overP e.ss f.ss)) := by simp [crossL, hb, crossS_eq hcr]
  have hLb := crossOk_bd hok hokf hcr
  have hmem : ∀ a ∈ ys, ∃ p u, backOf e.ss a = some p ∧ asOf f.ss p = some u ∧ overP e.ss f.ss a = passOf a u := fun a ha => by
   obtain ⟨u, hu⟩ := Option.isSome_iff_exists.1 ((hys0 a).1 (hperm.mem_iff.1 ha)).2
   obtain ⟨p, hp, hpu⟩ := overO_some.1 hu
   exact ⟨p, u, hp, hpu, by simp [overP, hu]⟩
  rw [← hlen] at hbl ⊢
  refine K10 _ ?_
  refine yS fun _ K11 => ?_
  refine yR ?_
  refine yA rfl rfl ?_
  refine yN ?_
  dsimp only [St.put]
  refine K11 _ ?_
  refine aw_adopt_own 15 53 5 rfl (by decide) ?_
  dsimp only
  refine yS fun _ K12 => ?_
  refine yR ?_
  refine aops_n rfl (n_buildA rfl rfl) ?_
  try dsimp only [St.put]
  refine aops_e rfl (e_allocC rfl ?_)
  try dsimp only [St.put]
  refine aops_e rfl (e_store_all rfl rfl rfl zG rfl rfl (by rfl) ?_)
  refine yN ?_
  dsimp only [St.put]
  refine K12 _ ?_
  refine yS fun _ K13 => ?_
  refine yS fun _ K14 => ?_
  refine yR ?_
  refine yM rfl rfl ?_
  refine aops_n rfl (n_len_own rfl rfl) ?_
  refine yM rfl rfl ?_
  refine yN ?_
  dsimp only [St.put]
  refine K14 _ ?_
  refine aw_block ?_
  refine aw_wipe 66 ?_
  simp only [firsts, getA, Nat.reduceAdd, List.getD_cons_zero, List.getD_cons_succ, List.getD_nil, natBeq, Nat.reduceBEq, cond_true, cond_false]
  refine aw_forget ((setG (setG (setG (setG (setG (setG (setG G (nx + 1 + 1 + 1 + 1) (gmap Tryz.prog 95 yy.1.1 (capp (asOf e.ss)))) (nx + 1 + 1 + 1 + 1 + 1) (gmap Tryz.prog 95 yy.1.2 (capp (backOf e.ss)))) (nx + 1 + 1 + 1 + 1 + 1 + 1 + 1) (gmap Tryz.prog 95 yy.2.1 (capp (asOf f.ss)))) (nx + 1 + 1 + 1 + 1 + 1 + 1 + 1 + 1) (gmap Tryz.prog 95 yy.2.2 (capp (backOf f.ss)))) ((nx + 1 + 1 + 1 + 1 + 1 + 1 + 1 + 1 + 1)) ((.arr ys.length (((wv + 1))) 95 2 ys.length (flatC ys)))) ((nx + 1 + 1 + 1 + 1 + 1 + 1 + 1 + 1 + 1 + 1 + 1 + 1)) (.arr (([] : List PassD)).length 0 53 5 (([] : List PassD)).length (flatC (([] : List PassD))))) ((nx + 1 + 1 + 1 + 1 + 1 + 1 + 1 + 1 + 1 + 1 + 1 + 1 + 1)) (.box 1 (cells ((⟨(0, 0), (0, 0)⟩ : TwoL)))))) zX ?_
  dsimp only
  refine aw_loopD (X := Nat × Nat × Nat × TwoL) (fun x => x.1 ≤ ys.length ∧ nextQ (mergeQ ((ys.map (overP e.ss f.ss)).take x.1)) x.2.2.2) (fun x => ys.length - x.1) (fun x => [(15, .own ((nx + 1 + 1 + 1 + 1 + 1 + 1 + 1 + 1 + 1 + 1 + 1 + 1)) (mergeQ ((ys.map (overP e.ss f.ss)).take x.1)).length (mergeQ ((ys.map (overP e.ss f.ss)).take x.1)).length), (18, .any), (19, .any), (20, .any), (65, .v (.int .i64 (x.1 : Int)))]) (fun x G' => (setG (setG (setG (setG (setG (setG (setG G (nx + 1 + 1 + 1 + 1) (gmap Tryz.prog 95 yy.1.1 (capp (asOf e.ss)))) (nx + 1 + 1 + 1 + 1 + 1) (gmap Tryz.prog 95 yy.1.2 (capp (backOf e.ss)))) (nx + 1 + 1 + 1 + 1 + 1 + 1 + 1) (gmap Tryz.prog 95 yy.2.1 (capp (asOf f.ss)))) (nx + 1 + 1 + 1 + 1 + 1 + 1 + 1 + 1) (gmap Tryz.prog 95 yy.2.2 (capp (backOf f.ss)))) ((nx + 1 + 1 + 1 + 1 + 1 + 1 + 1 + 1 + 1)) ((.arr ys.length (((wv + 1))) 95 2 ys.length (flatC ys)))) ((nx + 1 + 1 + 1 + 1 + 1 + 1 + 1 + 1 + 1 + 1 + 1 + 1)) (.arr ((mergeQ ((ys.map (overP e.ss f.ss)).take x.1))).length x.2.1 53 5 ((mergeQ ((ys.map (overP e.ss f.ss)).take x.1))).length (flatC ((mergeQ ((ys.map (overP e.ss f.ss)).take x.1)))))) ((nx + 1 + 1 + 1 + 1 + 1 + 1 + 1 + 1 + 1 + 1 + 1 + 1 + 1)) (.box x.2.2.1 (cells x.2.2.2)))) (0, 0, 1, ⟨(0, 0), (0, 0)⟩) rfl ?_ ?_ ?_ ?_ ?_ ?_
  ·exact ⟨Nat.zero_le _, .inl rfl⟩
  ·exact zF
  ·exact zX
  ·rintro ⟨k, wm, wb, nxt⟩ hI
   exact (by (try dsimp only); repeat' (first | exact trivial | refine ⟨?_, ?_⟩ | exact .v | exact .any | refine .elem ?_ | exact lst_low _ _ | exact cells_low _ _ | exact val_low _ _ | exact data_low _ (by (try dsimp only); omega) | exact .box (by (try dsimp only); omega) | exact nil_low | exact low_nil | exact gmap_low (capp_low _ _) | refine set_low ?_ ?_ | exact .arr (by (try dsimp only); omega) | exact .own (by (try dsimp only); omega) | exact .map (by (try dsimp only); omega) | exact flatC_low _ | refine low_cons ?_ ?_ | exact lst_low _ _))
  ·rintro ⟨k, wm, wb, nxt⟩ hI
   exact (by (repeat' (refine lowG_set ?_ (by (try dsimp only); omega) ?_)); all_goals (first | exact lowG_base zS | (repeat' (first | exact trivial | refine ⟨?_, ?_⟩ | exact .v | exact .any | refine .elem ?_ | exact lst_low _ _ | exact cells_low _ _ | exact val_low _ _ | exact data_low _ (by (try dsimp only); omega) | exact .box (by (try dsimp only); omega) | exact nil_low | exact low_nil | exact gmap_low (capp_low _ _) | refine set_low ?_ ?_ | exact .arr (by (try dsimp only); omega) | exact .own (by (try dsimp only); omega) | exact .map (by (try dsimp only); omega) | exact flatC_low _ | refine low_cons ?_ ?_ | exact lst_low _ _))))
  rintro ⟨k, wm, wb, nxt⟩ hK
  dsimp only at hK ⊢
  obtain ⟨out, hout⟩ : ∃ out, mergeQ ((ys.map (overP e.ss f.ss)).take k) = out := ⟨_, rfl⟩
  rw [hout] at hK ⊢
  have hol : out.length ≤ 60 := by
   have := mergeQ_len ((ys.map (overP e.ss f.ss)).take k)
   rw [hout, List.length_take, List.length_map] at this
   omega
  have hob : ∀ s ∈ out, PBd (((ys.map (overP e.ss f.ss)).take k).length + 1) s := hout ▸ mergeQ_bd fun r hr => hLb r (List.mem_of_mem_take hr)
  rw [List.length_take] at hob
  refine yS fun _ K15 => ?_
  refine yR ?_
  refine aops_n rfl (n_lss rfl rfl rfl) ?_
  refine yN ?_
  dsimp only [St.put]
  refine K15 _ ?_
  refine yS fun _ K16 => ?_
  refine aw_cond rfl (fun hc => ?_) (fun hc => ?_)
  ·replace hc := of_decide_eq_true hc
   obtain ⟨a, ha⟩ : ∃ x, ys[k]? = some x := some_of_lt (by omega)
   obtain ⟨p, u, hp, hpu, hov⟩ := hmem a (mem_of_get ha)
   have hax := asOf_pos hok ((back_iff hS.no).1 hp)
   have hux := asOf_pos hokf hpu
   refine aw_skip ?_
   refine K16 _ ?_
   refine yS fun _ K17 => ?_
   refine aw_block ?_
   refine yS fun _ K18 => ?_
   refine yR ?_
   try dsimp only [St.put]
   refine aops_n rfl (n_indexAddr_own (k := k) rfl rfl zG rfl (by first | exact rfl | omega) (by first | omega | (simp; omega))) ?_
   try dsimp only [St.put]
   refine aops_s rfl (s_load_own_row (α := L2) (k := k) (y := a) rfl rfl zG trivial rfl ha rfl (by decide)) ?_
   try dsimp only [St.put]
   refine aops_e rfl (e_allocC rfl ?_)
   try dsimp only [St.put]
   refine aops_e rfl (e_store_all rfl rfl rfl zG rfl rfl (by rfl) ?_)
   refine yN ?_
   dsimp only [St.put]
   refine K18 _ ?_
   refine aw_commitD (i := 18) rfl zG (by first | exact List.cons_ne_nil _ _ | (simp; done) | (simp [putAt]; done)) ?_
   dsimp only
   refine yS fun _ K19 => ?_
   refine aw_draw [(0, none), (1, none), (2, none), (3, none), (4, none), (5, none), (6, none), (7, none), (8, none), (9, none), (10, none), (11, none), (12, none), (13, none), (14, none), (15, none), (16, none)] (fun i => [16].contains i) (fun i => [15, 16].contains i) (fun i => [0, 1, 3, 4, 6, 7, 9, 10].contains i) [(nx + 1 + 1 + 1 + 1 + 1), (nx + 1 + 1 + 1 + 1 + 1 + 1 + 1)] (by kernel_rfl) (by kernel_rfl) ?_
   refine xM rfl rfl rfl rfl rfl ?_
   try dsimp only [St.put]
   refine acan1_n rfl rfl rfl rfl (n_indexAddr (k := 1) rfl rfl rfl (by first | rfl | omega) rfl rfl) ?_
   try dsimp only [St.put]
   refine acan1_s rfl rfl rfl rfl (s_load rfl rfl) ?_
   refine acan1_n rfl rfl rfl rfl (n_nilCheck rfl rfl) ?_
   refine acan1_n rfl rfl rfl rfl (n_fieldAddr' rfl rfl rfl) ?_
   try dsimp only [St.put]
   refine acan1_s rfl rfl rfl rfl (s_load rfl rfl) ?_
   refine xM rfl rfl rfl rfl rfl ?_
   try dsimp only [St.put]
   refine acan1_n rfl rfl rfl rfl (n_indexAddr (k := 0) rfl rfl rfl (by first | rfl | omega) rfl rfl) ?_
   try dsimp only [St.put]
   refine acan1_s rfl rfl rfl rfl (s_load rfl rfl) ?_
   refine acan1_n rfl rfl rfl rfl (n_nilCheck rfl rfl) ?_
   refine acan1_n rfl rfl rfl rfl (n_fieldAddr' rfl rfl rfl) ?_
   try dsimp only [St.put]
   refine acan1_s rfl rfl rfl rfl (s_load rfl rfl) ?_
   try dsimp only [St.put]
   refine acan1_s rfl rfl rfl rfl (s_load_agg' rfl rfl (Enc.len _)) ?_
   try dsimp only [St.put]
   refine acan1_s rfl rfl rfl rfl (s_lookup' a rfl rfl zG (by simp) rfl (capp_v hp)) ?_
   try dsimp only [St.put]
   refine acan1_s rfl rfl rfl rfl (s_lookup' p rfl rfl zG (by simp) rfl (capp_v hpu)) ?_
   refine acan1_two ?_
   try dsimp only [St.put]
   refine acan2_e rfl rfl rfl (e_allocC rfl ⟨zD, ?_⟩)
   try dsimp only [St.put]
   refine acan2_late rfl rfl rfl rfl (e_store_all rfl rfl rfl zG rfl rfl (by rfl) ?_)
   refine acan2_nil ?_
   dsimp only [St.put]
   refine K19 _ ?_
   refine aw_commitD (i := 19) rfl zG (by first | exact List.cons_ne_nil _ _ | (simp; done) | (simp [putAt]; done)) ?_
   dsimp only
   refine yS fun _ K20 => ?_
   refine yS fun _ K21 => ?_
   refine yR ?_
   refine yE rfl rfl rfl ?_
   try dsimp only [St.put]
   refine aops_s rfl (s_load_agg' rfl rfl rfl) ?_
   refine aops_n rfl (n_buildA rfl rfl) ?_
   try dsimp only [St.put]
   refine aops_e rfl (e_allocC rfl ?_)
   try dsimp only [St.put]
   refine aops_e rfl (e_store_all rfl rfl rfl zG rfl rfl (by rfl) ?_)
   refine yN ?_
   dsimp only [St.put]
   refine K21 _ ?_
   refine aw_commitD (i := 20) rfl zG (by first | exact List.cons_ne_nil _ _ | (simp; done) | (simp [putAt]; done)) ?_
   dsimp only
   refine yS fun _ K22 => ?_
   refine yR ?_
   refine yM rfl rfl ?_
   refine aops_n rfl (n_len_own rfl rfl) ?_
   refine aops_n rfl (n_gtr rfl rfl rfl) ?_
   refine aops_split (fun hs => ?_) (fun hs => ?_)
   ·have h2 := of_decide_eq_true hs
    obtain ⟨s, hz⟩ : ∃ x, out[out.length - 1]? = some x := some_of_lt (by omega)
    obtain ⟨b1, b2, b3, b4, b5⟩ := hob s (mem_of_get hz)
    refine yM rfl rfl ?_
    try dsimp only [St.put]
    refine aops_s rfl (s_load_agg' rfl rfl rfl) ?_
    try dsimp only [St.put]
    refine aops_s rfl (s_load_box_all rfl rfl zG trivial (by rfl)) ?_
    refine aops_n rfl (n_agg_eql (x := TwoL.mk a u) (y := nxt) rfl rfl rfl) ?_
    refine aops_n rfl (n_pt rfl rfl (by constructor)) ?_
    refine yN ?_
    dsimp only [St.put]
    refine K22 _ ?_
    refine aw_cond rfl (fun hc => ?_) (fun hc => ?_)
    ·have ho := stepQ_on hz ((nextQ_on hK.2 hz).symm.trans hc)
     refine yR ?_
     refine yM rfl rfl ?_
     refine yM rfl rfl ?_
     refine aops_n rfl (n_len_own rfl rfl) ?_
     refine aops_n rfl (n_sub rfl rfl rfl (by omega)) ?_
     try dsimp only [St.put]
     refine aops_n rfl (n_indexAddr_own (k := (out.length - 1)) rfl rfl zG rfl (by first | exact rfl | omega) (by first | omega | (simp; omega))) ?_
     refine aops_n rfl (n_fieldAddr_box rfl rfl) ?_
     try dsimp only [St.put]
     refine aops_s rfl (s_load_own rfl rfl zG trivial (flatC_get (by assumption) rfl)) ?_
     refine aops_n rfl (n_add rfl rfl rfl (by omega)) ?_
     try dsimp only [St.put]
     refine aops_n rfl (n_indexAddr_own (k := (out.length - 1)) rfl rfl zG rfl (by first | exact rfl | omega) (by first | omega | (simp; omega))) ?_
     refine aops_n rfl (n_fieldAddr_box rfl rfl) ?_
     try dsimp only [St.put]
     refine aops_e rfl (e_store_own1 (k := out.length - 1) (j := 4) (z := s) (z' := { s with n := s.n + 1 }) rfl rfl rfl zG rfl rfl hz rfl (by decide) rfl ?_)
     refine yN ?_
     dsimp only [St.put]
     refine K20 _ ?_
     refine yR ?_
     try dsimp only [St.put]
     refine aops_n rfl (n_indexAddr_aelem (k := 0) rfl rfl rfl (by first | exact rfl | omega) (by first | decide | omega) rfl) ?_
     refine yL rfl rfl rfl ?_
     try dsimp only [St.put]
     refine aops_n rfl (n_indexAddr_aelem (k := 1) rfl rfl rfl (by first | exact rfl | omega) (by first | decide | omega) rfl) ?_
     refine yL rfl rfl rfl ?_
     refine aops_n rfl (n_add rfl rfl rfl (by omega)) ?_
     refine aops_n rfl (n_buildA rfl rfl) ?_
     try dsimp only [St.put]
     refine aops_n rfl (n_indexAddr_aelem (k := 0) rfl rfl rfl (by first | exact rfl | omega) (by first | decide | omega) rfl) ?_
     refine yL rfl rfl rfl ?_
     try dsimp only [St.put]
     refine aops_n rfl (n_indexAddr_aelem (k := 1) rfl rfl rfl (by first | exact rfl | omega) (by first | decide | omega) rfl) ?_
     refine yL rfl rfl rfl ?_
     refine aops_n rfl (n_add rfl rfl rfl (by omega)) ?_
     refine aops_n rfl (n_buildA rfl rfl) ?_
     refine aops_n rfl (n_buildA rfl rfl) ?_
     try dsimp only [St.put]
     refine aops_e rfl (e_store_all rfl rfl rfl zG rfl rfl (by rfl) ?_)
     refine yN ?_
     dsimp only [St.put]
     refine K17 _ ?_
     refine yR ?_
     refine aops_n rfl (n_add rfl rfl rfl (by omega)) ?_
     refine yM rfl rfl ?_
     refine yN ?_
     dsimp only [St.put]
     have e2 := mergeQ_succ (map_get (f := overP e.ss f.ss) ha)
     rw [hout, hov] at e2
     have hnq := nextQ_step a u hK.2
     first
     | (rw [hm] at e2 hnq
        have e3 : out.length + 1 = (mergeQ ((ys.map (overP e.ss f.ss)).take (k + 1))).length := by rw [e2]; simp
        rw [← e2] at hnq ⊢
        rw [e3]
        exact ⟨(k + 1, wm, wb + 1, ⟨(a.1, a.2 + 1), (u.1, u.2 + 1)⟩), by (dsimp only; omega), ⟨by (dsimp only; omega), hnq⟩, ⟨⟨rfl, rfl⟩, zF, zB, zN, zX⟩⟩)
     | (rw [ho] at e2 hnq
        have e3 : out.length = (mergeQ ((ys.map (overP e.ss f.ss)).take (k + 1))).length := by rw [e2]; simp
        rw [← e2] at hnq ⊢
        rw [e3]
        exact ⟨(k + 1, wm + 1, wb + 1, ⟨(a.1, a.2 + 1), (u.1, u.2 + 1)⟩), by (dsimp only; omega), ⟨by (dsimp only; omega), hnq⟩, ⟨⟨rfl, rfl⟩, zF, zB, zN, zX⟩⟩)
    try have hm := stepQ_new hz ((nextQ_on hK.2 hz).symm.trans hc)
    refine yR ?_
    refine yM rfl rfl ?_
    try dsimp only [St.put]
    refine aops_n rfl (n_indexAddr_aelem (k := 0) rfl rfl rfl (by first | exact rfl | omega) (by first | decide | omega) rfl) ?_
    refine yL rfl rfl rfl ?_
    try dsimp only [St.put]
    refine aops_n rfl (n_indexAddr_aelem (k := 1) rfl rfl rfl (by first | exact rfl | omega) (by first | decide | omega) rfl) ?_
    refine yL rfl rfl rfl ?_
    try dsimp only [St.put]
    refine aops_n rfl (n_indexAddr_aelem (k := 0) rfl rfl rfl (by first | exact rfl | omega) (by first | decide | omega) rfl) ?_
    refine yL rfl rfl rfl ?_
    try dsimp only [St.put]
    refine aops_n rfl (n_indexAddr_aelem (k := 1) rfl rfl rfl (by first | exact rfl | omega) (by first | decide | omega) rfl) ?_
    refine yL rfl rfl rfl ?_
    refine aops_n rfl (n_build rfl rfl) ?_
    try dsimp only [St.put]
    refine aops_e rfl (e_buildSlice rfl rfl rfl (by decide) (by decide) zR (by decide) ?_)
    try dsimp only [St.put]
    refine aops_e rfl (e_append_own (passOf a u) rfl rfl zG rfl rfl rfl rfl zA ?_ zA)
    refine yA rfl rfl ?_
    refine yN ?_
    dsimp only [St.put]
    refine K20 _ ?_
    refine yR ?_
    try dsimp only [St.put]
    refine aops_n rfl (n_indexAddr_aelem (k := 0) rfl rfl rfl (by first | exact rfl | omega) (by first | decide | omega) rfl) ?_
    refine yL rfl rfl rfl ?_
    try dsimp only [St.put]
    refine aops_n rfl (n_indexAddr_aelem (k := 1) rfl rfl rfl (by first | exact rfl | omega) (by first | decide | omega) rfl) ?_
    refine yL rfl rfl rfl ?_
    refine aops_n rfl (n_add rfl rfl rfl (by omega)) ?_
    refine aops_n rfl (n_buildA rfl rfl) ?_
    try dsimp only [St.put]
    refine aops_n rfl (n_indexAddr_aelem (k := 0) rfl rfl rfl (by first | exact rfl | omega) (by first | decide | omega) rfl) ?_
    refine yL rfl rfl rfl ?_
    try dsimp only [St.put]
    refine aops_n rfl (n_indexAddr_aelem (k := 1) rfl rfl rfl (by first | exact rfl | omega) (by first | decide | omega) rfl) ?_
    refine yL rfl rfl rfl ?_
    refine aops_n rfl (n_add rfl rfl rfl (by omega)) ?_
    refine aops_n rfl (n_buildA rfl rfl) ?_
    refine aops_n rfl (n_buildA rfl rfl) ?_
    try dsimp only [St.put]
    refine aops_e rfl (e_store_all rfl rfl rfl zG rfl rfl (by rfl) ?_)
    refine yN ?_
    dsimp only [St.put]
    refine K17 _ ?_
    refine yR ?_
    refine aops_n rfl (n_add rfl rfl rfl (by omega)) ?_
    refine yM rfl rfl ?_
    refine yN ?_
    dsimp only [St.put]
    have e2 := mergeQ_succ (map_get (f := overP e.ss f.ss) ha)
    rw [hout, hov] at e2
    have hnq := nextQ_step a u hK.2
    first
    | (rw [hm] at e2 hnq
       have e3 : out.length + 1 = (mergeQ ((ys.map (overP e.ss f.ss)).take (k + 1))).length := by rw [e2]; simp
       rw [← e2] at hnq ⊢
       rw [e3]
       exact ⟨(k + 1, wm, wb + 1, ⟨(a.1, a.2 + 1), (u.1, u.2 + 1)⟩), by (dsimp only; omega), ⟨by (dsimp only; omega), hnq⟩, ⟨⟨rfl, rfl⟩, zF, zB, zN, zX⟩⟩)
    | (rw [ho] at e2 hnq
       have e3 : out.length = (mergeQ ((ys.map (overP e.ss f.ss)).take (k + 1))).length := by rw [e2]; simp
       rw [← e2] at hnq ⊢
       rw [e3]
       exact ⟨(k + 1, wm + 1, wb + 1, ⟨(a.1, a.2 + 1), (u.1, u.2 + 1)⟩), by (dsimp only; omega), ⟨by (dsimp only; omega), hnq⟩, ⟨⟨rfl, rfl⟩, zF, zB, zN, zX⟩⟩)
   have h2 := of_decide_eq_false hs
   have hm : stepQ out (passOf a u) = out ++ [passOf a u] := stepQ_nil (List.eq_nil_of_length_eq_zero (by omega))
   refine yM rfl rfl ?_
   refine yK rfl ?_
   refine yK rfl ?_
   refine yK rfl ?_
   refine aops_n rfl (n_pf rfl rfl (by constructor)) ?_
   refine yN ?_
   dsimp only [St.put]
   refine K22 _ ?_
   refine aw_cond rfl (fun h => by cases h) (fun _ => ?_)
   try have hm := stepQ_new hz ((nextQ_on hK.2 hz).symm.trans hc)
   refine yR ?_
   refine yM rfl rfl ?_
   try dsimp only [St.put]
   refine aops_n rfl (n_indexAddr_aelem (k := 0) rfl rfl rfl (by first | exact rfl | omega) (by first | decide | omega) rfl) ?_
   refine yL rfl rfl rfl ?_
   try dsimp only [St.put]
   refine aops_n rfl (n_indexAddr_aelem (k := 1) rfl rfl rfl (by first | exact rfl | omega) (by first | decide | omega) rfl) ?_
   refine yL rfl rfl rfl ?_
   try dsimp only [St.put]
   refine aops_n rfl (n_indexAddr_aelem (k := 0) rfl rfl rfl (by first | exact rfl | omega) (by first | decide | omega) rfl) ?_
   refine yL rfl rfl rfl ?_
   try dsimp only [St.put]
   refine aops_n rfl (n_indexAddr_aelem (k := 1) rfl rfl rfl (by first | exact rfl | omega) (by first | decide | omega) rfl) ?_
   refine yL rfl rfl rfl ?_
   refine aops_n rfl (n_build rfl rfl) ?_
   try dsimp only [St.put]
   refine aops_e rfl (e_buildSlice rfl rfl rfl (by decide) (by decide) zR (by decide) ?_)
   try dsimp only [St.put]
   refine aops_e rfl (e_append_own (passOf a u) rfl rfl zG rfl rfl rfl rfl zA ?_ zA)
   refine yA rfl rfl ?_
   refine yN ?_
   dsimp only [St.put]
   refine K20 _ ?_
   refine yR ?_
   try dsimp only [St.put]
   refine aops_n rfl (n_indexAddr_aelem (k := 0) rfl rfl rfl (by first | exact rfl | omega) (by first | decide | omega) rfl) ?_
   refine yL rfl rfl rfl ?_
   try dsimp only [St.put]
   refine aops_n rfl (n_indexAddr_aelem (k := 1) rfl rfl rfl (by first | exact rfl | omega) (by first | decide | omega) rfl) ?_
   refine yL rfl rfl rfl ?_
   refine aops_n rfl (n_add rfl rfl rfl (by omega)) ?_
   refine aops_n rfl (n_buildA rfl rfl) ?_
   try dsimp only [St.put]
   refine aops_n rfl (n_indexAddr_aelem (k := 0) rfl rfl rfl (by first | exact rfl | omega) (by first | decide | omega) rfl) ?_
   refine yL rfl rfl rfl ?_
   try dsimp only [St.put]
   refine aops_n rfl (n_indexAddr_aelem (k := 1) rfl rfl rfl (by first | exact rfl | omega) (by first | decide | omega) rfl) ?_
   refine yL rfl rfl rfl ?_
   refine aops_n rfl (n_add rfl rfl rfl (by omega)) ?_
   refine aops_n rfl (n_buildA rfl rfl) ?_
   refine aops_n rfl (n_buildA rfl rfl) ?_
   try dsimp only [St.put]
   refine aops_e rfl (e_store_all rfl rfl rfl zG rfl rfl (by rfl) ?_)
   refine yN ?_
   dsimp only [St.put]
   refine K17 _ ?_
   refine yR ?_
   refine aops_n rfl (n_add rfl rfl rfl (by omega)) ?_
   refine yM rfl rfl ?_
   refine yN ?_
   dsimp only [St.put]
   have e2 := mergeQ_succ (map_get (f := overP e.ss f.ss) ha)
   rw [hout, hov] at e2
   have hnq := nextQ_step a u hK.2
   first
   | (rw [hm] at e2 hnq
      have e3 : out.length + 1 = (mergeQ ((ys.map (overP e.ss f.ss)).take (k + 1))).length := by rw [e2]; simp
      rw [← e2] at hnq ⊢
      rw [e3]
      exact ⟨(k + 1, wm, wb + 1, ⟨(a.1, a.2 + 1), (u.1, u.2 + 1)⟩), by (dsimp only; omega), ⟨by (dsimp only; omega), hnq⟩, ⟨⟨rfl, rfl⟩, zF, zB, zN, zX⟩⟩)
   | (rw [ho] at e2 hnq
      have e3 : out.length = (mergeQ ((ys.map (overP e.ss f.ss)).take (k + 1))).length := by rw [e2]; simp
      rw [← e2] at hnq ⊢
      rw [e3]
      exact ⟨(k + 1, wm + 1, wb + 1, ⟨(a.1, a.2 + 1), (u.1, u.2 + 1)⟩), by (dsimp only; omega), ⟨by (dsimp only; omega), hnq⟩, ⟨⟨rfl, rfl⟩, zF, zB, zN, zX⟩⟩)
  replace hc := of_decide_eq_false hc
  refine aw_exit ?_
  refine K13 _ ?_
  refine yS fun _ K23 => ?_
  refine yR ?_
  refine yM rfl rfl ?_
  refine yA rfl rfl ?_
  refine yA rfl rfl ?_
  refine yN ?_
  dsimp only [St.put]
  have hf : out = mergeQ (ys.map (overP e.ss f.ss)) := by rw [← hout, take_all (show (ys.map (overP e.ss f.ss)).length ≤ k by rw [List.length_map]; omega)]
  subst hf
  refine K23 _ ?_
  refine aw_commit_own 6 (mergeQ (ys.map (overP e.ss f.ss))) rfl zG rfl rfl rfl ?_
  dsimp only
  refine aw_ret ?_
  refine ends_2 rfl (by constructor) (by constructor) zN zS ?_ ?_
  ·rw [hcl]
   rfl
  exact vi hb.symm
 obtain ⟨p, hp, rfl⟩ := capp_some' hym
 have hIn : ∀ z ∈ ks, ∀ x ∈ done ++ [z], x ∈ ks := fun z hz x hx => by
  rcases List.mem_append.1 hx with hx | hx
  ·exact hI.1 x hx
  rw [List.mem_singleton] at hx; exact hx ▸ hz
 have hIu : ∀ z, z ∉ done → (done ++ [z]).Nodup := fun z hz => List.nodup_append.2 ⟨hI.2, by simp, fun a ha b hb => by
  rw [List.mem_singleton] at hb; subst hb; exact fun e => hz (e ▸ ha)⟩
 refine yX rfl rfl rfl rfl ?_
 refine yN ?_
 dsimp only [St.put]
 refine K8 _ ?_
 refine yS fun _ K24 => ?_
 refine aw_cond rfl (fun _ => ?_) (fun h => by cases h)
 refine aw_skip ?_
 refine K24 _ ?_
 refine aw_block ?_
 refine yS fun _ K25 => ?_
 refine yR ?_
 try dsimp only [St.put]
 refine aops_s rfl (s_entry (fx := (nx + 1 + 1 + 1 + 1 + 1 + 1 + 1 + 1 + 1 + 1 + 1)) (n := (nx + 1 + 1 + 1 + 1 + 1)) rfl rfl zG trivial zG zG trivial (by assumption)) ?_
 refine yX rfl rfl rfl rfl ?_
 refine yX rfl rfl rfl rfl ?_
 try dsimp only [St.put]
 refine aops_e rfl (e_allocC rfl ?_)
 try dsimp only [St.put]
 refine aops_e rfl (e_allocC rfl ?_)
 try dsimp only [St.put]
 refine aops_e rfl (e_store_all rfl rfl rfl zG rfl rfl (by rfl) ?_)
 try dsimp only [St.put]
 refine aops_e rfl (e_store_all rfl rfl rfl zG rfl rfl (by rfl) ?_)
 refine yN ?_
 dsimp only [St.put]
 refine K25 _ ?_
 refine aw_commitD (i := 11) rfl zG (by first | exact List.cons_ne_nil _ _ | (simp; done) | (simp [putAt]; done)) ?_
 refine aw_commitD (i := 12) rfl zG (by first | exact List.cons_ne_nil _ _ | (simp; done) | (simp [putAt]; done)) ?_
 dsimp only
 refine yS fun _ K26 => ?_
 obtain ⟨v1, hv1⟩ : ∃ v : L2, (capp (asOf f.ss) p).getD (constC (.agg #[.int .i64 0, .int .i64 0])) = .agg [.v (.int .i64 v.1), .v (.int .i64 v.2)] := capp_get _ _
 obtain ⟨b1, hb1⟩ : ∃ b, (capp (asOf f.ss) p).isSome = b := ⟨_, rfl⟩
 have hov0 : (overO e.ss f.ss y).isSome = b1 := by rw [← hb1]; simp [overO, hp, capp]
 refine aw_draw [(0, none), (1, none), (2, none), (3, none), (4, none), (5, none), (6, none), (7, none), (8, none), (9, none), (10, none), (11, none), (12, none), (13, none)] (fun i => [12].contains i) (fun i => [11, 12].contains i) (fun i => [0, 1, 3, 4, 8, 9, 10, 13].contains i) [(nx + 1 + 1 + 1 + 1 + 1 + 1 + 1)] (by kernel_rfl) (by kernel_rfl) ?_
 refine xM rfl rfl rfl rfl rfl ?_
 try dsimp only [St.put]
 refine acan1_n rfl rfl rfl rfl (n_indexAddr (k := 1) rfl rfl rfl (by first | rfl | omega) rfl rfl) ?_
 try dsimp only [St.put]
 refine acan1_s rfl rfl rfl rfl (s_load rfl rfl) ?_
 refine acan1_n rfl rfl rfl rfl (n_nilCheck rfl rfl) ?_
 refine acan1_n rfl rfl rfl rfl (n_fieldAddr' rfl rfl rfl) ?_
 try dsimp only [St.put]
 refine acan1_s rfl rfl rfl rfl (s_load rfl rfl) ?_
 try dsimp only [St.put]
 refine acan1_s rfl rfl rfl rfl (s_load_agg' rfl rfl rfl) ?_
 try dsimp only [St.put]
 refine acan1_s rfl rfl rfl rfl (s_lookupOk' p rfl rfl zG (by simp) rfl hv1 hb1) ?_
 refine xM rfl rfl rfl rfl rfl ?_
 refine acan1_n rfl rfl rfl rfl (n_extract rfl rfl rfl) ?_
 refine acan1_n rfl rfl rfl rfl (n_extract rfl rfl rfl) ?_
 refine acan1_two ?_
 try dsimp only [St.put]
 refine acan2_e rfl rfl rfl (e_allocC rfl ⟨zD, ?_⟩)
 try dsimp only [St.put]
 refine acan2_late rfl rfl rfl rfl (e_store_all rfl rfl rfl zG rfl rfl (by rfl) ?_)
 refine acan2_n rfl rfl rfl rfl (n_as rfl (by constructor)) ?_
 refine acan2_nil ?_
 dsimp only [St.put]
 refine K26 _ ?_
 refine yS fun _ K27 => ?_
 refine yR ?_
 refine yM rfl rfl ?_
 refine yN ?_
 dsimp only [St.put]
 refine K27 _ ?_
 refine aw_cond rfl (fun hc => ?_) (fun hc => ?_)
 ·have hov : (overO e.ss f.ss y).isSome = true := hov0.trans hc
  have hbl := back_len hS (List.Pairwise.filter (fun a => (overO e.ss f.ss a).isSome) hI.2) fun x hx => (hks x).2 (hI.1 x (List.mem_filter.1 hx).1)
  refine yR ?_
  refine yM rfl rfl ?_
  try dsimp only [St.put]
  refine aops_s rfl (s_load_agg' rfl rfl rfl) ?_
  try dsimp only [St.put]
  refine aops_e rfl (e_buildSlice rfl rfl rfl (by decide) (by decide) zR (by decide) ?_)
  try dsimp only [St.put]
  refine aops_e rfl (e_append_own y rfl rfl zG rfl rfl rfl rfl zA ?_ zA)
  refine yA rfl rfl ?_
  refine yN ?_
  dsimp only [St.put]
  first
   | (rw [show (done.filter (fun a => (overO e.ss f.ss a).isSome)) ++ [y] = (((done ++ [y])).filter (fun a => (overO e.ss f.ss a).isSome)) by rw [List.filter_append]; simp [hov]]
      simp only [show (done.filter (fun a => (overO e.ss f.ss a).isSome)).length + 1 = (((done ++ [y])).filter (fun a => (overO e.ss f.ss a).isSome)).length by rw [List.filter_append]; simp [hov]]
      exact ⟨(done ++ [y], wi + 1, wv), leftN_lt hyk hyd, ⟨hIn y hyk, hIu y hyd⟩, ⟨⟨rfl, rfl⟩, zF, zB, zN, zX⟩⟩)
   | (rw [show (done.filter (fun a => (overO e.ss f.ss a).isSome)) = (((done ++ [y])).filter (fun a => (overO e.ss f.ss a).isSome)) by rw [List.filter_append]; simp [hov]]
      exact ⟨(done ++ [y], wi + 1, wv), leftN_lt hyk hyd, ⟨hIn y hyk, hIu y hyd⟩, ⟨⟨rfl, rfl⟩, zF, zB, zN, zX⟩⟩)
 have hov : (overO e.ss f.ss y).isSome = false := hov0.trans hc
 refine aw_skip ?_
 first
  | (rw [show (done.filter (fun a => (overO e.ss f.ss a).isSome)) ++ [y] = (((done ++ [y])).filter (fun a => (overO e.ss f.ss a).isSome)) by rw [List.filter_append]; simp [hov]]
     simp only [show (done.filter (fun a => (overO e.ss f.ss a).isSome)).length + 1 = (((done ++ [y])).filter (fun a => (overO e.ss f.ss a).isSome)).length by rw [List.filter_append]; simp [hov]]
     exact ⟨(done ++ [y], wi + 1, wv), leftN_lt hyk hyd, ⟨hIn y hyk, hIu y hyd⟩, ⟨⟨rfl, rfl⟩, zF, zB, zN, zX⟩⟩)
  | (rw [show (done.filter (fun a => (overO e.ss f.ss a).isSome)) = (((done ++ [y])).filter (fun a => (overO e.ss f.ss a).isSome)) by rw [List.filter_append]; simp [hov]]
     exact ⟨(done ++ [y], wi + 1, wv), leftN_lt hyk hyd, ⟨hIn y hyk, hIu y hyd⟩, ⟨⟨rfl, rfl⟩, zF, zB, zN, zX⟩⟩)
theorem chartCross_pureF (t : TextD) (e f : EditionD) (hl : e.ss.length ≤ 20) (hlf : f.ss.length ≤ 20) :
  PureF chkF Tryz.prog 14 [textC t, val e, val f] (.tup [lst (crossL t e f), .v (.int .i64 (bothEr t e f))]) := by
 by_cases h : bothEr t e f = 0
 ·exact chartCross_ok t e f hl hlf h
 exact chartCross_no t e f hl hlf h
end Go.Proofs.YtjjklfgpffgnfabGreatDoor
