/-
  The law ChartRefers: its walk.
-/
import Derived.Test.YtjjklfgpffgnfaaDoorEfCross
import Derived.Test.YtjjklfgpffgnfaaDoorEiCross
import Derived.Test.YtjjklfgpffgnfaaDoorCzLaw
namespace Go.Proofs.YtjjklfgpffgnfaaDoor
set_option maxRecDepth 10000
open Go.RowKit Go.AB
open Go.AB.Enc (cells)
open Go.PB (Chap TextD PlaceD ReadingD CopyD WayD)
theorem SamePasses_self (a : List PassD) : Pure Tryd.prog 33 [lst a, lst a] (.v (.bool true)) := by
  have := SamePasses_pure a a
  rwa [decide_eq_true rfl] at this
set_option maxHeartbeats 4000000 in
theorem refers_pureF (t : TextD) (e f : EditionD) (p : PlaceD) (r : RefD) : PureF chkF Tryd.prog 5 [textC t, val e, val f, val p, val r] (.v (.bool true)) := by
  refine pureF_of_body Tryd.func5 rfl (fun m => .v) fun G nx hF => ?_
  simp only [Tryd.ntmps5, List.length_cons, List.length_nil, Nat.reduceAdd, Nat.reduceSub]
  refine aw_lt fun hlt => ?_
  dsimp only at hlt
  have hnx := hlt 0 _ hF
  refine aw_seq_k fun K1 hK1 => ?_
  refine aw_region ?_
  try dsimp only [St.put]
  refine aops_e rfl (e_box rfl rfl (by simp) ?_)
  try dsimp only [St.put]
  refine aops_e rfl (e_box rfl rfl (by simp) ?_)
  try dsimp only [St.put]
  refine aops_e rfl (e_box rfl rfl (by simp) ?_)
  try dsimp only [St.put]
  refine aops_e rfl (e_box rfl rfl (by simp) ?_)
  try dsimp only [St.put]
  refine aops_e rfl (e_box rfl rfl (by simp) ?_)
  refine aops_n rfl (n_as rfl (by constructor)) ?_
  refine aops_nil ?_
  dsimp only [St.put]
  refine hK1 _ ?_
  refine aw_seq_k fun K2 hK2 => ?_
  refine aw_seq_k fun K3 hK3 => ?_
  refine aw_region ?_
  try dsimp only [St.put]
  first | refine aops_s rfl (s_load rfl rfl) ?_ | refine aops_s rfl (s_load_agg' rfl rfl (Enc.len _)) ?_ | refine aops_s rfl (s_load_agg' rfl rfl rfl) ?_ | refine aops_s rfl (s_load_box rfl rfl zG trivial (by first | rfl | assumption)) ?_ | refine aops_s rfl (s_load_box_all rfl rfl zG trivial (by rfl)) ?_ | refine aops_s rfl (s_load_box_agg rfl rfl zG trivial (by simp)) ?_ | refine aops_s rfl (s_load_own rfl rfl zG trivial (flatC_get (by assumption) rfl)) ?_ | refine aops_s rfl (s_load_own rfl rfl zG trivial (by assumption)) ?_ | refine aops_s rfl (s_load_own_row rfl rfl zG trivial rfl (by assumption) rfl (by decide)) ?_ | refine aops_s rfl (s_load_fact rfl rfl zG (by rfl)) ?_
  try dsimp only [St.put]
  first | refine aops_s rfl (s_load rfl rfl) ?_ | refine aops_s rfl (s_load_agg' rfl rfl (Enc.len _)) ?_ | refine aops_s rfl (s_load_agg' rfl rfl rfl) ?_ | refine aops_s rfl (s_load_box rfl rfl zG trivial (by first | rfl | assumption)) ?_ | refine aops_s rfl (s_load_box_all rfl rfl zG trivial (by rfl)) ?_ | refine aops_s rfl (s_load_box_agg rfl rfl zG trivial (by simp)) ?_ | refine aops_s rfl (s_load_own rfl rfl zG trivial (flatC_get (by assumption) rfl)) ?_ | refine aops_s rfl (s_load_own rfl rfl zG trivial (by assumption)) ?_ | refine aops_s rfl (s_load_own_row rfl rfl zG trivial rfl (by assumption) rfl (by decide)) ?_ | refine aops_s rfl (s_load_fact rfl rfl zG (by rfl)) ?_
  try dsimp only [St.put]
  first | refine aops_s rfl (s_load rfl rfl) ?_ | refine aops_s rfl (s_load_agg' rfl rfl (Enc.len _)) ?_ | refine aops_s rfl (s_load_agg' rfl rfl rfl) ?_ | refine aops_s rfl (s_load_box rfl rfl zG trivial (by first | rfl | assumption)) ?_ | refine aops_s rfl (s_load_box_all rfl rfl zG trivial (by rfl)) ?_ | refine aops_s rfl (s_load_box_agg rfl rfl zG trivial (by simp)) ?_ | refine aops_s rfl (s_load_own rfl rfl zG trivial (flatC_get (by assumption) rfl)) ?_ | refine aops_s rfl (s_load_own rfl rfl zG trivial (by assumption)) ?_ | refine aops_s rfl (s_load_own_row rfl rfl zG trivial rfl (by assumption) rfl (by decide)) ?_ | refine aops_s rfl (s_load_fact rfl rfl zG (by rfl)) ?_
  try dsimp only [St.put]
  refine aops_e rfl (e_buildSlice rfl rfl rfl (by decide) (by decide) zR (by decide) ?_)
  try dsimp only [St.put]
  refine aops_e rfl (e_call_pure rfl rfl rfl (great2_pure t [e, f]) ?_)
  refine aops_nil ?_
  dsimp only [St.put]
  refine hK3 _ ?_
  refine aw_cond rfl (fun hc => ?_) (fun hc => ?_)
  · skip
    refine aw_seq_k fun K4 hK4 => ?_
    refine aw_region ?_
    refine aops_n rfl (n_as rfl (by constructor)) ?_
    refine aops_nil ?_
    dsimp only [St.put]
    refine hK4 _ ?_
    refine aw_ret ?_
    refine ends_1 rfl (by constructor) zN zS ?_
    rfl
  · have hgt : greatB t = false := by simp at hc; exact hc.2
    have hle : e.ss.length ≤ 20 := by simp at hc; omega
    have hlf : f.ss.length ≤ 20 := by simp at hc; omega
    refine aw_skip ?_
    refine hK2 _ ?_
    refine aw_wipe 14 ?_
    simp only [firsts, getA, Nat.reduceAdd, List.getD_cons_zero, List.getD_cons_succ, List.getD_nil, natBeq, Nat.reduceBEq, cond_true, cond_false]
    refine aw_cutD (X := Unit) (fun _ => True) (fun _ => [(11, .elem [lst t]), (12, .elem (cells e)), (13, .elem (cells f))]) (fun _ G' => G') rfl ?_ (fun _ _ _ _ h => .inl h) ?_ ?_
    · rintro _ hI
      exact zL
    · refine aw_drawT [(0, none), (2, none), (4, none)] (fun _ => false) (fun i => [].contains i) 9 [true, false, true, false, true, false, false, false, false, false, false, false] (by kernel_rfl) (by kernel_rfl) ?_
      try dsimp only [St.put]
      first | refine acan1_s rfl rfl rfl rfl (s_load rfl rfl) ?_ | refine acan1_s rfl rfl rfl rfl (s_load_agg' rfl rfl (Enc.len _)) ?_ | refine acan1_s rfl rfl rfl rfl (s_load_agg' rfl rfl rfl) ?_ | refine acan1_s rfl rfl rfl rfl (s_load_box rfl rfl zG (by simp) (by first | rfl | assumption)) ?_ | refine acan1_s rfl rfl rfl rfl (s_load_box_all rfl rfl zG (by simp) (by rfl)) ?_ | refine acan1_s rfl rfl rfl rfl (s_load_box_agg rfl rfl zG (by simp) (by simp)) ?_ | refine acan1_s rfl rfl rfl rfl (s_load_own rfl rfl zG (by simp) (flatC_get (by assumption) rfl)) ?_ | refine acan1_s rfl rfl rfl rfl (s_load_own rfl rfl zG (by simp) (by assumption)) ?_ | refine acan1_s rfl rfl rfl rfl (s_load_own_row rfl rfl zG (by simp) rfl (by assumption) rfl (by decide)) ?_ | refine acan1_s rfl rfl rfl rfl (s_load_fact rfl rfl zG (by rfl)) ?_
      try dsimp only [St.put]
      first | refine acan1_s rfl rfl rfl rfl (s_load rfl rfl) ?_ | refine acan1_s rfl rfl rfl rfl (s_load_agg' rfl rfl (Enc.len _)) ?_ | refine acan1_s rfl rfl rfl rfl (s_load_agg' rfl rfl rfl) ?_ | refine acan1_s rfl rfl rfl rfl (s_load_box rfl rfl zG (by simp) (by first | rfl | assumption)) ?_ | refine acan1_s rfl rfl rfl rfl (s_load_box_all rfl rfl zG (by simp) (by rfl)) ?_ | refine acan1_s rfl rfl rfl rfl (s_load_box_agg rfl rfl zG (by simp) (by simp)) ?_ | refine acan1_s rfl rfl rfl rfl (s_load_own rfl rfl zG (by simp) (flatC_get (by assumption) rfl)) ?_ | refine acan1_s rfl rfl rfl rfl (s_load_own rfl rfl zG (by simp) (by assumption)) ?_ | refine acan1_s rfl rfl rfl rfl (s_load_own_row rfl rfl zG (by simp) rfl (by assumption) rfl (by decide)) ?_ | refine acan1_s rfl rfl rfl rfl (s_load_fact rfl rfl zG (by rfl)) ?_
      try dsimp only [St.put]
      first | refine acan1_s rfl rfl rfl rfl (s_load rfl rfl) ?_ | refine acan1_s rfl rfl rfl rfl (s_load_agg' rfl rfl (Enc.len _)) ?_ | refine acan1_s rfl rfl rfl rfl (s_load_agg' rfl rfl rfl) ?_ | refine acan1_s rfl rfl rfl rfl (s_load_box rfl rfl zG (by simp) (by first | rfl | assumption)) ?_ | refine acan1_s rfl rfl rfl rfl (s_load_box_all rfl rfl zG (by simp) (by rfl)) ?_ | refine acan1_s rfl rfl rfl rfl (s_load_box_agg rfl rfl zG (by simp) (by simp)) ?_ | refine acan1_s rfl rfl rfl rfl (s_load_own rfl rfl zG (by simp) (flatC_get (by assumption) rfl)) ?_ | refine acan1_s rfl rfl rfl rfl (s_load_own rfl rfl zG (by simp) (by assumption)) ?_ | refine acan1_s rfl rfl rfl rfl (s_load_own_row rfl rfl zG (by simp) rfl (by assumption) rfl (by decide)) ?_ | refine acan1_s rfl rfl rfl rfl (s_load_fact rfl rfl zG (by rfl)) ?_
      refine acan1_nil ?_
      repeat' (first
        | with_reducible exact aeach_nil
        | with_reducible refine aeach_cons ?_ ?_
        | ((with_reducible show AOne _ _ _ _ _ _ 1 _); (try dsimp only [St.put]); (refine aone_e rfl rfl rfl (e_call_pure rfl rfl rfl (Twin_pure t hgt) ?_)); (try dsimp only [List.set_cons_zero, List.set_cons_succ]))
        | ((with_reducible show AOne _ _ _ _ _ _ 3 _); (try dsimp only [St.put]); (refine aone_e rfl rfl rfl (e_call_pure rfl rfl rfl (Twin2_pure e (by omega)) ?_)); (try dsimp only [List.set_cons_zero, List.set_cons_succ]))
        | ((with_reducible show AOne _ _ _ _ _ _ 5 _); (try dsimp only [St.put]); (refine aone_e rfl rfl rfl (e_call_pure rfl rfl rfl (Twin2_pure f (by omega)) ?_)); (try dsimp only [List.set_cons_zero, List.set_cons_succ]))
        | ((with_reducible show AOne _ _ _ _ _ _ 6 _); (try dsimp only [St.put]); (refine aone_e rfl rfl rfl (e_allocC rfl ?_)); (try dsimp only [List.set_cons_zero, List.set_cons_succ]))
        | ((with_reducible show AOne _ _ _ _ _ _ 7 _); (try dsimp only [St.put]); (refine aone_e rfl rfl rfl (e_allocC rfl ?_)); (try dsimp only [List.set_cons_zero, List.set_cons_succ]))
        | ((with_reducible show AOne _ _ _ _ _ _ 8 _); (try dsimp only [St.put]); (refine aone_e rfl rfl rfl (e_allocC rfl ?_)); (try dsimp only [List.set_cons_zero, List.set_cons_succ]))
        | ((with_reducible show AOne _ _ _ _ _ _ 9 _); (try dsimp only [St.put]); (first | refine aone_e rfl rfl rfl (e_store_all rfl rfl rfl zG rfl rfl (by rfl) ?_) | refine aone_e rfl rfl rfl (e_store_one rfl rfl rfl zG (by constructor) rfl (by first | (simp; done) | (simp; omega) | exact Nat.lt_of_lt_of_eq (by decide) (Enc.len _).symm) ?_)); (try dsimp only [List.set_cons_zero, List.set_cons_succ]))
        | ((with_reducible show AOne _ _ _ _ _ _ 10 _); (try dsimp only [St.put]); (first | refine aone_e rfl rfl rfl (e_store_all rfl rfl rfl zG rfl rfl (by rfl) ?_) | refine aone_e rfl rfl rfl (e_store_one rfl rfl rfl zG (by constructor) rfl (by first | (simp; done) | (simp; omega) | exact Nat.lt_of_lt_of_eq (by decide) (Enc.len _).symm) ?_)); (try dsimp only [List.set_cons_zero, List.set_cons_succ]))
        | ((with_reducible show AOne _ _ _ _ _ _ 11 _); (try dsimp only [St.put]); (first | refine aone_e rfl rfl rfl (e_store_all rfl rfl rfl zG rfl rfl (by rfl) ?_) | refine aone_e rfl rfl rfl (e_store_one rfl rfl rfl zG (by constructor) rfl (by first | (simp; done) | (simp; omega) | exact Nat.lt_of_lt_of_eq (by decide) (Enc.len _).symm) ?_)); (try dsimp only [List.set_cons_zero, List.set_cons_succ]))
        | with_reducible refine aany_step (listed := [true, false, true, false, true, false, false, false, false, false, false, false]) [1, 6, 7, 8] (by kernel_rfl) (by simp) ?_
        | with_reducible refine aany_step (listed := [true, true, true, false, true, false, false, false, false, false, false, false]) [3, 6, 7, 8] (by kernel_rfl) (by simp) ?_
        | with_reducible refine aany_step (listed := [true, true, true, true, true, false, false, false, false, false, false, false]) [5, 6, 7, 8] (by kernel_rfl) (by simp) ?_
        | with_reducible refine aany_step (listed := [true, true, true, true, true, true, false, false, false, false, false, false]) [6, 7, 8] (by kernel_rfl) (by simp) ?_
        | with_reducible refine aany_step (listed := [true, true, true, true, true, true, true, false, false, false, false, false]) [7, 8] (by kernel_rfl) (by simp) ?_
        | with_reducible refine aany_step (listed := [true, true, true, true, true, true, true, true, false, false, false, false]) [8] (by kernel_rfl) (by simp) ?_
        | with_reducible refine aany_step (listed := [true, true, true, true, true, true, true, true, true, false, false, false]) [9] (by kernel_rfl) (by simp) ?_
        | with_reducible refine aany_step (listed := [true, true, true, true, true, true, true, true, true, true, false, false]) [10] (by kernel_rfl) (by simp) ?_
        | with_reducible refine aany_step (listed := [true, true, true, true, true, true, true, true, true, true, true, false]) [11] (by kernel_rfl) (by simp) ?_
        | with_reducible refine aany_step (listed := [true, true, true, true, true, true, true, false, true, false, false, false]) [7] (by kernel_rfl) (by simp) ?_
        | with_reducible refine aany_step (listed := [true, true, true, true, true, true, false, true, false, false, false, false]) [6, 8] (by kernel_rfl) (by simp) ?_
        | with_reducible refine aany_step (listed := [true, true, true, true, true, true, false, true, true, false, false, false]) [6] (by kernel_rfl) (by simp) ?_
        | with_reducible refine aany_step (listed := [true, true, true, true, true, true, false, false, true, false, false, false]) [6, 7] (by kernel_rfl) (by simp) ?_
        | with_reducible refine aany_step (listed := [true, true, true, true, true, false, true, false, false, false, false, false]) [5, 7, 8] (by kernel_rfl) (by simp) ?_
        | with_reducible refine aany_step (listed := [true, true, true, true, true, false, true, true, false, false, false, false]) [5, 8] (by kernel_rfl) (by simp) ?_
        | with_reducible refine aany_step (listed := [true, true, true, true, true, false, true, true, true, false, false, false]) [5] (by kernel_rfl) (by simp) ?_
        | with_reducible refine aany_step (listed := [true, true, true, true, true, false, true, false, true, false, false, false]) [5, 7] (by kernel_rfl) (by simp) ?_
        | with_reducible refine aany_step (listed := [true, true, true, true, true, false, false, true, false, false, false, false]) [5, 6, 8] (by kernel_rfl) (by simp) ?_
        | with_reducible refine aany_step (listed := [true, true, true, true, true, false, false, true, true, false, false, false]) [5, 6] (by kernel_rfl) (by simp) ?_
        | with_reducible refine aany_step (listed := [true, true, true, true, true, false, false, false, true, false, false, false]) [5, 6, 7] (by kernel_rfl) (by simp) ?_
        | with_reducible refine aany_step (listed := [true, true, true, false, true, false, true, false, false, false, false, false]) [3, 7, 8] (by kernel_rfl) (by simp) ?_
        | with_reducible refine aany_step (listed := [true, true, true, false, true, false, true, true, false, false, false, false]) [3, 8] (by kernel_rfl) (by simp) ?_
        | with_reducible refine aany_step (listed := [true, true, true, false, true, false, true, true, true, false, false, false]) [3] (by kernel_rfl) (by simp) ?_
        | with_reducible refine aany_step (listed := [true, true, true, false, true, false, true, false, true, false, false, false]) [3, 7] (by kernel_rfl) (by simp) ?_
        | with_reducible refine aany_step (listed := [true, true, true, false, true, false, false, true, false, false, false, false]) [3, 6, 8] (by kernel_rfl) (by simp) ?_
        | with_reducible refine aany_step (listed := [true, true, true, false, true, false, false, true, true, false, false, false]) [3, 6] (by kernel_rfl) (by simp) ?_
        | with_reducible refine aany_step (listed := [true, true, true, false, true, false, false, false, true, false, false, false]) [3, 6, 7] (by kernel_rfl) (by simp) ?_
        | with_reducible refine aany_step (listed := [true, false, true, false, true, false, true, false, false, false, false, false]) [1, 7, 8] (by kernel_rfl) (by simp) ?_
        | with_reducible refine aany_step (listed := [true, false, true, false, true, false, true, true, false, false, false, false]) [1, 8] (by kernel_rfl) (by simp) ?_
        | with_reducible refine aany_step (listed := [true, false, true, false, true, false, true, true, true, false, false, false]) [1] (by kernel_rfl) (by simp) ?_
        | with_reducible refine aany_step (listed := [true, false, true, false, true, false, true, false, true, false, false, false]) [1, 7] (by kernel_rfl) (by simp) ?_
        | with_reducible refine aany_step (listed := [true, false, true, false, true, false, false, true, false, false, false, false]) [1, 6, 8] (by kernel_rfl) (by simp) ?_
        | with_reducible refine aany_step (listed := [true, false, true, false, true, false, false, true, true, false, false, false]) [1, 6] (by kernel_rfl) (by simp) ?_
        | with_reducible refine aany_step (listed := [true, false, true, false, true, false, false, false, true, false, false, false]) [1, 6, 7] (by kernel_rfl) (by simp) ?_
        | ((with_reducible show AAny _ _ _ _ _ [true, true, true, true, true, true, true, true, true, true, true, true] _)
           try dsimp only [St.put]
           refine aany_of_tr (tr_commit (i := 11) rfl zG (by first | exact List.cons_ne_nil _ _ | (simp; done) | (simp [putAt]; done))) ?_
           refine aany_of_tr (tr_commit (i := 12) rfl zG (by first | exact List.cons_ne_nil _ _ | (simp; done) | (simp [putAt]; done))) ?_
           refine aany_of_tr (tr_commit (i := 13) rfl zG (by first | exact List.cons_ne_nil _ _ | (simp; done) | (simp [putAt]; done))) ?_
           dsimp only
           refine aany_nil (by kernel_rfl) ?_
           exact ⟨(), trivial, ⟨⟨rfl, rfl⟩, zF, zB, zN, zX⟩⟩))
    · rintro _ hI
      dsimp only at hI ⊢
      refine aw_seq_k fun K6 hK6 => ?_
      refine aw_region ?_
      try dsimp only [St.put]
      first | refine aops_s rfl (s_load rfl rfl) ?_ | refine aops_s rfl (s_load_agg' rfl rfl (Enc.len _)) ?_ | refine aops_s rfl (s_load_agg' rfl rfl rfl) ?_ | refine aops_s rfl (s_load_box rfl rfl zG trivial (by first | rfl | assumption)) ?_ | refine aops_s rfl (s_load_box_all rfl rfl zG trivial (by rfl)) ?_ | refine aops_s rfl (s_load_box_agg rfl rfl zG trivial (by simp)) ?_ | refine aops_s rfl (s_load_own rfl rfl zG trivial (flatC_get (by assumption) rfl)) ?_ | refine aops_s rfl (s_load_own rfl rfl zG trivial (by assumption)) ?_ | refine aops_s rfl (s_load_own_row rfl rfl zG trivial rfl (by assumption) rfl (by decide)) ?_ | refine aops_s rfl (s_load_fact rfl rfl zG (by rfl)) ?_
      try dsimp only [St.put]
      first | refine aops_s rfl (s_load rfl rfl) ?_ | refine aops_s rfl (s_load_agg' rfl rfl (Enc.len _)) ?_ | refine aops_s rfl (s_load_agg' rfl rfl rfl) ?_ | refine aops_s rfl (s_load_box rfl rfl zG trivial (by first | rfl | assumption)) ?_ | refine aops_s rfl (s_load_box_all rfl rfl zG trivial (by rfl)) ?_ | refine aops_s rfl (s_load_box_agg rfl rfl zG trivial (by simp)) ?_ | refine aops_s rfl (s_load_own rfl rfl zG trivial (flatC_get (by assumption) rfl)) ?_ | refine aops_s rfl (s_load_own rfl rfl zG trivial (by assumption)) ?_ | refine aops_s rfl (s_load_own_row rfl rfl zG trivial rfl (by assumption) rfl (by decide)) ?_ | refine aops_s rfl (s_load_fact rfl rfl zG (by rfl)) ?_
      try dsimp only [St.put]
      first | refine aops_s rfl (s_load rfl rfl) ?_ | refine aops_s rfl (s_load_agg' rfl rfl (Enc.len _)) ?_ | refine aops_s rfl (s_load_agg' rfl rfl rfl) ?_ | refine aops_s rfl (s_load_box rfl rfl zG trivial (by first | rfl | assumption)) ?_ | refine aops_s rfl (s_load_box_all rfl rfl zG trivial (by rfl)) ?_ | refine aops_s rfl (s_load_box_agg rfl rfl zG trivial (by simp)) ?_ | refine aops_s rfl (s_load_own rfl rfl zG trivial (flatC_get (by assumption) rfl)) ?_ | refine aops_s rfl (s_load_own rfl rfl zG trivial (by assumption)) ?_ | refine aops_s rfl (s_load_own_row rfl rfl zG trivial rfl (by assumption) rfl (by decide)) ?_ | refine aops_s rfl (s_load_fact rfl rfl zG (by rfl)) ?_
      try dsimp only [St.put]
      refine aops_e rfl (e_call_f rfl rfl rfl (chartRefer_pureF t e p hle) zG ?_)
      refine aops_n rfl (n_mv rfl (by constructor)) ?_
      refine aops_n rfl (n_extract rfl rfl rfl) ?_
      refine aops_n rfl (n_extract rfl rfl rfl) ?_
      try dsimp only [St.put]
      refine aops_e rfl (e_allocC rfl ?_)
      try dsimp only [St.put]
      first | refine aops_e rfl (e_store_all rfl rfl rfl zG rfl rfl (by rfl) ?_) | refine aops_e rfl (e_store_one rfl rfl rfl zG (by constructor) rfl (by first | (simp; done) | (simp; omega) | exact Nat.lt_of_lt_of_eq (by decide) (Enc.len _).symm) ?_)
      refine aops_n rfl (n_as rfl (by constructor)) ?_
      refine aops_nil ?_
      dsimp only [St.put]
      refine hK6 _ ?_
      refine aw_commitD (i := 14) rfl zG (by first | exact List.cons_ne_nil _ _ | (simp; done) | (simp [putAt]; done)) ?_
      dsimp only
      refine aw_seq_k fun K7 hK7 => ?_
      refine aw_region ?_
      try dsimp only [St.put]
      first | refine aops_s rfl (s_load rfl rfl) ?_ | refine aops_s rfl (s_load_agg' rfl rfl (Enc.len _)) ?_ | refine aops_s rfl (s_load_agg' rfl rfl rfl) ?_ | refine aops_s rfl (s_load_box rfl rfl zG trivial (by first | rfl | assumption)) ?_ | refine aops_s rfl (s_load_box_all rfl rfl zG trivial (by rfl)) ?_ | refine aops_s rfl (s_load_box_agg rfl rfl zG trivial (by simp)) ?_ | refine aops_s rfl (s_load_own rfl rfl zG trivial (flatC_get (by assumption) rfl)) ?_ | refine aops_s rfl (s_load_own rfl rfl zG trivial (by assumption)) ?_ | refine aops_s rfl (s_load_own_row rfl rfl zG trivial rfl (by assumption) rfl (by decide)) ?_ | refine aops_s rfl (s_load_fact rfl rfl zG (by rfl)) ?_
      try dsimp only [St.put]
      first | refine aops_s rfl (s_load rfl rfl) ?_ | refine aops_s rfl (s_load_agg' rfl rfl (Enc.len _)) ?_ | refine aops_s rfl (s_load_agg' rfl rfl rfl) ?_ | refine aops_s rfl (s_load_box rfl rfl zG trivial (by first | rfl | assumption)) ?_ | refine aops_s rfl (s_load_box_all rfl rfl zG trivial (by rfl)) ?_ | refine aops_s rfl (s_load_box_agg rfl rfl zG trivial (by simp)) ?_ | refine aops_s rfl (s_load_own rfl rfl zG trivial (flatC_get (by assumption) rfl)) ?_ | refine aops_s rfl (s_load_own rfl rfl zG trivial (by assumption)) ?_ | refine aops_s rfl (s_load_own_row rfl rfl zG trivial rfl (by assumption) rfl (by decide)) ?_ | refine aops_s rfl (s_load_fact rfl rfl zG (by rfl)) ?_
      try dsimp only [St.put]
      first | refine aops_s rfl (s_load rfl rfl) ?_ | refine aops_s rfl (s_load_agg' rfl rfl (Enc.len _)) ?_ | refine aops_s rfl (s_load_agg' rfl rfl rfl) ?_ | refine aops_s rfl (s_load_box rfl rfl zG trivial (by first | rfl | assumption)) ?_ | refine aops_s rfl (s_load_box_all rfl rfl zG trivial (by rfl)) ?_ | refine aops_s rfl (s_load_box_agg rfl rfl zG trivial (by simp)) ?_ | refine aops_s rfl (s_load_own rfl rfl zG trivial (flatC_get (by assumption) rfl)) ?_ | refine aops_s rfl (s_load_own rfl rfl zG trivial (by assumption)) ?_ | refine aops_s rfl (s_load_own_row rfl rfl zG trivial rfl (by assumption) rfl (by decide)) ?_ | refine aops_s rfl (s_load_fact rfl rfl zG (by rfl)) ?_
      try dsimp only [St.put]
      refine aops_e rfl (e_call_pure rfl rfl rfl (Refer2_pure t e p) ?_)
      refine aops_n rfl (n_mv rfl (by constructor)) ?_
      refine aops_n rfl (n_extract rfl rfl rfl) ?_
      refine aops_n rfl (n_extract rfl rfl rfl) ?_
      try dsimp only [St.put]
      refine aops_e rfl (e_allocC rfl ?_)
      try dsimp only [St.put]
      first | refine aops_e rfl (e_store_all rfl rfl rfl zG rfl rfl (by rfl) ?_) | refine aops_e rfl (e_store_one rfl rfl rfl zG (by constructor) rfl (by first | (simp; done) | (simp; omega) | exact Nat.lt_of_lt_of_eq (by decide) (Enc.len _).symm) ?_)
      refine aops_n rfl (n_as rfl (by constructor)) ?_
      refine aops_nil ?_
      dsimp only [St.put]
      refine hK7 _ ?_
      refine aw_commitD (i := 16) rfl zG (by first | exact List.cons_ne_nil _ _ | (simp; done) | (simp [putAt]; done)) ?_
      dsimp only
      refine aw_seq_k fun K8 hK8 => ?_
      refine aw_region ?_
      try dsimp only [St.put]
      first | refine aops_s rfl (s_load rfl rfl) ?_ | refine aops_s rfl (s_load_agg' rfl rfl (Enc.len _)) ?_ | refine aops_s rfl (s_load_agg' rfl rfl rfl) ?_ | refine aops_s rfl (s_load_box rfl rfl zG trivial (by first | rfl | assumption)) ?_ | refine aops_s rfl (s_load_box_all rfl rfl zG trivial (by rfl)) ?_ | refine aops_s rfl (s_load_box_agg rfl rfl zG trivial (by simp)) ?_ | refine aops_s rfl (s_load_own rfl rfl zG trivial (flatC_get (by assumption) rfl)) ?_ | refine aops_s rfl (s_load_own rfl rfl zG trivial (by assumption)) ?_ | refine aops_s rfl (s_load_own_row rfl rfl zG trivial rfl (by assumption) rfl (by decide)) ?_ | refine aops_s rfl (s_load_fact rfl rfl zG (by rfl)) ?_
      try dsimp only [St.put]
      first | refine aops_s rfl (s_load rfl rfl) ?_ | refine aops_s rfl (s_load_agg' rfl rfl (Enc.len _)) ?_ | refine aops_s rfl (s_load_agg' rfl rfl rfl) ?_ | refine aops_s rfl (s_load_box rfl rfl zG trivial (by first | rfl | assumption)) ?_ | refine aops_s rfl (s_load_box_all rfl rfl zG trivial (by rfl)) ?_ | refine aops_s rfl (s_load_box_agg rfl rfl zG trivial (by simp)) ?_ | refine aops_s rfl (s_load_own rfl rfl zG trivial (flatC_get (by assumption) rfl)) ?_ | refine aops_s rfl (s_load_own rfl rfl zG trivial (by assumption)) ?_ | refine aops_s rfl (s_load_own_row rfl rfl zG trivial rfl (by assumption) rfl (by decide)) ?_ | refine aops_s rfl (s_load_fact rfl rfl zG (by rfl)) ?_
      try dsimp only [St.put]
      first | refine aops_s rfl (s_load rfl rfl) ?_ | refine aops_s rfl (s_load_agg' rfl rfl (Enc.len _)) ?_ | refine aops_s rfl (s_load_agg' rfl rfl rfl) ?_ | refine aops_s rfl (s_load_box rfl rfl zG trivial (by first | rfl | assumption)) ?_ | refine aops_s rfl (s_load_box_all rfl rfl zG trivial (by rfl)) ?_ | refine aops_s rfl (s_load_box_agg rfl rfl zG trivial (by simp)) ?_ | refine aops_s rfl (s_load_own rfl rfl zG trivial (flatC_get (by assumption) rfl)) ?_ | refine aops_s rfl (s_load_own rfl rfl zG trivial (by assumption)) ?_ | refine aops_s rfl (s_load_own_row rfl rfl zG trivial rfl (by assumption) rfl (by decide)) ?_ | refine aops_s rfl (s_load_fact rfl rfl zG (by rfl)) ?_
      try dsimp only [St.put]
      refine aops_e rfl (e_call_f rfl rfl rfl (chartLead_pureF t e r hle) zG ?_)
      refine aops_n rfl (n_mv rfl (by constructor)) ?_
      refine aops_n rfl (n_extract rfl rfl rfl) ?_
      refine aops_n rfl (n_extract rfl rfl rfl) ?_
      try dsimp only [St.put]
      refine aops_e rfl (e_allocC rfl ?_)
      try dsimp only [St.put]
      first | refine aops_e rfl (e_store_all rfl rfl rfl zG rfl rfl (by rfl) ?_) | refine aops_e rfl (e_store_one rfl rfl rfl zG (by constructor) rfl (by first | (simp; done) | (simp; omega) | exact Nat.lt_of_lt_of_eq (by decide) (Enc.len _).symm) ?_)
      refine aops_n rfl (n_as rfl (by constructor)) ?_
      refine aops_nil ?_
      dsimp only [St.put]
      refine hK8 _ ?_
      refine aw_commitD (i := 18) rfl zG (by first | exact List.cons_ne_nil _ _ | (simp; done) | (simp [putAt]; done)) ?_
      dsimp only
      refine aw_seq_k fun K9 hK9 => ?_
      refine aw_region ?_
      try dsimp only [St.put]
      first | refine aops_s rfl (s_load rfl rfl) ?_ | refine aops_s rfl (s_load_agg' rfl rfl (Enc.len _)) ?_ | refine aops_s rfl (s_load_agg' rfl rfl rfl) ?_ | refine aops_s rfl (s_load_box rfl rfl zG trivial (by first | rfl | assumption)) ?_ | refine aops_s rfl (s_load_box_all rfl rfl zG trivial (by rfl)) ?_ | refine aops_s rfl (s_load_box_agg rfl rfl zG trivial (by simp)) ?_ | refine aops_s rfl (s_load_own rfl rfl zG trivial (flatC_get (by assumption) rfl)) ?_ | refine aops_s rfl (s_load_own rfl rfl zG trivial (by assumption)) ?_ | refine aops_s rfl (s_load_own_row rfl rfl zG trivial rfl (by assumption) rfl (by decide)) ?_ | refine aops_s rfl (s_load_fact rfl rfl zG (by rfl)) ?_
      try dsimp only [St.put]
      first | refine aops_s rfl (s_load rfl rfl) ?_ | refine aops_s rfl (s_load_agg' rfl rfl (Enc.len _)) ?_ | refine aops_s rfl (s_load_agg' rfl rfl rfl) ?_ | refine aops_s rfl (s_load_box rfl rfl zG trivial (by first | rfl | assumption)) ?_ | refine aops_s rfl (s_load_box_all rfl rfl zG trivial (by rfl)) ?_ | refine aops_s rfl (s_load_box_agg rfl rfl zG trivial (by simp)) ?_ | refine aops_s rfl (s_load_own rfl rfl zG trivial (flatC_get (by assumption) rfl)) ?_ | refine aops_s rfl (s_load_own rfl rfl zG trivial (by assumption)) ?_ | refine aops_s rfl (s_load_own_row rfl rfl zG trivial rfl (by assumption) rfl (by decide)) ?_ | refine aops_s rfl (s_load_fact rfl rfl zG (by rfl)) ?_
      try dsimp only [St.put]
      first | refine aops_s rfl (s_load rfl rfl) ?_ | refine aops_s rfl (s_load_agg' rfl rfl (Enc.len _)) ?_ | refine aops_s rfl (s_load_agg' rfl rfl rfl) ?_ | refine aops_s rfl (s_load_box rfl rfl zG trivial (by first | rfl | assumption)) ?_ | refine aops_s rfl (s_load_box_all rfl rfl zG trivial (by rfl)) ?_ | refine aops_s rfl (s_load_box_agg rfl rfl zG trivial (by simp)) ?_ | refine aops_s rfl (s_load_own rfl rfl zG trivial (flatC_get (by assumption) rfl)) ?_ | refine aops_s rfl (s_load_own rfl rfl zG trivial (by assumption)) ?_ | refine aops_s rfl (s_load_own_row rfl rfl zG trivial rfl (by assumption) rfl (by decide)) ?_ | refine aops_s rfl (s_load_fact rfl rfl zG (by rfl)) ?_
      try dsimp only [St.put]
      refine aops_e rfl (e_call_pure rfl rfl rfl (Lead2_pure t e r) ?_)
      refine aops_n rfl (n_mv rfl (by constructor)) ?_
      refine aops_n rfl (n_extract rfl rfl rfl) ?_
      refine aops_n rfl (n_extract rfl rfl rfl) ?_
      try dsimp only [St.put]
      refine aops_e rfl (e_allocC rfl ?_)
      try dsimp only [St.put]
      first | refine aops_e rfl (e_store_all rfl rfl rfl zG rfl rfl (by rfl) ?_) | refine aops_e rfl (e_store_one rfl rfl rfl zG (by constructor) rfl (by first | (simp; done) | (simp; omega) | exact Nat.lt_of_lt_of_eq (by decide) (Enc.len _).symm) ?_)
      refine aops_n rfl (n_as rfl (by constructor)) ?_
      refine aops_nil ?_
      dsimp only [St.put]
      refine hK9 _ ?_
      refine aw_commitD (i := 20) rfl zG (by first | exact List.cons_ne_nil _ _ | (simp; done) | (simp [putAt]; done)) ?_
      dsimp only
      refine aw_seq_k fun K10 hK10 => ?_
      refine aw_region ?_
      try dsimp only [St.put]
      first | refine aops_s rfl (s_load rfl rfl) ?_ | refine aops_s rfl (s_load_agg' rfl rfl (Enc.len _)) ?_ | refine aops_s rfl (s_load_agg' rfl rfl rfl) ?_ | refine aops_s rfl (s_load_box rfl rfl zG trivial (by first | rfl | assumption)) ?_ | refine aops_s rfl (s_load_box_all rfl rfl zG trivial (by rfl)) ?_ | refine aops_s rfl (s_load_box_agg rfl rfl zG trivial (by simp)) ?_ | refine aops_s rfl (s_load_own rfl rfl zG trivial (flatC_get (by assumption) rfl)) ?_ | refine aops_s rfl (s_load_own rfl rfl zG trivial (by assumption)) ?_ | refine aops_s rfl (s_load_own_row rfl rfl zG trivial rfl (by assumption) rfl (by decide)) ?_ | refine aops_s rfl (s_load_fact rfl rfl zG (by rfl)) ?_
      try dsimp only [St.put]
      first | refine aops_s rfl (s_load rfl rfl) ?_ | refine aops_s rfl (s_load_agg' rfl rfl (Enc.len _)) ?_ | refine aops_s rfl (s_load_agg' rfl rfl rfl) ?_ | refine aops_s rfl (s_load_box rfl rfl zG trivial (by first | rfl | assumption)) ?_ | refine aops_s rfl (s_load_box_all rfl rfl zG trivial (by rfl)) ?_ | refine aops_s rfl (s_load_box_agg rfl rfl zG trivial (by simp)) ?_ | refine aops_s rfl (s_load_own rfl rfl zG trivial (flatC_get (by assumption) rfl)) ?_ | refine aops_s rfl (s_load_own rfl rfl zG trivial (by assumption)) ?_ | refine aops_s rfl (s_load_own_row rfl rfl zG trivial rfl (by assumption) rfl (by decide)) ?_ | refine aops_s rfl (s_load_fact rfl rfl zG (by rfl)) ?_
      try dsimp only [St.put]
      first | refine aops_s rfl (s_load rfl rfl) ?_ | refine aops_s rfl (s_load_agg' rfl rfl (Enc.len _)) ?_ | refine aops_s rfl (s_load_agg' rfl rfl rfl) ?_ | refine aops_s rfl (s_load_box rfl rfl zG trivial (by first | rfl | assumption)) ?_ | refine aops_s rfl (s_load_box_all rfl rfl zG trivial (by rfl)) ?_ | refine aops_s rfl (s_load_box_agg rfl rfl zG trivial (by simp)) ?_ | refine aops_s rfl (s_load_own rfl rfl zG trivial (flatC_get (by assumption) rfl)) ?_ | refine aops_s rfl (s_load_own rfl rfl zG trivial (by assumption)) ?_ | refine aops_s rfl (s_load_own_row rfl rfl zG trivial rfl (by assumption) rfl (by decide)) ?_ | refine aops_s rfl (s_load_fact rfl rfl zG (by rfl)) ?_
      try dsimp only [St.put]
      refine aops_e rfl (e_call_f rfl rfl rfl (chartCross_pureF t e f hle hlf) zG ?_)
      refine aops_n rfl (n_mv rfl (by constructor)) ?_
      refine aops_n rfl (n_extract rfl rfl rfl) ?_
      refine aops_n rfl (n_extract rfl rfl rfl) ?_
      refine aops_n rfl (n_as rfl (by constructor)) ?_
      refine aops_n rfl (n_as rfl (by constructor)) ?_
      refine aops_nil ?_
      dsimp only [St.put]
      refine hK10 _ ?_
      refine aw_seq_k fun K11 hK11 => ?_
      refine aw_region ?_
      try dsimp only [St.put]
      first | refine aops_s rfl (s_load rfl rfl) ?_ | refine aops_s rfl (s_load_agg' rfl rfl (Enc.len _)) ?_ | refine aops_s rfl (s_load_agg' rfl rfl rfl) ?_ | refine aops_s rfl (s_load_box rfl rfl zG trivial (by first | rfl | assumption)) ?_ | refine aops_s rfl (s_load_box_all rfl rfl zG trivial (by rfl)) ?_ | refine aops_s rfl (s_load_box_agg rfl rfl zG trivial (by simp)) ?_ | refine aops_s rfl (s_load_own rfl rfl zG trivial (flatC_get (by assumption) rfl)) ?_ | refine aops_s rfl (s_load_own rfl rfl zG trivial (by assumption)) ?_ | refine aops_s rfl (s_load_own_row rfl rfl zG trivial rfl (by assumption) rfl (by decide)) ?_ | refine aops_s rfl (s_load_fact rfl rfl zG (by rfl)) ?_
      try dsimp only [St.put]
      first | refine aops_s rfl (s_load rfl rfl) ?_ | refine aops_s rfl (s_load_agg' rfl rfl (Enc.len _)) ?_ | refine aops_s rfl (s_load_agg' rfl rfl rfl) ?_ | refine aops_s rfl (s_load_box rfl rfl zG trivial (by first | rfl | assumption)) ?_ | refine aops_s rfl (s_load_box_all rfl rfl zG trivial (by rfl)) ?_ | refine aops_s rfl (s_load_box_agg rfl rfl zG trivial (by simp)) ?_ | refine aops_s rfl (s_load_own rfl rfl zG trivial (flatC_get (by assumption) rfl)) ?_ | refine aops_s rfl (s_load_own rfl rfl zG trivial (by assumption)) ?_ | refine aops_s rfl (s_load_own_row rfl rfl zG trivial rfl (by assumption) rfl (by decide)) ?_ | refine aops_s rfl (s_load_fact rfl rfl zG (by rfl)) ?_
      try dsimp only [St.put]
      first | refine aops_s rfl (s_load rfl rfl) ?_ | refine aops_s rfl (s_load_agg' rfl rfl (Enc.len _)) ?_ | refine aops_s rfl (s_load_agg' rfl rfl rfl) ?_ | refine aops_s rfl (s_load_box rfl rfl zG trivial (by first | rfl | assumption)) ?_ | refine aops_s rfl (s_load_box_all rfl rfl zG trivial (by rfl)) ?_ | refine aops_s rfl (s_load_box_agg rfl rfl zG trivial (by simp)) ?_ | refine aops_s rfl (s_load_own rfl rfl zG trivial (flatC_get (by assumption) rfl)) ?_ | refine aops_s rfl (s_load_own rfl rfl zG trivial (by assumption)) ?_ | refine aops_s rfl (s_load_own_row rfl rfl zG trivial rfl (by assumption) rfl (by decide)) ?_ | refine aops_s rfl (s_load_fact rfl rfl zG (by rfl)) ?_
      try dsimp only [St.put]
      refine aops_e rfl (e_call_pure rfl rfl rfl (Cross2_pure t e f) ?_)
      refine aops_n rfl (n_mv rfl (by constructor)) ?_
      refine aops_n rfl (n_extract rfl rfl rfl) ?_
      refine aops_n rfl (n_extract rfl rfl rfl) ?_
      refine aops_n rfl (n_as rfl (by constructor)) ?_
      refine aops_n rfl (n_as rfl (by constructor)) ?_
      refine aops_nil ?_
      dsimp only [St.put]
      refine hK11 _ ?_
      refine aw_seq_k fun K12 hK12 => ?_
      refine aw_region ?_
      try dsimp only [St.put]
      first | refine aops_s rfl (s_load rfl rfl) ?_ | refine aops_s rfl (s_load_agg' rfl rfl (Enc.len _)) ?_ | refine aops_s rfl (s_load_agg' rfl rfl rfl) ?_ | refine aops_s rfl (s_load_box rfl rfl zG trivial (by first | rfl | assumption)) ?_ | refine aops_s rfl (s_load_box_all rfl rfl zG trivial (by rfl)) ?_ | refine aops_s rfl (s_load_box_agg rfl rfl zG trivial (by simp)) ?_ | refine aops_s rfl (s_load_own rfl rfl zG trivial (flatC_get (by assumption) rfl)) ?_ | refine aops_s rfl (s_load_own rfl rfl zG trivial (by assumption)) ?_ | refine aops_s rfl (s_load_own_row rfl rfl zG trivial rfl (by assumption) rfl (by decide)) ?_ | refine aops_s rfl (s_load_fact rfl rfl zG (by rfl)) ?_
      try dsimp only [St.put]
      first | refine aops_s rfl (s_load rfl rfl) ?_ | refine aops_s rfl (s_load_agg' rfl rfl (Enc.len _)) ?_ | refine aops_s rfl (s_load_agg' rfl rfl rfl) ?_ | refine aops_s rfl (s_load_box rfl rfl zG trivial (by first | rfl | assumption)) ?_ | refine aops_s rfl (s_load_box_all rfl rfl zG trivial (by rfl)) ?_ | refine aops_s rfl (s_load_box_agg rfl rfl zG trivial (by simp)) ?_ | refine aops_s rfl (s_load_own rfl rfl zG trivial (flatC_get (by assumption) rfl)) ?_ | refine aops_s rfl (s_load_own rfl rfl zG trivial (by assumption)) ?_ | refine aops_s rfl (s_load_own_row rfl rfl zG trivial rfl (by assumption) rfl (by decide)) ?_ | refine aops_s rfl (s_load_fact rfl rfl zG (by rfl)) ?_
      try dsimp only [St.put]
      first | refine aops_s rfl (s_load rfl rfl) ?_ | refine aops_s rfl (s_load_agg' rfl rfl (Enc.len _)) ?_ | refine aops_s rfl (s_load_agg' rfl rfl rfl) ?_ | refine aops_s rfl (s_load_box rfl rfl zG trivial (by first | rfl | assumption)) ?_ | refine aops_s rfl (s_load_box_all rfl rfl zG trivial (by rfl)) ?_ | refine aops_s rfl (s_load_box_agg rfl rfl zG trivial (by simp)) ?_ | refine aops_s rfl (s_load_own rfl rfl zG trivial (flatC_get (by assumption) rfl)) ?_ | refine aops_s rfl (s_load_own rfl rfl zG trivial (by assumption)) ?_ | refine aops_s rfl (s_load_own_row rfl rfl zG trivial rfl (by assumption) rfl (by decide)) ?_ | refine aops_s rfl (s_load_fact rfl rfl zG (by rfl)) ?_
      try dsimp only [St.put]
      first | refine aops_s rfl (s_load rfl rfl) ?_ | refine aops_s rfl (s_load_agg' rfl rfl (Enc.len _)) ?_ | refine aops_s rfl (s_load_agg' rfl rfl rfl) ?_ | refine aops_s rfl (s_load_box rfl rfl zG trivial (by first | rfl | assumption)) ?_ | refine aops_s rfl (s_load_box_all rfl rfl zG trivial (by rfl)) ?_ | refine aops_s rfl (s_load_box_agg rfl rfl zG trivial (by simp)) ?_ | refine aops_s rfl (s_load_own rfl rfl zG trivial (flatC_get (by assumption) rfl)) ?_ | refine aops_s rfl (s_load_own rfl rfl zG trivial (by assumption)) ?_ | refine aops_s rfl (s_load_own_row rfl rfl zG trivial rfl (by assumption) rfl (by decide)) ?_ | refine aops_s rfl (s_load_fact rfl rfl zG (by rfl)) ?_
      try dsimp only [St.put]
      refine aops_e rfl (e_call_f rfl rfl rfl (chartTurn_pureF t e f r hle hlf) zG ?_)
      refine aops_n rfl (n_mv rfl (by constructor)) ?_
      refine aops_n rfl (n_extract rfl rfl rfl) ?_
      refine aops_n rfl (n_extract rfl rfl rfl) ?_
      try dsimp only [St.put]
      refine aops_e rfl (e_allocC rfl ?_)
      try dsimp only [St.put]
      first | refine aops_e rfl (e_store_all rfl rfl rfl zG rfl rfl (by rfl) ?_) | refine aops_e rfl (e_store_one rfl rfl rfl zG (by constructor) rfl (by first | (simp; done) | (simp; omega) | exact Nat.lt_of_lt_of_eq (by decide) (Enc.len _).symm) ?_)
      refine aops_n rfl (n_as rfl (by constructor)) ?_
      refine aops_nil ?_
      dsimp only [St.put]
      refine hK12 _ ?_
      refine aw_commitD (i := 26) rfl zG (by first | exact List.cons_ne_nil _ _ | (simp; done) | (simp [putAt]; done)) ?_
      dsimp only
      refine aw_seq_k fun K13 hK13 => ?_
      refine aw_region ?_
      try dsimp only [St.put]
      first | refine aops_s rfl (s_load rfl rfl) ?_ | refine aops_s rfl (s_load_agg' rfl rfl (Enc.len _)) ?_ | refine aops_s rfl (s_load_agg' rfl rfl rfl) ?_ | refine aops_s rfl (s_load_box rfl rfl zG trivial (by first | rfl | assumption)) ?_ | refine aops_s rfl (s_load_box_all rfl rfl zG trivial (by rfl)) ?_ | refine aops_s rfl (s_load_box_agg rfl rfl zG trivial (by simp)) ?_ | refine aops_s rfl (s_load_own rfl rfl zG trivial (flatC_get (by assumption) rfl)) ?_ | refine aops_s rfl (s_load_own rfl rfl zG trivial (by assumption)) ?_ | refine aops_s rfl (s_load_own_row rfl rfl zG trivial rfl (by assumption) rfl (by decide)) ?_ | refine aops_s rfl (s_load_fact rfl rfl zG (by rfl)) ?_
      try dsimp only [St.put]
      first | refine aops_s rfl (s_load rfl rfl) ?_ | refine aops_s rfl (s_load_agg' rfl rfl (Enc.len _)) ?_ | refine aops_s rfl (s_load_agg' rfl rfl rfl) ?_ | refine aops_s rfl (s_load_box rfl rfl zG trivial (by first | rfl | assumption)) ?_ | refine aops_s rfl (s_load_box_all rfl rfl zG trivial (by rfl)) ?_ | refine aops_s rfl (s_load_box_agg rfl rfl zG trivial (by simp)) ?_ | refine aops_s rfl (s_load_own rfl rfl zG trivial (flatC_get (by assumption) rfl)) ?_ | refine aops_s rfl (s_load_own rfl rfl zG trivial (by assumption)) ?_ | refine aops_s rfl (s_load_own_row rfl rfl zG trivial rfl (by assumption) rfl (by decide)) ?_ | refine aops_s rfl (s_load_fact rfl rfl zG (by rfl)) ?_
      try dsimp only [St.put]
      first | refine aops_s rfl (s_load rfl rfl) ?_ | refine aops_s rfl (s_load_agg' rfl rfl (Enc.len _)) ?_ | refine aops_s rfl (s_load_agg' rfl rfl rfl) ?_ | refine aops_s rfl (s_load_box rfl rfl zG trivial (by first | rfl | assumption)) ?_ | refine aops_s rfl (s_load_box_all rfl rfl zG trivial (by rfl)) ?_ | refine aops_s rfl (s_load_box_agg rfl rfl zG trivial (by simp)) ?_ | refine aops_s rfl (s_load_own rfl rfl zG trivial (flatC_get (by assumption) rfl)) ?_ | refine aops_s rfl (s_load_own rfl rfl zG trivial (by assumption)) ?_ | refine aops_s rfl (s_load_own_row rfl rfl zG trivial rfl (by assumption) rfl (by decide)) ?_ | refine aops_s rfl (s_load_fact rfl rfl zG (by rfl)) ?_
      try dsimp only [St.put]
      first | refine aops_s rfl (s_load rfl rfl) ?_ | refine aops_s rfl (s_load_agg' rfl rfl (Enc.len _)) ?_ | refine aops_s rfl (s_load_agg' rfl rfl rfl) ?_ | refine aops_s rfl (s_load_box rfl rfl zG trivial (by first | rfl | assumption)) ?_ | refine aops_s rfl (s_load_box_all rfl rfl zG trivial (by rfl)) ?_ | refine aops_s rfl (s_load_box_agg rfl rfl zG trivial (by simp)) ?_ | refine aops_s rfl (s_load_own rfl rfl zG trivial (flatC_get (by assumption) rfl)) ?_ | refine aops_s rfl (s_load_own rfl rfl zG trivial (by assumption)) ?_ | refine aops_s rfl (s_load_own_row rfl rfl zG trivial rfl (by assumption) rfl (by decide)) ?_ | refine aops_s rfl (s_load_fact rfl rfl zG (by rfl)) ?_
      try dsimp only [St.put]
      refine aops_e rfl (e_call_pure rfl rfl rfl (Turn2_pure t e f r) ?_)
      refine aops_n rfl (n_mv rfl (by constructor)) ?_
      refine aops_n rfl (n_extract rfl rfl rfl) ?_
      refine aops_n rfl (n_extract rfl rfl rfl) ?_
      try dsimp only [St.put]
      refine aops_e rfl (e_allocC rfl ?_)
      try dsimp only [St.put]
      first | refine aops_e rfl (e_store_all rfl rfl rfl zG rfl rfl (by rfl) ?_) | refine aops_e rfl (e_store_one rfl rfl rfl zG (by constructor) rfl (by first | (simp; done) | (simp; omega) | exact Nat.lt_of_lt_of_eq (by decide) (Enc.len _).symm) ?_)
      refine aops_n rfl (n_as rfl (by constructor)) ?_
      refine aops_nil ?_
      dsimp only [St.put]
      refine hK13 _ ?_
      refine aw_commitD (i := 28) rfl zG (by first | exact List.cons_ne_nil _ _ | (simp; done) | (simp [putAt]; done)) ?_
      dsimp only
      refine aw_seq_k fun K14 hK14 => ?_
      refine aw_region ?_
      try dsimp only [St.put]
      first | refine aops_s rfl (s_load rfl rfl) ?_ | refine aops_s rfl (s_load_agg' rfl rfl (Enc.len _)) ?_ | refine aops_s rfl (s_load_agg' rfl rfl rfl) ?_ | refine aops_s rfl (s_load_box rfl rfl zG trivial (by first | rfl | assumption)) ?_ | refine aops_s rfl (s_load_box_all rfl rfl zG trivial (by rfl)) ?_ | refine aops_s rfl (s_load_box_agg rfl rfl zG trivial (by simp)) ?_ | refine aops_s rfl (s_load_own rfl rfl zG trivial (flatC_get (by assumption) rfl)) ?_ | refine aops_s rfl (s_load_own rfl rfl zG trivial (by assumption)) ?_ | refine aops_s rfl (s_load_own_row rfl rfl zG trivial rfl (by assumption) rfl (by decide)) ?_ | refine aops_s rfl (s_load_fact rfl rfl zG (by rfl)) ?_
      try dsimp only [St.put]
      first | refine aops_s rfl (s_load rfl rfl) ?_ | refine aops_s rfl (s_load_agg' rfl rfl (Enc.len _)) ?_ | refine aops_s rfl (s_load_agg' rfl rfl rfl) ?_ | refine aops_s rfl (s_load_box rfl rfl zG trivial (by first | rfl | assumption)) ?_ | refine aops_s rfl (s_load_box_all rfl rfl zG trivial (by rfl)) ?_ | refine aops_s rfl (s_load_box_agg rfl rfl zG trivial (by simp)) ?_ | refine aops_s rfl (s_load_own rfl rfl zG trivial (flatC_get (by assumption) rfl)) ?_ | refine aops_s rfl (s_load_own rfl rfl zG trivial (by assumption)) ?_ | refine aops_s rfl (s_load_own_row rfl rfl zG trivial rfl (by assumption) rfl (by decide)) ?_ | refine aops_s rfl (s_load_fact rfl rfl zG (by rfl)) ?_
      refine aops_n rfl (n_bool (c := true) (n_agg_eql (x := referV t e p) (y := referV t e p) rfl rfl rfl) (decide_eq_true rfl)) ?_
      refine aops_n rfl (n_mv rfl (by constructor)) ?_
      refine aops_n rfl (n_mv rfl (by constructor)) ?_
      refine aops_n rfl (n_mv rfl (by constructor)) ?_
      refine aops_n rfl (n_bool (c := true) (n_eql rfl rfl rfl) (decide_eq_true rfl)) ?_
      first | refine aops_n rfl (n_pt rfl rfl (by constructor)) ?_ | refine aops_n rfl (n_pf rfl rfl (by constructor)) ?_ | refine aops_n rfl (n_pick_and rfl rfl rfl rfl) ?_ | refine aops_n rfl (n_pick_or rfl rfl rfl rfl) ?_
      refine aops_n rfl (n_mv rfl (by constructor)) ?_
      try dsimp only [St.put]
      first | refine aops_s rfl (s_load rfl rfl) ?_ | refine aops_s rfl (s_load_agg' rfl rfl (Enc.len _)) ?_ | refine aops_s rfl (s_load_agg' rfl rfl rfl) ?_ | refine aops_s rfl (s_load_box rfl rfl zG trivial (by first | rfl | assumption)) ?_ | refine aops_s rfl (s_load_box_all rfl rfl zG trivial (by rfl)) ?_ | refine aops_s rfl (s_load_box_agg rfl rfl zG trivial (by simp)) ?_ | refine aops_s rfl (s_load_own rfl rfl zG trivial (flatC_get (by assumption) rfl)) ?_ | refine aops_s rfl (s_load_own rfl rfl zG trivial (by assumption)) ?_ | refine aops_s rfl (s_load_own_row rfl rfl zG trivial rfl (by assumption) rfl (by decide)) ?_ | refine aops_s rfl (s_load_fact rfl rfl zG (by rfl)) ?_
      try dsimp only [St.put]
      first | refine aops_s rfl (s_load rfl rfl) ?_ | refine aops_s rfl (s_load_agg' rfl rfl (Enc.len _)) ?_ | refine aops_s rfl (s_load_agg' rfl rfl rfl) ?_ | refine aops_s rfl (s_load_box rfl rfl zG trivial (by first | rfl | assumption)) ?_ | refine aops_s rfl (s_load_box_all rfl rfl zG trivial (by rfl)) ?_ | refine aops_s rfl (s_load_box_agg rfl rfl zG trivial (by simp)) ?_ | refine aops_s rfl (s_load_own rfl rfl zG trivial (flatC_get (by assumption) rfl)) ?_ | refine aops_s rfl (s_load_own rfl rfl zG trivial (by assumption)) ?_ | refine aops_s rfl (s_load_own_row rfl rfl zG trivial rfl (by assumption) rfl (by decide)) ?_ | refine aops_s rfl (s_load_fact rfl rfl zG (by rfl)) ?_
      refine aops_n rfl (n_bool (c := true) (n_agg_eql (x := leadV t e r) (y := leadV t e r) rfl rfl rfl) (decide_eq_true rfl)) ?_
      first | refine aops_n rfl (n_pt rfl rfl (by constructor)) ?_ | refine aops_n rfl (n_pf rfl rfl (by constructor)) ?_ | refine aops_n rfl (n_pick_and rfl rfl rfl rfl) ?_ | refine aops_n rfl (n_pick_or rfl rfl rfl rfl) ?_
      refine aops_n rfl (n_mv rfl (by constructor)) ?_
      refine aops_n rfl (n_mv rfl (by constructor)) ?_
      refine aops_n rfl (n_mv rfl (by constructor)) ?_
      refine aops_n rfl (n_bool (c := true) (n_eql rfl rfl rfl) (decide_eq_true rfl)) ?_
      first | refine aops_n rfl (n_pt rfl rfl (by constructor)) ?_ | refine aops_n rfl (n_pf rfl rfl (by constructor)) ?_ | refine aops_n rfl (n_pick_and rfl rfl rfl rfl) ?_ | refine aops_n rfl (n_pick_or rfl rfl rfl rfl) ?_
      refine aops_n rfl (n_mv rfl (by constructor)) ?_
      refine aops_n rfl (n_mv rfl (by constructor)) ?_
      refine aops_n rfl (n_mv rfl (by constructor)) ?_
      try dsimp only [St.put]
      refine aops_e rfl (e_call_pure rfl rfl rfl (SamePasses_self _) ?_)
      first | refine aops_n rfl (n_pt rfl rfl (by constructor)) ?_ | refine aops_n rfl (n_pf rfl rfl (by constructor)) ?_ | refine aops_n rfl (n_pick_and rfl rfl rfl rfl) ?_ | refine aops_n rfl (n_pick_or rfl rfl rfl rfl) ?_
      refine aops_n rfl (n_mv rfl (by constructor)) ?_
      refine aops_n rfl (n_mv rfl (by constructor)) ?_
      refine aops_n rfl (n_mv rfl (by constructor)) ?_
      refine aops_n rfl (n_bool (c := true) (n_eql rfl rfl rfl) (decide_eq_true rfl)) ?_
      first | refine aops_n rfl (n_pt rfl rfl (by constructor)) ?_ | refine aops_n rfl (n_pf rfl rfl (by constructor)) ?_ | refine aops_n rfl (n_pick_and rfl rfl rfl rfl) ?_ | refine aops_n rfl (n_pick_or rfl rfl rfl rfl) ?_
      refine aops_n rfl (n_mv rfl (by constructor)) ?_
      try dsimp only [St.put]
      first | refine aops_s rfl (s_load rfl rfl) ?_ | refine aops_s rfl (s_load_agg' rfl rfl (Enc.len _)) ?_ | refine aops_s rfl (s_load_agg' rfl rfl rfl) ?_ | refine aops_s rfl (s_load_box rfl rfl zG trivial (by first | rfl | assumption)) ?_ | refine aops_s rfl (s_load_box_all rfl rfl zG trivial (by rfl)) ?_ | refine aops_s rfl (s_load_box_agg rfl rfl zG trivial (by simp)) ?_ | refine aops_s rfl (s_load_own rfl rfl zG trivial (flatC_get (by assumption) rfl)) ?_ | refine aops_s rfl (s_load_own rfl rfl zG trivial (by assumption)) ?_ | refine aops_s rfl (s_load_own_row rfl rfl zG trivial rfl (by assumption) rfl (by decide)) ?_ | refine aops_s rfl (s_load_fact rfl rfl zG (by rfl)) ?_
      try dsimp only [St.put]
      first | refine aops_s rfl (s_load rfl rfl) ?_ | refine aops_s rfl (s_load_agg' rfl rfl (Enc.len _)) ?_ | refine aops_s rfl (s_load_agg' rfl rfl rfl) ?_ | refine aops_s rfl (s_load_box rfl rfl zG trivial (by first | rfl | assumption)) ?_ | refine aops_s rfl (s_load_box_all rfl rfl zG trivial (by rfl)) ?_ | refine aops_s rfl (s_load_box_agg rfl rfl zG trivial (by simp)) ?_ | refine aops_s rfl (s_load_own rfl rfl zG trivial (flatC_get (by assumption) rfl)) ?_ | refine aops_s rfl (s_load_own rfl rfl zG trivial (by assumption)) ?_ | refine aops_s rfl (s_load_own_row rfl rfl zG trivial rfl (by assumption) rfl (by decide)) ?_ | refine aops_s rfl (s_load_fact rfl rfl zG (by rfl)) ?_
      refine aops_n rfl (n_bool (c := true) (n_agg_eql (x := turnV t e f r) (y := turnV t e f r) rfl rfl rfl) (decide_eq_true rfl)) ?_
      first | refine aops_n rfl (n_pt rfl rfl (by constructor)) ?_ | refine aops_n rfl (n_pf rfl rfl (by constructor)) ?_ | refine aops_n rfl (n_pick_and rfl rfl rfl rfl) ?_ | refine aops_n rfl (n_pick_or rfl rfl rfl rfl) ?_
      refine aops_n rfl (n_mv rfl (by constructor)) ?_
      refine aops_n rfl (n_mv rfl (by constructor)) ?_
      refine aops_n rfl (n_mv rfl (by constructor)) ?_
      refine aops_n rfl (n_bool (c := true) (n_eql rfl rfl rfl) (decide_eq_true rfl)) ?_
      first | refine aops_n rfl (n_pt rfl rfl (by constructor)) ?_ | refine aops_n rfl (n_pf rfl rfl (by constructor)) ?_ | refine aops_n rfl (n_pick_and rfl rfl rfl rfl) ?_ | refine aops_n rfl (n_pick_or rfl rfl rfl rfl) ?_
      refine aops_n rfl (n_mv rfl (by constructor)) ?_
      try dsimp only [St.put]
      first | refine aops_s rfl (s_load rfl rfl) ?_ | refine aops_s rfl (s_load_agg' rfl rfl (Enc.len _)) ?_ | refine aops_s rfl (s_load_agg' rfl rfl rfl) ?_ | refine aops_s rfl (s_load_box rfl rfl zG trivial (by first | rfl | assumption)) ?_ | refine aops_s rfl (s_load_box_all rfl rfl zG trivial (by rfl)) ?_ | refine aops_s rfl (s_load_box_agg rfl rfl zG trivial (by simp)) ?_ | refine aops_s rfl (s_load_own rfl rfl zG trivial (flatC_get (by assumption) rfl)) ?_ | refine aops_s rfl (s_load_own rfl rfl zG trivial (by assumption)) ?_ | refine aops_s rfl (s_load_own_row rfl rfl zG trivial rfl (by assumption) rfl (by decide)) ?_ | refine aops_s rfl (s_load_fact rfl rfl zG (by rfl)) ?_
      try dsimp only [St.put]
      first | refine aops_s rfl (s_load rfl rfl) ?_ | refine aops_s rfl (s_load_agg' rfl rfl (Enc.len _)) ?_ | refine aops_s rfl (s_load_agg' rfl rfl rfl) ?_ | refine aops_s rfl (s_load_box rfl rfl zG trivial (by first | rfl | assumption)) ?_ | refine aops_s rfl (s_load_box_all rfl rfl zG trivial (by rfl)) ?_ | refine aops_s rfl (s_load_box_agg rfl rfl zG trivial (by simp)) ?_ | refine aops_s rfl (s_load_own rfl rfl zG trivial (flatC_get (by assumption) rfl)) ?_ | refine aops_s rfl (s_load_own rfl rfl zG trivial (by assumption)) ?_ | refine aops_s rfl (s_load_own_row rfl rfl zG trivial rfl (by assumption) rfl (by decide)) ?_ | refine aops_s rfl (s_load_fact rfl rfl zG (by rfl)) ?_
      try dsimp only [St.put]
      refine aops_e rfl (e_call_pure rfl rfl rfl (Same_self _) ?_)
      first | refine aops_n rfl (n_pt rfl rfl (by constructor)) ?_ | refine aops_n rfl (n_pf rfl rfl (by constructor)) ?_ | refine aops_n rfl (n_pick_and rfl rfl rfl rfl) ?_ | refine aops_n rfl (n_pick_or rfl rfl rfl rfl) ?_
      refine aops_n rfl (n_mv rfl (by constructor)) ?_
      try dsimp only [St.put]
      first | refine aops_s rfl (s_load rfl rfl) ?_ | refine aops_s rfl (s_load_agg' rfl rfl (Enc.len _)) ?_ | refine aops_s rfl (s_load_agg' rfl rfl rfl) ?_ | refine aops_s rfl (s_load_box rfl rfl zG trivial (by first | rfl | assumption)) ?_ | refine aops_s rfl (s_load_box_all rfl rfl zG trivial (by rfl)) ?_ | refine aops_s rfl (s_load_box_agg rfl rfl zG trivial (by simp)) ?_ | refine aops_s rfl (s_load_own rfl rfl zG trivial (flatC_get (by assumption) rfl)) ?_ | refine aops_s rfl (s_load_own rfl rfl zG trivial (by assumption)) ?_ | refine aops_s rfl (s_load_own_row rfl rfl zG trivial rfl (by assumption) rfl (by decide)) ?_ | refine aops_s rfl (s_load_fact rfl rfl zG (by rfl)) ?_
      try dsimp only [St.put]
      first | refine aops_s rfl (s_load rfl rfl) ?_ | refine aops_s rfl (s_load_agg' rfl rfl (Enc.len _)) ?_ | refine aops_s rfl (s_load_agg' rfl rfl rfl) ?_ | refine aops_s rfl (s_load_box rfl rfl zG trivial (by first | rfl | assumption)) ?_ | refine aops_s rfl (s_load_box_all rfl rfl zG trivial (by rfl)) ?_ | refine aops_s rfl (s_load_box_agg rfl rfl zG trivial (by simp)) ?_ | refine aops_s rfl (s_load_own rfl rfl zG trivial (flatC_get (by assumption) rfl)) ?_ | refine aops_s rfl (s_load_own rfl rfl zG trivial (by assumption)) ?_ | refine aops_s rfl (s_load_own_row rfl rfl zG trivial rfl (by assumption) rfl (by decide)) ?_ | refine aops_s rfl (s_load_fact rfl rfl zG (by rfl)) ?_
      try dsimp only [St.put]
      refine aops_e rfl (e_call_pure rfl rfl rfl (Same2_self _) ?_)
      first | refine aops_n rfl (n_pt rfl rfl (by constructor)) ?_ | refine aops_n rfl (n_pf rfl rfl (by constructor)) ?_ | refine aops_n rfl (n_pick_and rfl rfl rfl rfl) ?_ | refine aops_n rfl (n_pick_or rfl rfl rfl rfl) ?_
      refine aops_n rfl (n_mv rfl (by constructor)) ?_
      try dsimp only [St.put]
      first | refine aops_s rfl (s_load rfl rfl) ?_ | refine aops_s rfl (s_load_agg' rfl rfl (Enc.len _)) ?_ | refine aops_s rfl (s_load_agg' rfl rfl rfl) ?_ | refine aops_s rfl (s_load_box rfl rfl zG trivial (by first | rfl | assumption)) ?_ | refine aops_s rfl (s_load_box_all rfl rfl zG trivial (by rfl)) ?_ | refine aops_s rfl (s_load_box_agg rfl rfl zG trivial (by simp)) ?_ | refine aops_s rfl (s_load_own rfl rfl zG trivial (flatC_get (by assumption) rfl)) ?_ | refine aops_s rfl (s_load_own rfl rfl zG trivial (by assumption)) ?_ | refine aops_s rfl (s_load_own_row rfl rfl zG trivial rfl (by assumption) rfl (by decide)) ?_ | refine aops_s rfl (s_load_fact rfl rfl zG (by rfl)) ?_
      try dsimp only [St.put]
      first | refine aops_s rfl (s_load rfl rfl) ?_ | refine aops_s rfl (s_load_agg' rfl rfl (Enc.len _)) ?_ | refine aops_s rfl (s_load_agg' rfl rfl rfl) ?_ | refine aops_s rfl (s_load_box rfl rfl zG trivial (by first | rfl | assumption)) ?_ | refine aops_s rfl (s_load_box_all rfl rfl zG trivial (by rfl)) ?_ | refine aops_s rfl (s_load_box_agg rfl rfl zG trivial (by simp)) ?_ | refine aops_s rfl (s_load_own rfl rfl zG trivial (flatC_get (by assumption) rfl)) ?_ | refine aops_s rfl (s_load_own rfl rfl zG trivial (by assumption)) ?_ | refine aops_s rfl (s_load_own_row rfl rfl zG trivial rfl (by assumption) rfl (by decide)) ?_ | refine aops_s rfl (s_load_fact rfl rfl zG (by rfl)) ?_
      try dsimp only [St.put]
      refine aops_e rfl (e_call_pure rfl rfl rfl (Same2_self _) ?_)
      first | refine aops_n rfl (n_pt rfl rfl (by constructor)) ?_ | refine aops_n rfl (n_pf rfl rfl (by constructor)) ?_ | refine aops_n rfl (n_pick_and rfl rfl rfl rfl) ?_ | refine aops_n rfl (n_pick_or rfl rfl rfl rfl) ?_
      refine aops_n rfl (n_as rfl (by constructor)) ?_
      refine aops_nil ?_
      dsimp only [St.put]
      refine hK14 _ ?_
      refine aw_ret ?_
      refine ends_1 rfl (by constructor) zN zS ?_
      rfl
end Go.Proofs.YtjjklfgpffgnfaaDoor
