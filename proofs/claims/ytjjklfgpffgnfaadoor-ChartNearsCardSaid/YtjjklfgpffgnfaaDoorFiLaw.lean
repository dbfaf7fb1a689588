/-
  The law ChartNears: its walk.
-/
import Derived.Test.YtjjklfgpffgnfaaDoorFhClose
import Derived.Test.YtjjklfgpffgnfaaDoorCzLaw
namespace Go.Proofs.YtjjklfgpffgnfaaDoor
set_option maxRecDepth 10000
open Go.RowKit Go.AB
open Go.AB.Enc (cells)
open Go.PB (Chap TextD PlaceD ReadingD CopyD WayD)
set_option maxHeartbeats 4000000 in
theorem nears_pureF (t : TextD) (e : EditionD) (p : PlaceD) (r : RefD) : PureF chkF Tryd.prog 6 [textC t, val e, val p, val r] (.v (.bool true)) := by
  refine pureF_of_body Tryd.func6 rfl (fun m => .v) fun G nx hF => ?_
  simp only [Tryd.ntmps6, List.length_cons, List.length_nil, Nat.reduceAdd, Nat.reduceSub]
  refine aw_lt fun hlt => ?_
  dsimp only at hlt
  have hnx := hlt 0 _ hF
  refine aw_seq_k fun K1 hK1 => ?_
  refine aw_region ?_
  try dsimp only [St.put]
  refine aops_e rfl (e_box rfl rfl (by simp) ?_)
  try dsimp only [St.put]
  refine aops_e rfl (e_box rfl rfl (by simp) ?_)
  try dsimp only [St.put]
  refine aops_e rfl (e_box rfl rfl (by simp) ?_)
  try dsimp only [St.put]
  refine aops_e rfl (e_box rfl rfl (by simp) ?_)
  refine aops_n rfl (n_as rfl (by constructor)) ?_
  refine aops_nil ?_
  dsimp only [St.put]
  refine hK1 _ ?_
  refine aw_seq_k fun K2 hK2 => ?_
  refine aw_seq_k fun K3 hK3 => ?_
  refine aw_region ?_
  try dsimp only [St.put]
  refine aops_s rfl (s_load_agg' rfl rfl rfl) ?_
  try dsimp only [St.put]
  refine aops_s rfl (s_load_agg' rfl rfl (Enc.len _)) ?_
  try dsimp only [St.put]
  refine aops_e rfl (e_buildSlice rfl rfl rfl (by decide) (by decide) zR (by decide) ?_)
  try dsimp only [St.put]
  refine aops_e rfl (e_call_pure rfl rfl rfl (great2_pure t [e]) ?_)
  refine aops_nil ?_
  dsimp only [St.put]
  refine hK3 _ ?_
  refine aw_cond rfl (fun hc => ?_) (fun hc => ?_)
  · skip
    refine aw_seq_k fun K4 hK4 => ?_
    refine aw_region ?_
    refine aops_n rfl (n_as rfl (by constructor)) ?_
    refine aops_nil ?_
    dsimp only [St.put]
    refine hK4 _ ?_
    refine aw_ret ?_
    refine ends_1 rfl (by constructor) zN zS ?_
    rfl
  · have hgt : greatB t = false := by simp at hc; exact hc.2
    have hle : e.ss.length ≤ 20 := by simp at hc; omega
    refine aw_skip ?_
    refine hK2 _ ?_
    refine aw_wipe 11 ?_
    simp only [firsts, getA, Nat.reduceAdd, List.getD_cons_zero, List.getD_cons_succ, List.getD_nil, natBeq, Nat.reduceBEq, cond_true, cond_false]
    refine aw_cutD (X := Unit) (fun _ => True) (fun _ => [(9, .elem [lst t]), (10, .elem (cells e))]) (fun _ G' => G') rfl ?_ (fun _ _ _ _ h => .inl h) ?_ ?_
    · rintro _ hI
      exact zL
    · refine aw_drawT [(0, none), (2, none)] (fun _ => false) (fun i => [].contains i) 6 [true, false, true, false, false, false, false, false] (by kernel_rfl) (by kernel_rfl) ?_
      try dsimp only [St.put]
      refine acan1_s rfl rfl rfl rfl (s_load_agg' rfl rfl rfl) ?_
      try dsimp only [St.put]
      refine acan1_s rfl rfl rfl rfl (s_load_agg' rfl rfl (Enc.len _)) ?_
      refine acan1_nil ?_
      repeat' (first
        | with_reducible exact aeach_nil
        | with_reducible refine aeach_cons ?_ ?_
        | ((with_reducible show AOne _ _ _ _ _ _ 1 _); (try dsimp only [St.put]); (refine aone_e rfl rfl rfl (e_call_pure rfl rfl rfl (Twin_pure t hgt) ?_)); (try dsimp only [List.set_cons_zero, List.set_cons_succ]))
        | ((with_reducible show AOne _ _ _ _ _ _ 3 _); (try dsimp only [St.put]); (refine aone_e rfl rfl rfl (e_call_pure rfl rfl rfl (Twin2_pure e (by omega)) ?_)); (try dsimp only [List.set_cons_zero, List.set_cons_succ]))
        | ((with_reducible show AOne _ _ _ _ _ _ 4 _); (try dsimp only [St.put]); (refine aone_e rfl rfl rfl (e_allocC rfl ?_)); (try dsimp only [List.set_cons_zero, List.set_cons_succ]))
        | ((with_reducible show AOne _ _ _ _ _ _ 5 _); (try dsimp only [St.put]); (refine aone_e rfl rfl rfl (e_allocC rfl ?_)); (try dsimp only [List.set_cons_zero, List.set_cons_succ]))
        | ((with_reducible show AOne _ _ _ _ _ _ 6 _); (try dsimp only [St.put]); (first | refine aone_e rfl rfl rfl (e_store_all rfl rfl rfl zG rfl rfl (by rfl) ?_) | refine aone_e rfl rfl rfl (e_store_one rfl rfl rfl zG (by constructor) rfl (by first | (simp; done) | (simp; omega) | exact Nat.lt_of_lt_of_eq (by decide) (Enc.len _).symm) ?_)); (try dsimp only [List.set_cons_zero, List.set_cons_succ]))
        | ((with_reducible show AOne _ _ _ _ _ _ 7 _); (try dsimp only [St.put]); (first | refine aone_e rfl rfl rfl (e_store_all rfl rfl rfl zG rfl rfl (by rfl) ?_) | refine aone_e rfl rfl rfl (e_store_one rfl rfl rfl zG (by constructor) rfl (by first | (simp; done) | (simp; omega) | exact Nat.lt_of_lt_of_eq (by decide) (Enc.len _).symm) ?_)); (try dsimp only [List.set_cons_zero, List.set_cons_succ]))
        | with_reducible refine aany_step (listed := [true, false, true, false, false, false, false, false]) [1, 4, 5] (by kernel_rfl) (by simp) ?_
        | with_reducible refine aany_step (listed := [true, true, true, false, false, false, false, false]) [3, 4, 5] (by kernel_rfl) (by simp) ?_
        | with_reducible refine aany_step (listed := [true, true, true, true, false, false, false, false]) [4, 5] (by kernel_rfl) (by simp) ?_
        | with_reducible refine aany_step (listed := [true, true, true, true, true, false, false, false]) [5] (by kernel_rfl) (by simp) ?_
        | with_reducible refine aany_step (listed := [true, true, true, true, true, true, false, false]) [6] (by kernel_rfl) (by simp) ?_
        | with_reducible refine aany_step (listed := [true, true, true, true, true, true, true, false]) [7] (by kernel_rfl) (by simp) ?_
        | with_reducible refine aany_step (listed := [true, true, true, true, false, true, false, false]) [4] (by kernel_rfl) (by simp) ?_
        | with_reducible refine aany_step (listed := [true, true, true, false, true, false, false, false]) [3, 5] (by kernel_rfl) (by simp) ?_
        | with_reducible refine aany_step (listed := [true, true, true, false, true, true, false, false]) [3] (by kernel_rfl) (by simp) ?_
        | with_reducible refine aany_step (listed := [true, true, true, false, false, true, false, false]) [3, 4] (by kernel_rfl) (by simp) ?_
        | with_reducible refine aany_step (listed := [true, false, true, false, true, false, false, false]) [1, 5] (by kernel_rfl) (by simp) ?_
        | with_reducible refine aany_step (listed := [true, false, true, false, true, true, false, false]) [1] (by kernel_rfl) (by simp) ?_
        | with_reducible refine aany_step (listed := [true, false, true, false, false, true, false, false]) [1, 4] (by kernel_rfl) (by simp) ?_
        | ((with_reducible show AAny _ _ _ _ _ [true, true, true, true, true, true, true, true] _)
           try dsimp only [St.put]
           refine aany_of_tr (tr_commit (i := 9) rfl zG (by first | exact List.cons_ne_nil _ _ | (simp; done) | (simp [putAt]; done))) ?_
           refine aany_of_tr (tr_commit (i := 10) rfl zG (by first | exact List.cons_ne_nil _ _ | (simp; done) | (simp [putAt]; done))) ?_
           dsimp only
           refine aany_nil (by kernel_rfl) ?_
           exact ⟨(), trivial, ⟨⟨rfl, rfl⟩, zF, zB, zN, zX⟩⟩))
    · rintro _ hI
      dsimp only at hI ⊢
      refine aw_seq_k fun K6 hK6 => ?_
      refine aw_region ?_
      try dsimp only [St.put]
      refine aops_s rfl (s_load_agg' rfl rfl rfl) ?_
      try dsimp only [St.put]
      refine aops_s rfl (s_load_agg' rfl rfl (Enc.len _)) ?_
      try dsimp only [St.put]
      refine aops_s rfl (s_load_agg' rfl rfl (Enc.len _)) ?_
      try dsimp only [St.put]
      refine aops_e rfl (e_call_f rfl rfl rfl (chartNear_pureF t e p hle) zG ?_)
      refine aops_n rfl (n_mv rfl (by constructor)) ?_
      refine aops_n rfl (n_extract rfl rfl rfl) ?_
      refine aops_n rfl (n_extract rfl rfl rfl) ?_
      refine aops_n rfl (n_as rfl (by constructor)) ?_
      refine aops_n rfl (n_as rfl (by constructor)) ?_
      refine aops_nil ?_
      dsimp only [St.put]
      refine hK6 _ ?_
      refine aw_seq_k fun K7 hK7 => ?_
      refine aw_region ?_
      try dsimp only [St.put]
      refine aops_s rfl (s_load_agg' rfl rfl rfl) ?_
      try dsimp only [St.put]
      refine aops_s rfl (s_load_agg' rfl rfl (Enc.len _)) ?_
      try dsimp only [St.put]
      refine aops_s rfl (s_load_agg' rfl rfl (Enc.len _)) ?_
      try dsimp only [St.put]
      refine aops_e rfl (e_call_pure rfl rfl rfl (Near2_pure t e p) ?_)
      refine aops_n rfl (n_mv rfl (by constructor)) ?_
      refine aops_n rfl (n_extract rfl rfl rfl) ?_
      refine aops_n rfl (n_extract rfl rfl rfl) ?_
      refine aops_n rfl (n_as rfl (by constructor)) ?_
      refine aops_n rfl (n_as rfl (by constructor)) ?_
      refine aops_nil ?_
      dsimp only [St.put]
      refine hK7 _ ?_
      refine aw_seq_k fun K8 hK8 => ?_
      refine aw_region ?_
      try dsimp only [St.put]
      refine aops_s rfl (s_load_agg' rfl rfl rfl) ?_
      try dsimp only [St.put]
      refine aops_s rfl (s_load_agg' rfl rfl (Enc.len _)) ?_
      try dsimp only [St.put]
      refine aops_s rfl (s_load_agg' rfl rfl (Enc.len _)) ?_
      try dsimp only [St.put]
      refine aops_e rfl (e_call_f rfl rfl rfl (chartClose_pureF t e r hle) zG ?_)
      refine aops_n rfl (n_mv rfl (by constructor)) ?_
      refine aops_n rfl (n_extract rfl rfl rfl) ?_
      refine aops_n rfl (n_extract rfl rfl rfl) ?_
      refine aops_n rfl (n_as rfl (by constructor)) ?_
      refine aops_n rfl (n_as rfl (by constructor)) ?_
      refine aops_nil ?_
      dsimp only [St.put]
      refine hK8 _ ?_
      refine aw_seq_k fun K9 hK9 => ?_
      refine aw_region ?_
      try dsimp only [St.put]
      refine aops_s rfl (s_load_agg' rfl rfl rfl) ?_
      try dsimp only [St.put]
      refine aops_s rfl (s_load_agg' rfl rfl (Enc.len _)) ?_
      try dsimp only [St.put]
      refine aops_s rfl (s_load_agg' rfl rfl (Enc.len _)) ?_
      try dsimp only [St.put]
      refine aops_e rfl (e_call_pure rfl rfl rfl (Close2_pure t e r) ?_)
      refine aops_n rfl (n_mv rfl (by constructor)) ?_
      refine aops_n rfl (n_extract rfl rfl rfl) ?_
      refine aops_n rfl (n_extract rfl rfl rfl) ?_
      refine aops_n rfl (n_as rfl (by constructor)) ?_
      refine aops_n rfl (n_as rfl (by constructor)) ?_
      refine aops_nil ?_
      dsimp only [St.put]
      refine hK9 _ ?_
      refine aw_seq_k fun K10 hK10 => ?_
      refine aw_region ?_
      refine aops_n rfl (n_mv rfl (by constructor)) ?_
      refine aops_n rfl (n_mv rfl (by constructor)) ?_
      try dsimp only [St.put]
      refine aops_e rfl (e_call_pure rfl rfl rfl (SamePlaces_self _) ?_)
      refine aops_n rfl (n_mv rfl (by constructor)) ?_
      refine aops_n rfl (n_mv rfl (by constructor)) ?_
      refine aops_n rfl (n_mv rfl (by constructor)) ?_
      refine aops_n rfl (n_bool (c := true) (n_eql rfl rfl rfl) (decide_eq_true rfl)) ?_
      refine aops_n rfl (n_pt rfl rfl (by constructor)) ?_
      refine aops_n rfl (n_mv rfl (by constructor)) ?_
      refine aops_n rfl (n_mv rfl (by constructor)) ?_
      refine aops_n rfl (n_mv rfl (by constructor)) ?_
      try dsimp only [St.put]
      refine aops_e rfl (e_call_pure rfl rfl rfl (SamePlaces_self _) ?_)
      refine aops_n rfl (n_pt rfl rfl (by constructor)) ?_
      refine aops_n rfl (n_mv rfl (by constructor)) ?_
      refine aops_n rfl (n_mv rfl (by constructor)) ?_
      refine aops_n rfl (n_mv rfl (by constructor)) ?_
      refine aops_n rfl (n_bool (c := true) (n_eql rfl rfl rfl) (decide_eq_true rfl)) ?_
      refine aops_n rfl (n_pt rfl rfl (by constructor)) ?_
      refine aops_n rfl (n_mv rfl (by constructor)) ?_
      try dsimp only [St.put]
      refine aops_s rfl (s_load_agg' rfl rfl rfl) ?_
      try dsimp only [St.put]
      refine aops_s rfl (s_load_agg' rfl rfl rfl) ?_
      try dsimp only [St.put]
      refine aops_e rfl (e_call_pure rfl rfl rfl (Same_self _) ?_)
      refine aops_n rfl (n_pt rfl rfl (by constructor)) ?_
      refine aops_n rfl (n_mv rfl (by constructor)) ?_
      try dsimp only [St.put]
      refine aops_s rfl (s_load_agg' rfl rfl (Enc.len _)) ?_
      try dsimp only [St.put]
      refine aops_s rfl (s_load_agg' rfl rfl (Enc.len _)) ?_
      try dsimp only [St.put]
      refine aops_e rfl (e_call_pure rfl rfl rfl (Same2_self _) ?_)
      refine aops_n rfl (n_pt rfl rfl (by constructor)) ?_
      refine aops_n rfl (n_as rfl (by constructor)) ?_
      refine aops_nil ?_
      dsimp only [St.put]
      refine hK10 _ ?_
      refine aw_ret ?_
      refine ends_1 rfl (by constructor) zN zS ?_
      rfl
end Go.Proofs.YtjjklfgpffgnfaaDoor
