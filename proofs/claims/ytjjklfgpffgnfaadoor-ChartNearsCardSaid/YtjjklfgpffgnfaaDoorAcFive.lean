/-
  Contracts of the reference's functions of layer 1: Twin, TwinCopy.
-/
import Derived.Test.YtjjklfgpffgnfaaDoorAcFour
namespace Go.Proofs.YtjjklfgpffgnfaaDoor
set_option maxRecDepth 10000
open Go.RowKit Go.AB
open Go.AB.Enc (cells)
open Go.PB (Chap TextD PlaceD ReadingD CopyD WayD)

theorem Twin_pure (t : TextD) (hg : greatB t = false) : Pure Tryd.prog 8 [textC t] (textC t) := by
  refine pure_of_body Tryd.func8 rfl (fun m => .agg (low_cons (lst_low _ _) low_nil)) fun G nx => ?_
  simp only [Tryd.ntmps8, List.length_cons, List.length_nil, Nat.reduceAdd, Nat.reduceSub]
  refine aw_lt fun hlt => ?_
  dsimp only at hlt
  refine aw_fit 0 (fun hf => ?_)
  replace hf := text_fit hf
  have hf0 := hf.len
  have hs := small_of hg
  have hs0 := hs.len
  refine aw_seq_k fun K1 hK1 => ?_
  refine aw_region ?_
  try dsimp only [St.put]
  refine aops_e rfl (e_box rfl rfl (by simp) ?_)
  try dsimp only [St.put]
  refine aops_e rfl (e_allocC rfl ?_)
  refine aops_nil ?_
  dsimp only [St.put]
  refine hK1 _ ?_
  refine aw_seq_k fun K2 hK2 => ?_
  refine aw_region ?_
  try dsimp only [St.put]
  refine aops_e rfl (e_allocC rfl ?_)
  refine aops_nil ?_
  dsimp only [St.put]
  refine hK2 _ ?_
  refine aw_adopt_box (nx + 1) 0 _ _ 88 2 zG rfl (by decide) ?_
  dsimp only [List.set_cons_zero, List.set_cons_succ]
  refine aw_seq_k fun K3 hK3 => ?_
  refine aw_seq_k fun K4 hK4 => ?_
  refine aw_region ?_
  refine aops_n rfl (n_as rfl (by constructor)) ?_
  refine aops_nil ?_
  dsimp only [St.put]
  refine hK4 _ ?_
  refine aw_block ?_
  refine aw_wipe 7 ?_
  simp only [firsts, getA, Nat.reduceAdd, List.getD_cons_zero, List.getD_cons_succ, List.getD_nil, natBeq, Nat.reduceBEq, cond_true, cond_false]
  refine aw_forget ((setG (setG (setG G nx (.box 0 [.list [] .nil])) (nx + 1) (.box 0 [.list ((t.take 0).map cells) (.tip (nx + 1 + 1))])) (nx + 1 + 1) (.tip (t.take 0).length 88 2))) zX ?_
  dsimp only
  refine aw_loopD (X := Nat) (fun k => k ≤ t.length) (fun k => t.length - k) (fun k => [(4, .v (.int .i64 (k : Int))), (5, .any), (6, .any)]) (fun k G' => (setG (setG (setG G nx (.box 0 [.list [] .nil])) (nx + 1) (.box k [.list ((t.take k).map cells) (.tip (nx + 1 + 1))])) (nx + 1 + 1) (.tip (t.take k).length 88 2))) 0 rfl ?_ ?_ ?_ ?_ ?_ ?_
  · exact Nat.zero_le _
  · exact zF
  · exact zX
  · rintro k hI
    exact zL
  · rintro k hI
    exact zH
  · rintro k hI
    dsimp only at hI ⊢
    refine aw_seq_k fun K5 hK5 => ?_
    refine aw_seq_k fun K6 hK6 => ?_
    refine aw_region ?_
    refine aops_n rfl (n_mv rfl (by constructor)) ?_
    first | refine aops_n rfl (n_fieldAddr' rfl rfl rfl) ?_ | refine aops_n rfl (n_fieldAddr_box rfl rfl) ?_
    try dsimp only [St.put]
    first | refine aops_s rfl (s_load rfl rfl) ?_ | refine aops_s rfl (s_load_agg' rfl rfl (Enc.len _)) ?_ | refine aops_s rfl (s_load_agg' rfl rfl rfl) ?_ | refine aops_s rfl (s_load_box rfl rfl zG trivial (by first | rfl | assumption)) ?_ | refine aops_s rfl (s_load_box_all rfl rfl zG trivial (by rfl)) ?_ | refine aops_s rfl (s_load_box_agg rfl rfl zG trivial (by simp)) ?_ | refine aops_s rfl (s_load_own rfl rfl zG trivial (flatC_get (by assumption) rfl)) ?_ | refine aops_s rfl (s_load_own rfl rfl zG trivial (by assumption)) ?_ | refine aops_s rfl (s_load_own_row rfl rfl zG trivial rfl (by assumption) rfl (by decide)) ?_ | refine aops_s rfl (s_load_fact rfl rfl zG (by rfl)) ?_
    first | refine aops_n rfl (n_len' rfl rfl (List.length_map _)) ?_ | refine aops_n rfl (n_len' rfl rfl rfl) ?_ | refine aops_n rfl (n_lenstr' rfl rfl) ?_ | refine aops_n rfl (n_len_arr rfl rfl) ?_ | refine aops_n rfl (n_len_own rfl rfl) ?_ | refine aops_n rfl (n_len_v rfl rfl (by omega)) ?_
    refine aops_n rfl (n_lss rfl rfl rfl) ?_
    refine aops_nil ?_
    dsimp only [St.put]
    refine hK6 _ ?_
    refine aw_cond rfl (fun hc => ?_) (fun hc => ?_)
    · replace hc := of_decide_eq_true hc
      obtain ⟨c, hx⟩ : ∃ x, t[k]? = some x := some_of_lt (by omega)
      have hf1 := hs.lines c (mem_of_get hx)
      refine aw_skip ?_
      refine hK5 _ ?_
      refine aw_seq_k fun K7 hK7 => ?_
      refine aw_block ?_
      refine aw_seq_k fun K8 hK8 => ?_
      refine aw_region ?_
      first | refine aops_n rfl (n_fieldAddr' rfl rfl rfl) ?_ | refine aops_n rfl (n_fieldAddr_box rfl rfl) ?_
      try dsimp only [St.put]
      first | refine aops_s rfl (s_load rfl rfl) ?_ | refine aops_s rfl (s_load_agg' rfl rfl (Enc.len _)) ?_ | refine aops_s rfl (s_load_agg' rfl rfl rfl) ?_ | refine aops_s rfl (s_load_box rfl rfl zG trivial (by first | rfl | assumption)) ?_ | refine aops_s rfl (s_load_box_all rfl rfl zG trivial (by rfl)) ?_ | refine aops_s rfl (s_load_box_agg rfl rfl zG trivial (by simp)) ?_ | refine aops_s rfl (s_load_own rfl rfl zG trivial (flatC_get (by assumption) rfl)) ?_ | refine aops_s rfl (s_load_own rfl rfl zG trivial (by assumption)) ?_ | refine aops_s rfl (s_load_own_row rfl rfl zG trivial rfl (by assumption) rfl (by decide)) ?_ | refine aops_s rfl (s_load_fact rfl rfl zG (by rfl)) ?_
      refine aops_n rfl (n_mv rfl (by constructor)) ?_
      try dsimp only [St.put]
      first | refine aops_n rfl (n_indexAddr rfl rfl rfl rfl (map_get (by assumption)) (Enc.len _)) ?_ | refine aops_n rfl (n_indexAddr rfl rfl rfl rfl (by assumption) rfl) ?_ | refine aops_n rfl (n_indexAddr_arr1 rfl rfl rfl (by first | exact idx_succ _ | exact rfl) (by omega)) ?_ | refine aops_n rfl (n_indexAddr rfl rfl rfl (by omega) (map_get (by assumption)) (Enc.len _)) ?_
      first | refine aops_n rfl (n_fieldAddr' rfl rfl rfl) ?_ | refine aops_n rfl (n_fieldAddr_box rfl rfl) ?_
      try dsimp only [St.put]
      first | refine aops_s rfl (s_load rfl rfl) ?_ | refine aops_s rfl (s_load_agg' rfl rfl (Enc.len _)) ?_ | refine aops_s rfl (s_load_agg' rfl rfl rfl) ?_ | refine aops_s rfl (s_load_box rfl rfl zG trivial (by first | rfl | assumption)) ?_ | refine aops_s rfl (s_load_box_all rfl rfl zG trivial (by rfl)) ?_ | refine aops_s rfl (s_load_box_agg rfl rfl zG trivial (by simp)) ?_ | refine aops_s rfl (s_load_own rfl rfl zG trivial (flatC_get (by assumption) rfl)) ?_ | refine aops_s rfl (s_load_own rfl rfl zG trivial (by assumption)) ?_ | refine aops_s rfl (s_load_own_row rfl rfl zG trivial rfl (by assumption) rfl (by decide)) ?_ | refine aops_s rfl (s_load_fact rfl rfl zG (by rfl)) ?_
      refine aops_n rfl (n_build rfl rfl) ?_
      try dsimp only [St.put]
      refine aops_e rfl (e_allocC rfl ?_)
      try dsimp only [St.put]
      first | refine aops_e rfl (e_store_all rfl rfl rfl zG rfl rfl (by rfl) ?_) | refine aops_e rfl (e_store_one rfl rfl rfl zG (by constructor) rfl (by first | (simp; done) | (simp; omega) | exact Nat.lt_of_lt_of_eq (by decide) (Enc.len _).symm) ?_)
      refine aops_nil ?_
      dsimp only [St.put]
      refine hK8 _ ?_
      refine aw_adopt_box (nx + 1 + 1 + 1) 1 _ _ 89 1 zG rfl (by decide) ?_
      dsimp only [List.set_cons_zero, List.set_cons_succ]
      refine aw_seq_k fun K9 hK9 => ?_
      refine aw_seq_k fun K10 hK10 => ?_
      refine aw_region ?_
      refine aops_n rfl (n_as rfl (by constructor)) ?_
      refine aops_nil ?_
      dsimp only [St.put]
      refine hK10 _ ?_
      refine aw_block ?_
      refine aw_wipe 7 ?_
      simp only [firsts, getA, Nat.reduceAdd, List.getD_cons_zero, List.getD_cons_succ, List.getD_nil, natBeq, Nat.reduceBEq, cond_true, cond_false]
      refine aw_forget ((setG (setG (setG (setG (setG G nx (.box 0 [.list [] .nil])) (nx + 1) (.box k [.list ((t.take k).map cells) (.tip (nx + 1 + 1))])) (nx + 1 + 1) (.tip (t.take k).length 88 2)) (nx + 1 + 1 + 1) (.box (0 + 1) [.v (.int .i64 c.id), .list ((c.lines.take 0).map cells) (.tip (nx + 1 + 1 + 1 + 1))])) (nx + 1 + 1 + 1 + 1) (.tip (c.lines.take 0).length 89 1))) zX ?_
      dsimp only
      refine aw_loopD (X := Nat) (fun m => m ≤ c.lines.length) (fun m => c.lines.length - m) (fun m => [(6, .v (.int .i64 (m : Int)))]) (fun m G' => (setG (setG (setG (setG (setG G nx (.box 0 [.list [] .nil])) (nx + 1) (.box k [.list ((t.take k).map cells) (.tip (nx + 1 + 1))])) (nx + 1 + 1) (.tip (t.take k).length 88 2)) (nx + 1 + 1 + 1) (.box (m + 1) [.v (.int .i64 c.id), .list ((c.lines.take m).map cells) (.tip (nx + 1 + 1 + 1 + 1))])) (nx + 1 + 1 + 1 + 1) (.tip (c.lines.take m).length 89 1))) 0 rfl ?_ ?_ ?_ ?_ ?_ ?_
      · exact Nat.zero_le _
      · exact zF
      · exact zX
      · rintro m hI
        exact zL
      · rintro m hI
        exact zH
      · rintro m hJ
        dsimp only at hJ ⊢
        refine aw_seq_k fun K11 hK11 => ?_
        refine aw_seq_k fun K12 hK12 => ?_
        refine aw_region ?_
        refine aops_n rfl (n_mv rfl (by constructor)) ?_
        first | refine aops_n rfl (n_fieldAddr' rfl rfl rfl) ?_ | refine aops_n rfl (n_fieldAddr_box rfl rfl) ?_
        try dsimp only [St.put]
        first | refine aops_s rfl (s_load rfl rfl) ?_ | refine aops_s rfl (s_load_agg' rfl rfl (Enc.len _)) ?_ | refine aops_s rfl (s_load_agg' rfl rfl rfl) ?_ | refine aops_s rfl (s_load_box rfl rfl zG trivial (by first | rfl | assumption)) ?_ | refine aops_s rfl (s_load_box_all rfl rfl zG trivial (by rfl)) ?_ | refine aops_s rfl (s_load_box_agg rfl rfl zG trivial (by simp)) ?_ | refine aops_s rfl (s_load_own rfl rfl zG trivial (flatC_get (by assumption) rfl)) ?_ | refine aops_s rfl (s_load_own rfl rfl zG trivial (by assumption)) ?_ | refine aops_s rfl (s_load_own_row rfl rfl zG trivial rfl (by assumption) rfl (by decide)) ?_ | refine aops_s rfl (s_load_fact rfl rfl zG (by rfl)) ?_
        refine aops_n rfl (n_mv rfl (by constructor)) ?_
        try dsimp only [St.put]
        first | refine aops_n rfl (n_indexAddr rfl rfl rfl rfl (map_get (by assumption)) (Enc.len _)) ?_ | refine aops_n rfl (n_indexAddr rfl rfl rfl rfl (by assumption) rfl) ?_ | refine aops_n rfl (n_indexAddr_arr1 rfl rfl rfl (by first | exact idx_succ _ | exact rfl) (by omega)) ?_ | refine aops_n rfl (n_indexAddr rfl rfl rfl (by omega) (map_get (by assumption)) (Enc.len _)) ?_
        first | refine aops_n rfl (n_fieldAddr' rfl rfl rfl) ?_ | refine aops_n rfl (n_fieldAddr_box rfl rfl) ?_
        try dsimp only [St.put]
        first | refine aops_s rfl (s_load rfl rfl) ?_ | refine aops_s rfl (s_load_agg' rfl rfl (Enc.len _)) ?_ | refine aops_s rfl (s_load_agg' rfl rfl rfl) ?_ | refine aops_s rfl (s_load_box rfl rfl zG trivial (by first | rfl | assumption)) ?_ | refine aops_s rfl (s_load_box_all rfl rfl zG trivial (by rfl)) ?_ | refine aops_s rfl (s_load_box_agg rfl rfl zG trivial (by simp)) ?_ | refine aops_s rfl (s_load_own rfl rfl zG trivial (flatC_get (by assumption) rfl)) ?_ | refine aops_s rfl (s_load_own rfl rfl zG trivial (by assumption)) ?_ | refine aops_s rfl (s_load_own_row rfl rfl zG trivial rfl (by assumption) rfl (by decide)) ?_ | refine aops_s rfl (s_load_fact rfl rfl zG (by rfl)) ?_
        first | refine aops_n rfl (n_len' rfl rfl (List.length_map _)) ?_ | refine aops_n rfl (n_len' rfl rfl rfl) ?_ | refine aops_n rfl (n_lenstr' rfl rfl) ?_ | refine aops_n rfl (n_len_arr rfl rfl) ?_ | refine aops_n rfl (n_len_own rfl rfl) ?_ | refine aops_n rfl (n_len_v rfl rfl (by omega)) ?_
        refine aops_n rfl (n_lss rfl rfl rfl) ?_
        refine aops_nil ?_
        dsimp only [St.put]
        refine hK12 _ ?_
        refine aw_cond rfl (fun hc => ?_) (fun hc => ?_)
        · replace hc := of_decide_eq_true hc
          obtain ⟨l, hl⟩ : ∃ x, c.lines[m]? = some x := some_of_lt (by omega)
          have hf2 := hs.words c (mem_of_get hx) l (mem_of_get hl)
          refine aw_skip ?_
          refine hK11 _ ?_
          refine aw_seq_k fun K13 hK13 => ?_
          refine aw_block ?_
          refine aw_draw [(0, none), (1, none), (3, none), (4, none), (5, none), (6, none), (7, none), (8, none), (9, none), (10, none), (11, none), (2, none), (12, none), (13, none), (14, none), (15, none), (16, none)] (fun i => [14, 16].contains i) (fun i => [2, 12, 13, 14, 16].contains i) (fun i => [0, 3, 5, 6, 7, 9, 10, 15].contains i) [nx + 1 + 1 + 1] (by kernel_rfl) (by kernel_rfl) ?_
          first | refine acan1_n rfl rfl rfl rfl (n_fieldAddr' rfl rfl rfl) ?_ | refine acan1_n rfl rfl rfl rfl (n_fieldAddr_box rfl rfl) ?_
          try dsimp only [St.put]
          first | refine acan1_s rfl rfl rfl rfl (s_load rfl rfl) ?_ | refine acan1_s rfl rfl rfl rfl (s_load_agg' rfl rfl (Enc.len _)) ?_ | refine acan1_s rfl rfl rfl rfl (s_load_agg' rfl rfl rfl) ?_ | refine acan1_s rfl rfl rfl rfl (s_load_box rfl rfl zG (by simp) (by first | rfl | assumption)) ?_ | refine acan1_s rfl rfl rfl rfl (s_load_box_all rfl rfl zG (by simp) (by rfl)) ?_ | refine acan1_s rfl rfl rfl rfl (s_load_box_agg rfl rfl zG (by simp) (by simp)) ?_ | refine acan1_s rfl rfl rfl rfl (s_load_own rfl rfl zG (by simp) (flatC_get (by assumption) rfl)) ?_ | refine acan1_s rfl rfl rfl rfl (s_load_own rfl rfl zG (by simp) (by assumption)) ?_ | refine acan1_s rfl rfl rfl rfl (s_load_own_row rfl rfl zG (by simp) rfl (by assumption) rfl (by decide)) ?_ | refine acan1_s rfl rfl rfl rfl (s_load_fact rfl rfl zG (by rfl)) ?_
          first | refine acan1_n rfl rfl rfl rfl (n_fieldAddr' rfl rfl rfl) ?_ | refine acan1_n rfl rfl rfl rfl (n_fieldAddr_box rfl rfl) ?_
          try dsimp only [St.put]
          first | refine acan1_s rfl rfl rfl rfl (s_load rfl rfl) ?_ | refine acan1_s rfl rfl rfl rfl (s_load_agg' rfl rfl (Enc.len _)) ?_ | refine acan1_s rfl rfl rfl rfl (s_load_agg' rfl rfl rfl) ?_ | refine acan1_s rfl rfl rfl rfl (s_load_box rfl rfl zG (by simp) (by first | rfl | assumption)) ?_ | refine acan1_s rfl rfl rfl rfl (s_load_box_all rfl rfl zG (by simp) (by rfl)) ?_ | refine acan1_s rfl rfl rfl rfl (s_load_box_agg rfl rfl zG (by simp) (by simp)) ?_ | refine acan1_s rfl rfl rfl rfl (s_load_own rfl rfl zG (by simp) (flatC_get (by assumption) rfl)) ?_ | refine acan1_s rfl rfl rfl rfl (s_load_own rfl rfl zG (by simp) (by assumption)) ?_ | refine acan1_s rfl rfl rfl rfl (s_load_own_row rfl rfl zG (by simp) rfl (by assumption) rfl (by decide)) ?_ | refine acan1_s rfl rfl rfl rfl (s_load_fact rfl rfl zG (by rfl)) ?_
          refine acan1_n rfl rfl rfl rfl (n_mv rfl (by constructor)) ?_
          try dsimp only [St.put]
          first | refine acan1_n rfl rfl rfl rfl (n_indexAddr rfl rfl rfl rfl (map_get (by assumption)) (Enc.len _)) ?_ | refine acan1_n rfl rfl rfl rfl (n_indexAddr rfl rfl rfl rfl (by assumption) rfl) ?_ | refine acan1_n rfl rfl rfl rfl (n_indexAddr_arr1 rfl rfl rfl (by first | exact idx_succ _ | exact rfl) (by omega)) ?_ | refine acan1_n rfl rfl rfl rfl (n_indexAddr rfl rfl rfl (by omega) (map_get (by assumption)) (Enc.len _)) ?_
          first | refine acan1_n rfl rfl rfl rfl (n_fieldAddr' rfl rfl rfl) ?_ | refine acan1_n rfl rfl rfl rfl (n_fieldAddr_box rfl rfl) ?_
          try dsimp only [St.put]
          first | refine acan1_s rfl rfl rfl rfl (s_load rfl rfl) ?_ | refine acan1_s rfl rfl rfl rfl (s_load_agg' rfl rfl (Enc.len _)) ?_ | refine acan1_s rfl rfl rfl rfl (s_load_agg' rfl rfl rfl) ?_ | refine acan1_s rfl rfl rfl rfl (s_load_box rfl rfl zG (by simp) (by first | rfl | assumption)) ?_ | refine acan1_s rfl rfl rfl rfl (s_load_box_all rfl rfl zG (by simp) (by rfl)) ?_ | refine acan1_s rfl rfl rfl rfl (s_load_box_agg rfl rfl zG (by simp) (by simp)) ?_ | refine acan1_s rfl rfl rfl rfl (s_load_own rfl rfl zG (by simp) (flatC_get (by assumption) rfl)) ?_ | refine acan1_s rfl rfl rfl rfl (s_load_own rfl rfl zG (by simp) (by assumption)) ?_ | refine acan1_s rfl rfl rfl rfl (s_load_own_row rfl rfl zG (by simp) rfl (by assumption) rfl (by decide)) ?_ | refine acan1_s rfl rfl rfl rfl (s_load_fact rfl rfl zG (by rfl)) ?_
          refine acan1_n rfl rfl rfl rfl (n_mv rfl (by constructor)) ?_
          try dsimp only [St.put]
          first | refine acan1_n rfl rfl rfl rfl (n_indexAddr rfl rfl rfl rfl (map_get (by assumption)) (Enc.len _)) ?_ | refine acan1_n rfl rfl rfl rfl (n_indexAddr rfl rfl rfl rfl (by assumption) rfl) ?_ | refine acan1_n rfl rfl rfl rfl (n_indexAddr_arr1 rfl rfl rfl (by first | exact idx_succ _ | exact rfl) (by omega)) ?_ | refine acan1_n rfl rfl rfl rfl (n_indexAddr rfl rfl rfl (by omega) (map_get (by assumption)) (Enc.len _)) ?_
          try dsimp only [St.put]
          first | refine acan1_s rfl rfl rfl rfl (s_load rfl rfl) ?_ | refine acan1_s rfl rfl rfl rfl (s_load_agg' rfl rfl (Enc.len _)) ?_ | refine acan1_s rfl rfl rfl rfl (s_load_agg' rfl rfl rfl) ?_ | refine acan1_s rfl rfl rfl rfl (s_load_box rfl rfl zG (by simp) (by first | rfl | assumption)) ?_ | refine acan1_s rfl rfl rfl rfl (s_load_box_all rfl rfl zG (by simp) (by rfl)) ?_ | refine acan1_s rfl rfl rfl rfl (s_load_box_agg rfl rfl zG (by simp) (by simp)) ?_ | refine acan1_s rfl rfl rfl rfl (s_load_own rfl rfl zG (by simp) (flatC_get (by assumption) rfl)) ?_ | refine acan1_s rfl rfl rfl rfl (s_load_own rfl rfl zG (by simp) (by assumption)) ?_ | refine acan1_s rfl rfl rfl rfl (s_load_own_row rfl rfl zG (by simp) rfl (by assumption) rfl (by decide)) ?_ | refine acan1_s rfl rfl rfl rfl (s_load_fact rfl rfl zG (by rfl)) ?_
          refine acan1_two ?_
          try dsimp only [St.put]
          refine acan2_e rfl rfl rfl (e_buildSlice0 rfl ⟨zD, ?_⟩)
          try dsimp only [St.put]
          refine acan2_e rfl rfl rfl (e_append_data rfl rfl (by first | exact .inl rfl | exact .inr rfl) rfl (by decide) zA zA ⟨zD, ?_⟩)
          try dsimp only [St.put]
          refine acan2_e rfl rfl rfl (e_buildSlice rfl rfl rfl (by decide) (by decide) zR (by decide) ⟨zD, ?_⟩)
          try dsimp only [St.put]
          refine acan2_late rfl rfl rfl rfl (e_append ([l]) rfl rfl zG (by first | rfl | simp) rfl rfl zA ?_ zA)
          first | refine acan2_n rfl rfl rfl rfl (n_fieldAddr' rfl rfl rfl) ?_ | refine acan2_n rfl rfl rfl rfl (n_fieldAddr_box rfl rfl) ?_
          try dsimp only [St.put]
          first | refine acan2_late rfl rfl rfl rfl (e_store_all rfl rfl rfl zG rfl rfl (by rfl) ?_) | refine acan2_late rfl rfl rfl rfl (e_store_one rfl rfl rfl zG (by constructor) rfl (by first | (simp; done) | (simp; omega) | exact Nat.lt_of_lt_of_eq (by decide) (Enc.len _).symm) ?_)
          refine acan2_nil ?_
          dsimp only [St.put]
          refine hK13 _ ?_
          refine aw_region ?_
          refine aops_n rfl (n_mv rfl (by constructor)) ?_
          first | refine aops_n rfl (n_add rfl rfl rfl (by omega)) ?_ | refine aops_n rfl (n_addw rfl rfl rfl) ?_
          refine aops_n rfl (n_as rfl (by constructor)) ?_
          refine aops_nil ?_
          dsimp only [St.put]
          simp only [take_snoc hl]
          exact ⟨m + 1, by omega, by omega, ⟨⟨rfl, rfl⟩, zF, zB, zN, zX⟩⟩
        · replace hc := of_decide_eq_false hc
          rw [take_all (show c.lines.length ≤ m by omega)]
          refine aw_weak (nx + 1 + 1 + 1) _ [.v (.int .i64 c.id), lst c.lines] zG zW ?_
          refine aw_exit ?_
          refine hK9 _ ?_
          refine aw_region ?_
          first | refine aops_n rfl (n_fieldAddr' rfl rfl rfl) ?_ | refine aops_n rfl (n_fieldAddr_box rfl rfl) ?_
          try dsimp only [St.put]
          first | refine aops_s rfl (s_load rfl rfl) ?_ | refine aops_s rfl (s_load_agg' rfl rfl (Enc.len _)) ?_ | refine aops_s rfl (s_load_agg' rfl rfl rfl) ?_ | refine aops_s rfl (s_load_box rfl rfl zG trivial (by first | rfl | assumption)) ?_ | refine aops_s rfl (s_load_box_all rfl rfl zG trivial (by rfl)) ?_ | refine aops_s rfl (s_load_box_agg rfl rfl zG trivial (by simp)) ?_ | refine aops_s rfl (s_load_own rfl rfl zG trivial (flatC_get (by assumption) rfl)) ?_ | refine aops_s rfl (s_load_own rfl rfl zG trivial (by assumption)) ?_ | refine aops_s rfl (s_load_own_row rfl rfl zG trivial rfl (by assumption) rfl (by decide)) ?_ | refine aops_s rfl (s_load_fact rfl rfl zG (by rfl)) ?_
          try dsimp only [St.put]
          first | refine aops_s rfl (s_load rfl rfl) ?_ | refine aops_s rfl (s_load_agg' rfl rfl (Enc.len _)) ?_ | refine aops_s rfl (s_load_agg' rfl rfl rfl) ?_ | refine aops_s rfl (s_load_box rfl rfl zG trivial (by first | rfl | assumption)) ?_ | refine aops_s rfl (s_load_box_all rfl rfl zG trivial (by rfl)) ?_ | refine aops_s rfl (s_load_box_agg rfl rfl zG trivial (by simp)) ?_ | refine aops_s rfl (s_load_own rfl rfl zG trivial (flatC_get (by assumption) rfl)) ?_ | refine aops_s rfl (s_load_own rfl rfl zG trivial (by assumption)) ?_ | refine aops_s rfl (s_load_own_row rfl rfl zG trivial rfl (by assumption) rfl (by decide)) ?_ | refine aops_s rfl (s_load_fact rfl rfl zG (by rfl)) ?_
          try dsimp only [St.put]
          refine aops_e rfl (e_buildSlice rfl rfl rfl (by decide) (by decide) zR (by decide) ?_)
          try dsimp only [St.put]
          refine aops_e rfl (e_append ([c]) rfl rfl zG (by first | rfl | simp) rfl rfl zA ?_ zA)
          first | refine aops_n rfl (n_fieldAddr' rfl rfl rfl) ?_ | refine aops_n rfl (n_fieldAddr_box rfl rfl) ?_
          try dsimp only [St.put]
          first | refine aops_e rfl (e_store_all rfl rfl rfl zG rfl rfl (by rfl) ?_) | refine aops_e rfl (e_store_one rfl rfl rfl zG (by constructor) rfl (by first | (simp; done) | (simp; omega) | exact Nat.lt_of_lt_of_eq (by decide) (Enc.len _).symm) ?_)
          refine aops_nil ?_
          dsimp only [St.put]
          refine hK7 _ ?_
          refine aw_region ?_
          refine aops_n rfl (n_mv rfl (by constructor)) ?_
          first | refine aops_n rfl (n_add rfl rfl rfl (by omega)) ?_ | refine aops_n rfl (n_addw rfl rfl rfl) ?_
          refine aops_n rfl (n_as rfl (by constructor)) ?_
          refine aops_nil ?_
          dsimp only [St.put]
          simp only [take_snoc hx]
          exact ⟨k + 1, by omega, by omega, ⟨⟨rfl, rfl⟩, zF, zB, zN, zX⟩⟩
    · try replace hc := of_decide_eq_false hc
      refine aw_exit ?_
      refine hK3 _ ?_
      refine aw_seq_k fun K14 hK14 => ?_
      refine aw_region ?_
      try dsimp only [St.put]
      first | refine aops_s rfl (s_load rfl rfl) ?_ | refine aops_s rfl (s_load_agg' rfl rfl (Enc.len _)) ?_ | refine aops_s rfl (s_load_agg' rfl rfl rfl) ?_ | refine aops_s rfl (s_load_box rfl rfl zG trivial (by first | rfl | assumption)) ?_ | refine aops_s rfl (s_load_box_all rfl rfl zG trivial (by rfl)) ?_ | refine aops_s rfl (s_load_box_agg rfl rfl zG trivial (by simp)) ?_ | refine aops_s rfl (s_load_own rfl rfl zG trivial (flatC_get (by assumption) rfl)) ?_ | refine aops_s rfl (s_load_own rfl rfl zG trivial (by assumption)) ?_ | refine aops_s rfl (s_load_own_row rfl rfl zG trivial rfl (by assumption) rfl (by decide)) ?_ | refine aops_s rfl (s_load_fact rfl rfl zG (by rfl)) ?_
      try dsimp only [St.put]
      first | refine aops_e rfl (e_store_all rfl rfl rfl zG rfl rfl (by rfl) ?_) | refine aops_e rfl (e_store_one rfl rfl rfl zG (by constructor) rfl (by first | (simp; done) | (simp; omega) | exact Nat.lt_of_lt_of_eq (by decide) (Enc.len _).symm) ?_)
      refine aops_nil ?_
      dsimp only [St.put]
      refine hK14 _ ?_
      refine aw_ret ?_
      refine ends_v1 rfl (rv_box rfl zG (by rfl) (by first | exact List.cons_ne_nil _ _ | (simp; done) | (simp [putAt]; done)) rfl) zN zS ?_
      rw [take_all (show t.length ≤ k by omega)]
      exact zW
end Go.Proofs.YtjjklfgpffgnfaaDoor
