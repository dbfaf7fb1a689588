/-
  Contracts of the reference's functions of layer 1: Twin, TwinCopy.
-/
import Derived.Test.YtalkonicppbgdaaAcFour
namespace Go.Proofs.Ytalkonicppbgdaa
open Go.RowKit Go.AB
open Go.AB.Enc (cells)
open Go.PB (Chap TextD PlaceD ReadingD CopyD WayD)

theorem Twin_pure (t : TextD) (hg : greatB t = false) : Pure Try.prog 5 [textC t] (textC t) := by
  refine pure_of_body Try.func5 rfl (fun m => .agg (low_cons (lst_low _ _) low_nil)) fun G nx => ?_
  simp only [Try.ntmps5, List.length_cons, List.length_nil, Nat.reduceAdd, Nat.reduceSub]
  refine aw_lt fun hlt => ?_
  dsimp only at hlt
  refine aw_fit 0 (fun hf => ?_)
  replace hf := text_fit hf
  have hf0 := hf.len
  have hs := small_of hg
  have hs0 := hs.len
  refine aw_seq_k fun K1 hK1 => ?_
  refine aw_region ?_
  try dsimp only [St.put]
  refine aops_e rfl (e_box rfl rfl (by simp) ?_)
  try dsimp only [St.put]
  refine aops_e rfl (e_allocC rfl ?_)
  refine aops_nil ?_
  dsimp only [St.put]
  refine hK1 _ ?_
  refine aw_seq_k fun K2 hK2 => ?_
  refine aw_region ?_
  try dsimp only [St.put]
  refine aops_e rfl (e_allocC rfl ?_)
  refine aops_nil ?_
  dsimp only [St.put]
  refine hK2 _ ?_
  refine aw_adopt_box (nx + 1) 0 _ _ 44 2 (by (try dsimp only); repeat (first | exact setG_same _ _ _ | assumption | rw [setG_other (by omega)] | rw [delG_other (by omega)])) rfl (by decide) ?_
  dsimp only [List.set_cons_zero, List.set_cons_succ]
  refine aw_seq_k fun K3 hK3 => ?_
  refine aw_seq_k fun K4 hK4 => ?_
  refine aw_region ?_
  refine aops_n rfl (n_as rfl (by constructor)) ?_
  refine aops_nil ?_
  dsimp only [St.put]
  refine hK4 _ ?_
  refine aw_block ?_
  refine aw_wipe 7 ?_
  simp only [firsts, getA, Nat.reduceAdd, List.getD_cons_zero, List.getD_cons_succ, List.getD_nil, natBeq, Nat.reduceBEq, cond_true, cond_false]
  refine aw_forget ((setG (setG (setG G nx (.box 0 [.list [] .nil])) (nx + 1) (.box 0 [.list ((t.take 0).map cells) (.tip (nx + 1 + 1))])) (nx + 1 + 1) (.tip (t.take 0).length 44 2))) (by (repeat' (refine subG_set (by (try dsimp only); repeat (first | exact setG_same _ _ _ | assumption | rw [setG_other (by omega)] | rw [delG_other (by omega)])) ?_)); exact (fun n o h => by first | exact h | (have := hlt n o h; (try dsimp only); repeat (first | exact h | rw [setG_other (by omega)] | rw [delG_other (by omega)])))) ?_
  dsimp only
  refine aw_loopD (X := Nat) (fun k => k ≤ t.length) (fun k => t.length - k) (fun k => [(4, .v (.int .i64 (k : Int))), (5, .any), (6, .any)]) (fun k G' => (setG (setG (setG G nx (.box 0 [.list [] .nil])) (nx + 1) (.box k [.list ((t.take k).map cells) (.tip (nx + 1 + 1))])) (nx + 1 + 1) (.tip (t.take k).length 44 2))) 0 rfl ?_ ?_ ?_ ?_ ?_ ?_
  · exact Nat.zero_le _
  · exact (by repeat' (first | exact trivial | refine ⟨?_, ?_⟩ | exact .inr rfl | exact .inl rfl | exact .inr (congrArg C.v (congrArg (Value.int _) (by simp; try omega)))))
  · exact (by (repeat' (refine subG_set (by (try dsimp only); repeat (first | exact setG_same _ _ _ | assumption | rw [setG_other (by omega)] | rw [delG_other (by omega)])) ?_)); exact (fun n o h => by first | exact h | (have := hlt n o h; (try dsimp only); repeat (first | exact h | rw [setG_other (by omega)] | rw [delG_other (by omega)]))))
  · rintro k hI
    exact (by (try dsimp only); repeat' (first | exact trivial | refine ⟨?_, ?_⟩ | exact .v | exact .any | exact lst_low _ _ | exact cells_low _ _ | exact val_low _ _ | exact data_low _ (by (try dsimp only); omega) | exact .box (by (try dsimp only); omega) | exact nil_low | exact low_nil | refine set_low ?_ ?_ | exact .arr (by (try dsimp only); omega) | refine low_cons ?_ ?_ | exact lst_low _ _))
  · rintro k hI
    exact (by (repeat' (refine lowG_set ?_ (by (try dsimp only); omega) ?_)); all_goals (first | exact lowG_base (fun n o h => by first | exact h | (have := hlt n o h; (try dsimp only); repeat (first | exact h | rw [setG_other (by omega)] | rw [delG_other (by omega)]))) | (repeat' (first | exact trivial | refine ⟨?_, ?_⟩ | exact .v | exact .any | exact lst_low _ _ | exact cells_low _ _ | exact val_low _ _ | exact data_low _ (by (try dsimp only); omega) | exact .box (by (try dsimp only); omega) | exact nil_low | exact low_nil | refine set_low ?_ ?_ | exact .arr (by (try dsimp only); omega) | refine low_cons ?_ ?_ | exact lst_low _ _))))
  · rintro k hI
    dsimp only at hI ⊢
    refine aw_seq_k fun K5 hK5 => ?_
    refine aw_seq_k fun K6 hK6 => ?_
    refine aw_region ?_
    refine aops_n rfl (n_mv rfl (by constructor)) ?_
    first | refine aops_n rfl (n_fieldAddr' rfl rfl rfl) ?_ | refine aops_n rfl (n_fieldAddr_box rfl rfl) ?_
    try dsimp only [St.put]
    first | refine aops_s rfl (s_load rfl rfl) ?_ | refine aops_s rfl (s_load_agg' rfl rfl (Enc.len _)) ?_ | refine aops_s rfl (s_load_agg' rfl rfl rfl) ?_ | refine aops_s rfl (s_load_box rfl rfl (by (try dsimp only); repeat (first | exact setG_same _ _ _ | assumption | rw [setG_other (by omega)] | rw [delG_other (by omega)])) trivial (by first | rfl | assumption)) ?_ | refine aops_s rfl (s_load_box_all rfl rfl (by (try dsimp only); repeat (first | exact setG_same _ _ _ | assumption | rw [setG_other (by omega)] | rw [delG_other (by omega)])) trivial (by rfl)) ?_ | refine aops_s rfl (s_load_box_agg rfl rfl (by (try dsimp only); repeat (first | exact setG_same _ _ _ | assumption | rw [setG_other (by omega)] | rw [delG_other (by omega)])) trivial (by simp)) ?_
    first | refine aops_n rfl (n_len' rfl rfl (List.length_map _)) ?_ | refine aops_n rfl (n_len' rfl rfl rfl) ?_ | refine aops_n rfl (n_lenstr' rfl rfl) ?_ | refine aops_n rfl (n_len_arr rfl rfl) ?_
    refine aops_n rfl (n_lss rfl rfl rfl) ?_
    refine aops_nil ?_
    dsimp only [St.put]
    refine hK6 _ ?_
    refine aw_cond rfl (fun hc => ?_) (fun hc => ?_)
    · replace hc := of_decide_eq_true hc
      obtain ⟨c, hx⟩ : ∃ x, t[k]? = some x := some_of_lt (by omega)
      have hf1 := hs.lines c (mem_of_get hx)
      refine aw_skip ?_
      refine hK5 _ ?_
      refine aw_seq_k fun K7 hK7 => ?_
      refine aw_block ?_
      refine aw_seq_k fun K8 hK8 => ?_
      refine aw_region ?_
      first | refine aops_n rfl (n_fieldAddr' rfl rfl rfl) ?_ | refine aops_n rfl (n_fieldAddr_box rfl rfl) ?_
      try dsimp only [St.put]
      first | refine aops_s rfl (s_load rfl rfl) ?_ | refine aops_s rfl (s_load_agg' rfl rfl (Enc.len _)) ?_ | refine aops_s rfl (s_load_agg' rfl rfl rfl) ?_ | refine aops_s rfl (s_load_box rfl rfl (by (try dsimp only); repeat (first | exact setG_same _ _ _ | assumption | rw [setG_other (by omega)] | rw [delG_other (by omega)])) trivial (by first | rfl | assumption)) ?_ | refine aops_s rfl (s_load_box_all rfl rfl (by (try dsimp only); repeat (first | exact setG_same _ _ _ | assumption | rw [setG_other (by omega)] | rw [delG_other (by omega)])) trivial (by rfl)) ?_ | refine aops_s rfl (s_load_box_agg rfl rfl (by (try dsimp only); repeat (first | exact setG_same _ _ _ | assumption | rw [setG_other (by omega)] | rw [delG_other (by omega)])) trivial (by simp)) ?_
      refine aops_n rfl (n_mv rfl (by constructor)) ?_
      first | refine aops_n rfl (n_indexAddr rfl rfl rfl rfl (map_get (by assumption)) (Enc.len _)) ?_ | refine aops_n rfl (n_indexAddr rfl rfl rfl rfl (by assumption) rfl) ?_ | refine aops_n rfl (n_indexAddr_arr1 rfl rfl rfl (by first | exact idx_succ _ | exact rfl) (by omega)) ?_ | refine aops_n rfl (n_indexAddr rfl rfl rfl (by omega) (map_get (by assumption)) (Enc.len _)) ?_
      first | refine aops_n rfl (n_fieldAddr' rfl rfl rfl) ?_ | refine aops_n rfl (n_fieldAddr_box rfl rfl) ?_
      try dsimp only [St.put]
      first | refine aops_s rfl (s_load rfl rfl) ?_ | refine aops_s rfl (s_load_agg' rfl rfl (Enc.len _)) ?_ | refine aops_s rfl (s_load_agg' rfl rfl rfl) ?_ | refine aops_s rfl (s_load_box rfl rfl (by (try dsimp only); repeat (first | exact setG_same _ _ _ | assumption | rw [setG_other (by omega)] | rw [delG_other (by omega)])) trivial (by first | rfl | assumption)) ?_ | refine aops_s rfl (s_load_box_all rfl rfl (by (try dsimp only); repeat (first | exact setG_same _ _ _ | assumption | rw [setG_other (by omega)] | rw [delG_other (by omega)])) trivial (by rfl)) ?_ | refine aops_s rfl (s_load_box_agg rfl rfl (by (try dsimp only); repeat (first | exact setG_same _ _ _ | assumption | rw [setG_other (by omega)] | rw [delG_other (by omega)])) trivial (by simp)) ?_
      refine aops_n rfl (n_build rfl rfl) ?_
      try dsimp only [St.put]
      refine aops_e rfl (e_allocC rfl ?_)
      try dsimp only [St.put]
      first | refine aops_e rfl (e_store_all rfl rfl rfl (by (try dsimp only); repeat (first | exact setG_same _ _ _ | assumption | rw [setG_other (by omega)] | rw [delG_other (by omega)])) rfl rfl (by rfl) ?_) | refine aops_e rfl (e_store_one rfl rfl rfl (by (try dsimp only); repeat (first | exact setG_same _ _ _ | assumption | rw [setG_other (by omega)] | rw [delG_other (by omega)])) (by constructor) rfl (by simp; try omega) ?_)
      refine aops_nil ?_
      dsimp only [St.put]
      refine hK8 _ ?_
      refine aw_adopt_box (nx + 1 + 1 + 1) 1 _ _ 45 1 (by (try dsimp only); repeat (first | exact setG_same _ _ _ | assumption | rw [setG_other (by omega)] | rw [delG_other (by omega)])) rfl (by decide) ?_
      dsimp only [List.set_cons_zero, List.set_cons_succ]
      refine aw_seq_k fun K9 hK9 => ?_
      refine aw_seq_k fun K10 hK10 => ?_
      refine aw_region ?_
      refine aops_n rfl (n_as rfl (by constructor)) ?_
      refine aops_nil ?_
      dsimp only [St.put]
      refine hK10 _ ?_
      refine aw_block ?_
      refine aw_wipe 7 ?_
      simp only [firsts, getA, Nat.reduceAdd, List.getD_cons_zero, List.getD_cons_succ, List.getD_nil, natBeq, Nat.reduceBEq, cond_true, cond_false]
      refine aw_forget ((setG (setG (setG (setG (setG G nx (.box 0 [.list [] .nil])) (nx + 1) (.box k [.list ((t.take k).map cells) (.tip (nx + 1 + 1))])) (nx + 1 + 1) (.tip (t.take k).length 44 2)) (nx + 1 + 1 + 1) (.box (0 + 1) [.v (.int .i64 c.id), .list ((c.lines.take 0).map cells) (.tip (nx + 1 + 1 + 1 + 1))])) (nx + 1 + 1 + 1 + 1) (.tip (c.lines.take 0).length 45 1))) (by (repeat' (refine subG_set (by (try dsimp only); repeat (first | exact setG_same _ _ _ | assumption | rw [setG_other (by omega)] | rw [delG_other (by omega)])) ?_)); exact (fun n o h => by first | exact h | (have := hlt n o h; (try dsimp only); repeat (first | exact h | rw [setG_other (by omega)] | rw [delG_other (by omega)])))) ?_
      dsimp only
      refine aw_loopD (X := Nat) (fun m => m ≤ c.lines.length) (fun m => c.lines.length - m) (fun m => [(6, .v (.int .i64 (m : Int)))]) (fun m G' => (setG (setG (setG (setG (setG G nx (.box 0 [.list [] .nil])) (nx + 1) (.box k [.list ((t.take k).map cells) (.tip (nx + 1 + 1))])) (nx + 1 + 1) (.tip (t.take k).length 44 2)) (nx + 1 + 1 + 1) (.box (m + 1) [.v (.int .i64 c.id), .list ((c.lines.take m).map cells) (.tip (nx + 1 + 1 + 1 + 1))])) (nx + 1 + 1 + 1 + 1) (.tip (c.lines.take m).length 45 1))) 0 rfl ?_ ?_ ?_ ?_ ?_ ?_
      · exact Nat.zero_le _
      · exact (by repeat' (first | exact trivial | refine ⟨?_, ?_⟩ | exact .inr rfl | exact .inl rfl | exact .inr (congrArg C.v (congrArg (Value.int _) (by simp; try omega)))))
      · exact (by (repeat' (refine subG_set (by (try dsimp only); repeat (first | exact setG_same _ _ _ | assumption | rw [setG_other (by omega)] | rw [delG_other (by omega)])) ?_)); exact (fun n o h => by first | exact h | (have := hlt n o h; (try dsimp only); repeat (first | exact h | rw [setG_other (by omega)] | rw [delG_other (by omega)]))))
      · rintro m hI
        exact (by (try dsimp only); repeat' (first | exact trivial | refine ⟨?_, ?_⟩ | exact .v | exact .any | exact lst_low _ _ | exact cells_low _ _ | exact val_low _ _ | exact data_low _ (by (try dsimp only); omega) | exact .box (by (try dsimp only); omega) | exact nil_low | exact low_nil | refine set_low ?_ ?_ | exact .arr (by (try dsimp only); omega) | refine low_cons ?_ ?_ | exact lst_low _ _))
      · rintro m hI
        exact (by (repeat' (refine lowG_set ?_ (by (try dsimp only); omega) ?_)); all_goals (first | exact lowG_base (fun n o h => by first | exact h | (have := hlt n o h; (try dsimp only); repeat (first | exact h | rw [setG_other (by omega)] | rw [delG_other (by omega)]))) | (repeat' (first | exact trivial | refine ⟨?_, ?_⟩ | exact .v | exact .any | exact lst_low _ _ | exact cells_low _ _ | exact val_low _ _ | exact data_low _ (by (try dsimp only); omega) | exact .box (by (try dsimp only); omega) | exact nil_low | exact low_nil | refine set_low ?_ ?_ | exact .arr (by (try dsimp only); omega) | refine low_cons ?_ ?_ | exact lst_low _ _))))
      · rintro m hJ
        dsimp only at hJ ⊢
        refine aw_seq_k fun K11 hK11 => ?_
        refine aw_seq_k fun K12 hK12 => ?_
        refine aw_region ?_
        refine aops_n rfl (n_mv rfl (by constructor)) ?_
        first | refine aops_n rfl (n_fieldAddr' rfl rfl rfl) ?_ | refine aops_n rfl (n_fieldAddr_box rfl rfl) ?_
        try dsimp only [St.put]
        first | refine aops_s rfl (s_load rfl rfl) ?_ | refine aops_s rfl (s_load_agg' rfl rfl (Enc.len _)) ?_ | refine aops_s rfl (s_load_agg' rfl rfl rfl) ?_ | refine aops_s rfl (s_load_box rfl rfl (by (try dsimp only); repeat (first | exact setG_same _ _ _ | assumption | rw [setG_other (by omega)] | rw [delG_other (by omega)])) trivial (by first | rfl | assumption)) ?_ | refine aops_s rfl (s_load_box_all rfl rfl (by (try dsimp only); repeat (first | exact setG_same _ _ _ | assumption | rw [setG_other (by omega)] | rw [delG_other (by omega)])) trivial (by rfl)) ?_ | refine aops_s rfl (s_load_box_agg rfl rfl (by (try dsimp only); repeat (first | exact setG_same _ _ _ | assumption | rw [setG_other (by omega)] | rw [delG_other (by omega)])) trivial (by simp)) ?_
        refine aops_n rfl (n_mv rfl (by constructor)) ?_
        first | refine aops_n rfl (n_indexAddr rfl rfl rfl rfl (map_get (by assumption)) (Enc.len _)) ?_ | refine aops_n rfl (n_indexAddr rfl rfl rfl rfl (by assumption) rfl) ?_ | refine aops_n rfl (n_indexAddr_arr1 rfl rfl rfl (by first | exact idx_succ _ | exact rfl) (by omega)) ?_ | refine aops_n rfl (n_indexAddr rfl rfl rfl (by omega) (map_get (by assumption)) (Enc.len _)) ?_
        first | refine aops_n rfl (n_fieldAddr' rfl rfl rfl) ?_ | refine aops_n rfl (n_fieldAddr_box rfl rfl) ?_
        try dsimp only [St.put]
        first | refine aops_s rfl (s_load rfl rfl) ?_ | refine aops_s rfl (s_load_agg' rfl rfl (Enc.len _)) ?_ | refine aops_s rfl (s_load_agg' rfl rfl rfl) ?_ | refine aops_s rfl (s_load_box rfl rfl (by (try dsimp only); repeat (first | exact setG_same _ _ _ | assumption | rw [setG_other (by omega)] | rw [delG_other (by omega)])) trivial (by first | rfl | assumption)) ?_ | refine aops_s rfl (s_load_box_all rfl rfl (by (try dsimp only); repeat (first | exact setG_same _ _ _ | assumption | rw [setG_other (by omega)] | rw [delG_other (by omega)])) trivial (by rfl)) ?_ | refine aops_s rfl (s_load_box_agg rfl rfl (by (try dsimp only); repeat (first | exact setG_same _ _ _ | assumption | rw [setG_other (by omega)] | rw [delG_other (by omega)])) trivial (by simp)) ?_
        first | refine aops_n rfl (n_len' rfl rfl (List.length_map _)) ?_ | refine aops_n rfl (n_len' rfl rfl rfl) ?_ | refine aops_n rfl (n_lenstr' rfl rfl) ?_ | refine aops_n rfl (n_len_arr rfl rfl) ?_
        refine aops_n rfl (n_lss rfl rfl rfl) ?_
        refine aops_nil ?_
        dsimp only [St.put]
        refine hK12 _ ?_
        refine aw_cond rfl (fun hc => ?_) (fun hc => ?_)
        · replace hc := of_decide_eq_true hc
          obtain ⟨l, hl⟩ : ∃ x, c.lines[m]? = some x := some_of_lt (by omega)
          have hf2 := hs.words c (mem_of_get hx) l (mem_of_get hl)
          refine aw_skip ?_
          refine hK11 _ ?_
          refine aw_seq_k fun K13 hK13 => ?_
          refine aw_block ?_
          refine aw_draw [(0, none), (1, none), (3, none), (4, none), (5, none), (6, none), (7, none), (8, none), (9, none), (10, none), (11, none), (2, none), (12, none), (13, none), (14, none), (15, none), (16, none)] (fun i => [14, 16].contains i) (fun i => [2, 12, 13, 14, 16].contains i) (fun i => [0, 3, 5, 6, 7, 9, 10, 15].contains i) [nx + 1 + 1 + 1] (by kernel_rfl) (by kernel_rfl) ?_
          first | refine acan1_n rfl rfl rfl rfl (n_fieldAddr' rfl rfl rfl) ?_ | refine acan1_n rfl rfl rfl rfl (n_fieldAddr_box rfl rfl) ?_
          try dsimp only [St.put]
          first | refine acan1_s rfl rfl rfl rfl (s_load rfl rfl) ?_ | refine acan1_s rfl rfl rfl rfl (s_load_agg' rfl rfl (Enc.len _)) ?_ | refine acan1_s rfl rfl rfl rfl (s_load_agg' rfl rfl rfl) ?_ | refine acan1_s rfl rfl rfl rfl (s_load_box rfl rfl (by (try dsimp only); repeat (first | exact setG_same _ _ _ | assumption | rw [setG_other (by omega)] | rw [delG_other (by omega)])) (by simp) (by first | rfl | assumption)) ?_ | refine acan1_s rfl rfl rfl rfl (s_load_box_all rfl rfl (by (try dsimp only); repeat (first | exact setG_same _ _ _ | assumption | rw [setG_other (by omega)] | rw [delG_other (by omega)])) (by simp) (by rfl)) ?_ | refine acan1_s rfl rfl rfl rfl (s_load_box_agg rfl rfl (by (try dsimp only); repeat (first | exact setG_same _ _ _ | assumption | rw [setG_other (by omega)] | rw [delG_other (by omega)])) (by simp) (by simp)) ?_
          first | refine acan1_n rfl rfl rfl rfl (n_fieldAddr' rfl rfl rfl) ?_ | refine acan1_n rfl rfl rfl rfl (n_fieldAddr_box rfl rfl) ?_
          try dsimp only [St.put]
          first | refine acan1_s rfl rfl rfl rfl (s_load rfl rfl) ?_ | refine acan1_s rfl rfl rfl rfl (s_load_agg' rfl rfl (Enc.len _)) ?_ | refine acan1_s rfl rfl rfl rfl (s_load_agg' rfl rfl rfl) ?_ | refine acan1_s rfl rfl rfl rfl (s_load_box rfl rfl (by (try dsimp only); repeat (first | exact setG_same _ _ _ | assumption | rw [setG_other (by omega)] | rw [delG_other (by omega)])) (by simp) (by first | rfl | assumption)) ?_ | refine acan1_s rfl rfl rfl rfl (s_load_box_all rfl rfl (by (try dsimp only); repeat (first | exact setG_same _ _ _ | assumption | rw [setG_other (by omega)] | rw [delG_other (by omega)])) (by simp) (by rfl)) ?_ | refine acan1_s rfl rfl rfl rfl (s_load_box_agg rfl rfl (by (try dsimp only); repeat (first | exact setG_same _ _ _ | assumption | rw [setG_other (by omega)] | rw [delG_other (by omega)])) (by simp) (by simp)) ?_
          refine acan1_n rfl rfl rfl rfl (n_mv rfl (by constructor)) ?_
          first | refine acan1_n rfl rfl rfl rfl (n_indexAddr rfl rfl rfl rfl (map_get (by assumption)) (Enc.len _)) ?_ | refine acan1_n rfl rfl rfl rfl (n_indexAddr rfl rfl rfl rfl (by assumption) rfl) ?_ | refine acan1_n rfl rfl rfl rfl (n_indexAddr_arr1 rfl rfl rfl (by first | exact idx_succ _ | exact rfl) (by omega)) ?_ | refine acan1_n rfl rfl rfl rfl (n_indexAddr rfl rfl rfl (by omega) (map_get (by assumption)) (Enc.len _)) ?_
          first | refine acan1_n rfl rfl rfl rfl (n_fieldAddr' rfl rfl rfl) ?_ | refine acan1_n rfl rfl rfl rfl (n_fieldAddr_box rfl rfl) ?_
          try dsimp only [St.put]
          first | refine acan1_s rfl rfl rfl rfl (s_load rfl rfl) ?_ | refine acan1_s rfl rfl rfl rfl (s_load_agg' rfl rfl (Enc.len _)) ?_ | refine acan1_s rfl rfl rfl rfl (s_load_agg' rfl rfl rfl) ?_ | refine acan1_s rfl rfl rfl rfl (s_load_box rfl rfl (by (try dsimp only); repeat (first | exact setG_same _ _ _ | assumption | rw [setG_other (by omega)] | rw [delG_other (by omega)])) (by simp) (by first | rfl | assumption)) ?_ | refine acan1_s rfl rfl rfl rfl (s_load_box_all rfl rfl (by (try dsimp only); repeat (first | exact setG_same _ _ _ | assumption | rw [setG_other (by omega)] | rw [delG_other (by omega)])) (by simp) (by rfl)) ?_ | refine acan1_s rfl rfl rfl rfl (s_load_box_agg rfl rfl (by (try dsimp only); repeat (first | exact setG_same _ _ _ | assumption | rw [setG_other (by omega)] | rw [delG_other (by omega)])) (by simp) (by simp)) ?_
          refine acan1_n rfl rfl rfl rfl (n_mv rfl (by constructor)) ?_
          first | refine acan1_n rfl rfl rfl rfl (n_indexAddr rfl rfl rfl rfl (map_get (by assumption)) (Enc.len _)) ?_ | refine acan1_n rfl rfl rfl rfl (n_indexAddr rfl rfl rfl rfl (by assumption) rfl) ?_ | refine acan1_n rfl rfl rfl rfl (n_indexAddr_arr1 rfl rfl rfl (by first | exact idx_succ _ | exact rfl) (by omega)) ?_ | refine acan1_n rfl rfl rfl rfl (n_indexAddr rfl rfl rfl (by omega) (map_get (by assumption)) (Enc.len _)) ?_
          try dsimp only [St.put]
          first | refine acan1_s rfl rfl rfl rfl (s_load rfl rfl) ?_ | refine acan1_s rfl rfl rfl rfl (s_load_agg' rfl rfl (Enc.len _)) ?_ | refine acan1_s rfl rfl rfl rfl (s_load_agg' rfl rfl rfl) ?_ | refine acan1_s rfl rfl rfl rfl (s_load_box rfl rfl (by (try dsimp only); repeat (first | exact setG_same _ _ _ | assumption | rw [setG_other (by omega)] | rw [delG_other (by omega)])) (by simp) (by first | rfl | assumption)) ?_ | refine acan1_s rfl rfl rfl rfl (s_load_box_all rfl rfl (by (try dsimp only); repeat (first | exact setG_same _ _ _ | assumption | rw [setG_other (by omega)] | rw [delG_other (by omega)])) (by simp) (by rfl)) ?_ | refine acan1_s rfl rfl rfl rfl (s_load_box_agg rfl rfl (by (try dsimp only); repeat (first | exact setG_same _ _ _ | assumption | rw [setG_other (by omega)] | rw [delG_other (by omega)])) (by simp) (by simp)) ?_
          refine acan1_two ?_
          try dsimp only [St.put]
          refine acan2_e rfl rfl rfl (e_buildSlice0 rfl ⟨(by repeat (first | exact sameD_nil | refine sameD_cons (by (try dsimp only [St.put]); exact (by (try dsimp only); repeat (first | exact setG_same _ _ _ | assumption | rw [setG_other (by omega)] | rw [delG_other (by omega)]))) (by (try dsimp only [St.put]); exact (by (try dsimp only); repeat (first | exact setG_same _ _ _ | assumption | rw [setG_other (by omega)] | rw [delG_other (by omega)]))) rfl ?_)), ?_⟩)
          try dsimp only [St.put]
          refine acan2_e rfl rfl rfl (e_append_data rfl rfl (by first | exact .inl rfl | exact .inr rfl) rfl (by decide) (by first | omega | (simp only [List.length_take, List.length_cons, List.length_nil, List.length_append, List.length_map]; omega) | (simp; omega)) (by first | omega | (simp only [List.length_take, List.length_cons, List.length_nil, List.length_append, List.length_map]; omega) | (simp; omega)) ⟨(by repeat (first | exact sameD_nil | refine sameD_cons (by (try dsimp only [St.put]); exact (by (try dsimp only); repeat (first | exact setG_same _ _ _ | assumption | rw [setG_other (by omega)] | rw [delG_other (by omega)]))) (by (try dsimp only [St.put]); exact (by (try dsimp only); repeat (first | exact setG_same _ _ _ | assumption | rw [setG_other (by omega)] | rw [delG_other (by omega)]))) rfl ?_)), ?_⟩)
          try dsimp only [St.put]
          refine acan2_e rfl rfl rfl (e_buildSlice rfl rfl rfl (by decide) (by decide) (by simp) (by decide) ⟨(by repeat (first | exact sameD_nil | refine sameD_cons (by (try dsimp only [St.put]); exact (by (try dsimp only); repeat (first | exact setG_same _ _ _ | assumption | rw [setG_other (by omega)] | rw [delG_other (by omega)]))) (by (try dsimp only [St.put]); exact (by (try dsimp only); repeat (first | exact setG_same _ _ _ | assumption | rw [setG_other (by omega)] | rw [delG_other (by omega)]))) rfl ?_)), ?_⟩)
          try dsimp only [St.put]
          refine acan2_late rfl rfl rfl rfl (e_append ([l]) rfl rfl (by (try dsimp only); repeat (first | exact setG_same _ _ _ | assumption | rw [setG_other (by omega)] | rw [delG_other (by omega)])) (by first | rfl | simp) rfl rfl (by first | omega | (simp only [List.length_take, List.length_cons, List.length_nil, List.length_append, List.length_map]; omega) | (simp; omega)) ?_ (by first | omega | (simp only [List.length_take, List.length_cons, List.length_nil, List.length_append, List.length_map]; omega) | (simp; omega)))
          first | refine acan2_n rfl rfl rfl rfl (n_fieldAddr' rfl rfl rfl) ?_ | refine acan2_n rfl rfl rfl rfl (n_fieldAddr_box rfl rfl) ?_
          try dsimp only [St.put]
          first | refine acan2_late rfl rfl rfl rfl (e_store_all rfl rfl rfl (by (try dsimp only); repeat (first | exact setG_same _ _ _ | assumption | rw [setG_other (by omega)] | rw [delG_other (by omega)])) rfl rfl (by rfl) ?_) | refine acan2_late rfl rfl rfl rfl (e_store_one rfl rfl rfl (by (try dsimp only); repeat (first | exact setG_same _ _ _ | assumption | rw [setG_other (by omega)] | rw [delG_other (by omega)])) (by constructor) rfl (by simp; try omega) ?_)
          refine acan2_nil ?_
          dsimp only [St.put]
          refine hK13 _ ?_
          refine aw_region ?_
          refine aops_n rfl (n_mv rfl (by constructor)) ?_
          first | refine aops_n rfl (n_add rfl rfl rfl (by omega)) ?_ | refine aops_n rfl (n_addw rfl rfl rfl) ?_
          refine aops_n rfl (n_as rfl (by constructor)) ?_
          refine aops_nil ?_
          dsimp only [St.put]
          simp only [take_snoc hl]
          exact ⟨m + 1, by omega, by omega, ⟨rfl, (by repeat' (first | exact trivial | refine ⟨?_, ?_⟩ | exact .inr rfl | exact .inl rfl | exact .inr (congrArg C.v (congrArg (Value.int _) (by simp; try omega))))), (by first | exact .inl rfl | (refine .inr ?_; repeat' (first | exact trivial | refine ⟨?_, ?_⟩ | exact .inr rfl | exact .inl rfl | exact .inr (congrArg C.v (congrArg (Value.int _) (by simp; try omega)))))), (by first | exact Nat.le_refl _ | omega | (simp; try omega)), (by (repeat' (refine subG_set (by (try dsimp only); repeat (first | exact setG_same _ _ _ | assumption | rw [setG_other (by omega)] | rw [delG_other (by omega)])) ?_)); exact (fun n o h => by first | exact h | (have := hlt n o h; (try dsimp only); repeat (first | exact h | rw [setG_other (by omega)] | rw [delG_other (by omega)]))))⟩⟩
        · replace hc := of_decide_eq_false hc
          rw [take_all (show c.lines.length ≤ m by omega)]
          refine aw_weak (nx + 1 + 1 + 1) _ [.v (.int .i64 c.id), lst c.lines] (by (try dsimp only); repeat (first | exact setG_same _ _ _ | assumption | rw [setG_other (by omega)] | rw [delG_other (by omega)])) (by repeat' (first | exact Wk.refl _ | exact Wk.tok | refine Wk.agg ?_ | refine ⟨?_, ?_⟩ | exact trivial)) ?_
          refine aw_exit ?_
          refine hK9 _ ?_
          refine aw_region ?_
          first | refine aops_n rfl (n_fieldAddr' rfl rfl rfl) ?_ | refine aops_n rfl (n_fieldAddr_box rfl rfl) ?_
          try dsimp only [St.put]
          first | refine aops_s rfl (s_load rfl rfl) ?_ | refine aops_s rfl (s_load_agg' rfl rfl (Enc.len _)) ?_ | refine aops_s rfl (s_load_agg' rfl rfl rfl) ?_ | refine aops_s rfl (s_load_box rfl rfl (by (try dsimp only); repeat (first | exact setG_same _ _ _ | assumption | rw [setG_other (by omega)] | rw [delG_other (by omega)])) trivial (by first | rfl | assumption)) ?_ | refine aops_s rfl (s_load_box_all rfl rfl (by (try dsimp only); repeat (first | exact setG_same _ _ _ | assumption | rw [setG_other (by omega)] | rw [delG_other (by omega)])) trivial (by rfl)) ?_ | refine aops_s rfl (s_load_box_agg rfl rfl (by (try dsimp only); repeat (first | exact setG_same _ _ _ | assumption | rw [setG_other (by omega)] | rw [delG_other (by omega)])) trivial (by simp)) ?_
          try dsimp only [St.put]
          first | refine aops_s rfl (s_load rfl rfl) ?_ | refine aops_s rfl (s_load_agg' rfl rfl (Enc.len _)) ?_ | refine aops_s rfl (s_load_agg' rfl rfl rfl) ?_ | refine aops_s rfl (s_load_box rfl rfl (by (try dsimp only); repeat (first | exact setG_same _ _ _ | assumption | rw [setG_other (by omega)] | rw [delG_other (by omega)])) trivial (by first | rfl | assumption)) ?_ | refine aops_s rfl (s_load_box_all rfl rfl (by (try dsimp only); repeat (first | exact setG_same _ _ _ | assumption | rw [setG_other (by omega)] | rw [delG_other (by omega)])) trivial (by rfl)) ?_ | refine aops_s rfl (s_load_box_agg rfl rfl (by (try dsimp only); repeat (first | exact setG_same _ _ _ | assumption | rw [setG_other (by omega)] | rw [delG_other (by omega)])) trivial (by simp)) ?_
          try dsimp only [St.put]
          refine aops_e rfl (e_buildSlice rfl rfl rfl (by decide) (by decide) (by simp) (by decide) ?_)
          try dsimp only [St.put]
          refine aops_e rfl (e_append ([c]) rfl rfl (by (try dsimp only); repeat (first | exact setG_same _ _ _ | assumption | rw [setG_other (by omega)] | rw [delG_other (by omega)])) (by first | rfl | simp) rfl rfl (by first | omega | (simp only [List.length_take, List.length_cons, List.length_nil, List.length_append, List.length_map]; omega) | (simp; omega)) ?_ (by first | omega | (simp only [List.length_take, List.length_cons, List.length_nil, List.length_append, List.length_map]; omega) | (simp; omega)))
          first | refine aops_n rfl (n_fieldAddr' rfl rfl rfl) ?_ | refine aops_n rfl (n_fieldAddr_box rfl rfl) ?_
          try dsimp only [St.put]
          first | refine aops_e rfl (e_store_all rfl rfl rfl (by (try dsimp only); repeat (first | exact setG_same _ _ _ | assumption | rw [setG_other (by omega)] | rw [delG_other (by omega)])) rfl rfl (by rfl) ?_) | refine aops_e rfl (e_store_one rfl rfl rfl (by (try dsimp only); repeat (first | exact setG_same _ _ _ | assumption | rw [setG_other (by omega)] | rw [delG_other (by omega)])) (by constructor) rfl (by simp; try omega) ?_)
          refine aops_nil ?_
          dsimp only [St.put]
          refine hK7 _ ?_
          refine aw_region ?_
          refine aops_n rfl (n_mv rfl (by constructor)) ?_
          first | refine aops_n rfl (n_add rfl rfl rfl (by omega)) ?_ | refine aops_n rfl (n_addw rfl rfl rfl) ?_
          refine aops_n rfl (n_as rfl (by constructor)) ?_
          refine aops_nil ?_
          dsimp only [St.put]
          simp only [take_snoc hx]
          exact ⟨k + 1, by omega, by omega, ⟨rfl, (by repeat' (first | exact trivial | refine ⟨?_, ?_⟩ | exact .inr rfl | exact .inl rfl | exact .inr (congrArg C.v (congrArg (Value.int _) (by simp; try omega))))), (by first | exact .inl rfl | (refine .inr ?_; repeat' (first | exact trivial | refine ⟨?_, ?_⟩ | exact .inr rfl | exact .inl rfl | exact .inr (congrArg C.v (congrArg (Value.int _) (by simp; try omega)))))), (by first | exact Nat.le_refl _ | omega | (simp; try omega)), (by (repeat' (refine subG_set (by (try dsimp only); repeat (first | exact setG_same _ _ _ | assumption | rw [setG_other (by omega)] | rw [delG_other (by omega)])) ?_)); exact (fun n o h => by first | exact h | (have := hlt n o h; (try dsimp only); repeat (first | exact h | rw [setG_other (by omega)] | rw [delG_other (by omega)]))))⟩⟩
    · try replace hc := of_decide_eq_false hc
      refine aw_exit ?_
      refine hK3 _ ?_
      refine aw_seq_k fun K14 hK14 => ?_
      refine aw_region ?_
      try dsimp only [St.put]
      first | refine aops_s rfl (s_load rfl rfl) ?_ | refine aops_s rfl (s_load_agg' rfl rfl (Enc.len _)) ?_ | refine aops_s rfl (s_load_agg' rfl rfl rfl) ?_ | refine aops_s rfl (s_load_box rfl rfl (by (try dsimp only); repeat (first | exact setG_same _ _ _ | assumption | rw [setG_other (by omega)] | rw [delG_other (by omega)])) trivial (by first | rfl | assumption)) ?_ | refine aops_s rfl (s_load_box_all rfl rfl (by (try dsimp only); repeat (first | exact setG_same _ _ _ | assumption | rw [setG_other (by omega)] | rw [delG_other (by omega)])) trivial (by rfl)) ?_ | refine aops_s rfl (s_load_box_agg rfl rfl (by (try dsimp only); repeat (first | exact setG_same _ _ _ | assumption | rw [setG_other (by omega)] | rw [delG_other (by omega)])) trivial (by simp)) ?_
      try dsimp only [St.put]
      first | refine aops_e rfl (e_store_all rfl rfl rfl (by (try dsimp only); repeat (first | exact setG_same _ _ _ | assumption | rw [setG_other (by omega)] | rw [delG_other (by omega)])) rfl rfl (by rfl) ?_) | refine aops_e rfl (e_store_one rfl rfl rfl (by (try dsimp only); repeat (first | exact setG_same _ _ _ | assumption | rw [setG_other (by omega)] | rw [delG_other (by omega)])) (by constructor) rfl (by simp; try omega) ?_)
      refine aops_nil ?_
      dsimp only [St.put]
      refine hK14 _ ?_
      refine aw_ret ?_
      refine ends_v1 rfl (rv_box rfl (by (try dsimp only); repeat (first | exact setG_same _ _ _ | assumption | rw [setG_other (by omega)] | rw [delG_other (by omega)])) (by rfl) (by simp) rfl) (by first | exact Nat.le_refl _ | omega | (simp; try omega)) (fun n o h => by first | exact h | (have := hlt n o h; (try dsimp only); repeat (first | exact h | rw [setG_other (by omega)] | rw [delG_other (by omega)]))) ?_
      rw [take_all (show t.length ≤ k by omega)]
      exact (by repeat' (first | exact Wk.refl _ | exact Wk.tok | refine Wk.agg ?_ | refine ⟨?_, ?_⟩ | exact trivial))
end Go.Proofs.Ytalkonicppbgdaa
