/-
  Contracts of the reference's functions of layer 1: Fewest.
-/
import Derived.Test.YtalkonicppbgdaaAcFive
import Derived.Test.YtalkonicppbgdaaAdFew
namespace Go.Proofs.Ytalkonicppbgdaa
open Go.RowKit Go.AB
open Go.PB (Chap TextD PlaceD ReadingD CopyD WayD)

theorem Fewest_pure (a b : List ByteArray) (ha : a.length ≤ 100000) (hb : b.length ≤ 100000) : Pure Try.prog 35 [lst a, lst b] (lst (tabF a b)) := by
  refine pure_of_body Try.func35 rfl (fun m => (lst_low _ _)) fun G nx => ?_
  simp only [Try.ntmps35, List.length_cons, List.length_nil, Nat.reduceAdd, Nat.reduceSub]
  refine aw_lt fun hlt => ?_
  dsimp only at hlt
  refine aw_seq_k fun K1 hK1 => ?_
  refine aw_region ?_
  refine aops_n rfl (n_as rfl (by constructor)) ?_
  refine aops_nil ?_
  dsimp only [St.put]
  refine hK1 _ ?_
  refine aw_seq_k fun K2 hK2 => ?_
  refine aw_region ?_
  refine aops_n rfl (n_mv rfl (by constructor)) ?_
  first | refine aops_n rfl (n_len' rfl rfl (List.length_map _)) ?_ | refine aops_n rfl (n_len' rfl rfl rfl) ?_ | refine aops_n rfl (n_lenstr' rfl rfl) ?_ | refine aops_n rfl (n_len_arr rfl rfl) ?_
  first | refine aops_n rfl (n_add rfl rfl rfl (by omega)) ?_ | refine aops_n rfl (n_addw rfl rfl rfl) ?_
  try dsimp only [St.put]
  refine aops_e rfl (e_make (k := a.length + 1) rfl rfl rfl (by first | exact idx_succ _ | exact rfl | omega) rfl (by first | omega | (simp only [List.length_take, List.length_cons, List.length_nil, List.length_append, List.length_map]; omega) | (simp; omega)) (by first | omega | (simp only [List.length_take, List.length_cons, List.length_nil, List.length_append, List.length_map]; omega) | (simp; omega)) ?_)
  refine aops_n rfl (n_as rfl (by constructor)) ?_
  refine aops_nil ?_
  dsimp only [St.put]
  rw [tabC_start]
  refine hK2 _ ?_
  refine aw_seq_k fun K3 hK3 => ?_
  refine aw_seq_k fun K4 hK4 => ?_
  refine aw_region ?_
  refine aops_n rfl (n_mv rfl (by constructor)) ?_
  first | refine aops_n rfl (n_len' rfl rfl (List.length_map _)) ?_ | refine aops_n rfl (n_len' rfl rfl rfl) ?_ | refine aops_n rfl (n_lenstr' rfl rfl) ?_ | refine aops_n rfl (n_len_arr rfl rfl) ?_
  refine aops_n rfl (n_as rfl (by constructor)) ?_
  refine aops_nil ?_
  dsimp only [St.put]
  refine hK4 _ ?_
  refine aw_block ?_
  refine aw_wipe 8 ?_
  simp only [firsts, getA, Nat.reduceAdd, List.getD_cons_zero, List.getD_cons_succ, List.getD_nil, natBeq, Nat.reduceBEq, cond_true, cond_false]
  refine aw_forget ((setG G nx (.box 0 ((tabC a b 0))))) (by (repeat' (refine subG_set (by (try dsimp only); repeat (first | exact setG_same _ _ _ | assumption | rw [setG_other (by omega)] | rw [delG_other (by omega)])) ?_)); exact (fun n o h => by first | exact h | (have := hlt n o h; (try dsimp only); repeat (first | exact h | rw [setG_other (by omega)] | rw [delG_other (by omega)])))) ?_
  dsimp only
  refine aw_loopD (X := Nat) (fun M => M ≤ a.length + 1) (fun M => a.length + 1 - M) (fun M => [(6, .v (.int .i64 ((a.length : Int) - M))), (7, .any)]) (fun M G' => (setG G nx (.box M ((tabC a b M))))) 0 rfl ?_ ?_ ?_ ?_ ?_ ?_
  · exact Nat.zero_le _
  · exact (by repeat' (first | exact trivial | refine ⟨?_, ?_⟩ | exact .inr rfl | exact .inl rfl | exact .inr (congrArg C.v (congrArg (Value.int _) (by simp; try omega)))))
  · exact (by (repeat' (refine subG_set (by (try dsimp only); repeat (first | exact setG_same _ _ _ | assumption | rw [setG_other (by omega)] | rw [delG_other (by omega)])) ?_)); exact (fun n o h => by first | exact h | (have := hlt n o h; (try dsimp only); repeat (first | exact h | rw [setG_other (by omega)] | rw [delG_other (by omega)]))))
  · rintro M hI
    exact (by (try dsimp only); repeat' (first | exact trivial | refine ⟨?_, ?_⟩ | exact .v | exact .any | exact lst_low _ _ | exact cells_low _ _ | exact val_low _ _ | exact data_low _ (by (try dsimp only); omega) | exact .box (by (try dsimp only); omega) | exact nil_low | exact low_nil | exact tabC_low _ _ _ _ | refine set_low ?_ ?_ | exact .arr (by (try dsimp only); omega) | refine low_cons ?_ ?_ | exact lst_low _ _))
  · rintro M hI
    exact (by (repeat' (refine lowG_set ?_ (by (try dsimp only); omega) ?_)); all_goals (first | exact lowG_base (fun n o h => by first | exact h | (have := hlt n o h; (try dsimp only); repeat (first | exact h | rw [setG_other (by omega)] | rw [delG_other (by omega)]))) | (repeat' (first | exact trivial | refine ⟨?_, ?_⟩ | exact .v | exact .any | exact lst_low _ _ | exact cells_low _ _ | exact val_low _ _ | exact data_low _ (by (try dsimp only); omega) | exact .box (by (try dsimp only); omega) | exact nil_low | exact low_nil | exact tabC_low _ _ _ _ | refine set_low ?_ ?_ | exact .arr (by (try dsimp only); omega) | refine low_cons ?_ ?_ | exact lst_low _ _))))
  · rintro M hI
    dsimp only at hI ⊢
    refine aw_seq_k fun K5 hK5 => ?_
    refine aw_seq_k fun K6 hK6 => ?_
    refine aw_region ?_
    refine aops_n rfl (n_mv rfl (by constructor)) ?_
    refine aops_n rfl (n_geq rfl rfl rfl) ?_
    refine aops_nil ?_
    dsimp only [St.put]
    refine hK6 _ ?_
    refine aw_cond rfl (fun hc => ?_) (fun hc => ?_)
    · replace hc := of_decide_eq_true hc
      obtain ⟨i, hi⟩ : ∃ i, i + M = a.length := ⟨a.length - M, by omega⟩
      rw [show (a.length : Int) - (M : Int) = (i : Int) by omega]
      refine aw_skip ?_
      refine hK5 _ ?_
      refine aw_seq_k fun K7 hK7 => ?_
      refine aw_block ?_
      refine aw_seq_k fun K8 hK8 => ?_
      refine aw_region ?_
      refine aops_n rfl (n_mv rfl (by constructor)) ?_
      refine aops_n rfl (n_mv rfl (by constructor)) ?_
      refine aops_n rfl (n_mv rfl (by constructor)) ?_
      first | refine aops_n rfl (n_len' rfl rfl (List.length_map _)) ?_ | refine aops_n rfl (n_len' rfl rfl rfl) ?_ | refine aops_n rfl (n_lenstr' rfl rfl) ?_ | refine aops_n rfl (n_len_arr rfl rfl) ?_
      first | refine aops_n rfl (n_add rfl rfl rfl (by omega)) ?_ | refine aops_n rfl (n_addw rfl rfl rfl) ?_
      try dsimp only [St.put]
      refine aops_e rfl (e_make (k := b.length + 1) rfl rfl rfl (by first | exact idx_succ _ | exact rfl | omega) rfl (by first | omega | (simp only [List.length_take, List.length_cons, List.length_nil, List.length_append, List.length_map]; omega) | (simp; omega)) (by first | omega | (simp only [List.length_take, List.length_cons, List.length_nil, List.length_append, List.length_map]; omega) | (simp; omega)) ?_)
      first | refine aops_n rfl (n_indexAddr rfl rfl rfl rfl (map_get (by assumption)) (Enc.len _)) ?_ | refine aops_n rfl (n_indexAddr rfl rfl rfl rfl (by assumption) rfl) ?_ | refine aops_n rfl (n_indexAddr_arr1 rfl rfl rfl (by first | exact idx_succ _ | exact rfl) (by omega)) ?_ | refine aops_n rfl (n_indexAddr rfl rfl rfl (by omega) (map_get (by assumption)) (Enc.len _)) ?_
      try dsimp only [St.put]
      first | refine aops_e rfl (e_store_all rfl rfl rfl (by (try dsimp only); repeat (first | exact setG_same _ _ _ | assumption | rw [setG_other (by omega)] | rw [delG_other (by omega)])) rfl rfl (by rfl) ?_) | refine aops_e rfl (e_store_one rfl rfl rfl (by (try dsimp only); repeat (first | exact setG_same _ _ _ | assumption | rw [setG_other (by omega)] | rw [delG_other (by omega)])) (by constructor) rfl (by simp; try omega) ?_)
      refine aops_nil ?_
      dsimp only [St.put]
      rw [rowC_start]
      refine hK8 _ ?_
      refine aw_seq_k fun K9 hK9 => ?_
      refine aw_region ?_
      refine aops_n rfl (n_mv rfl (by constructor)) ?_
      first | refine aops_n rfl (n_len' rfl rfl (List.length_map _)) ?_ | refine aops_n rfl (n_len' rfl rfl rfl) ?_ | refine aops_n rfl (n_lenstr' rfl rfl) ?_ | refine aops_n rfl (n_len_arr rfl rfl) ?_
      refine aops_n rfl (n_as rfl (by constructor)) ?_
      refine aops_nil ?_
      dsimp only [St.put]
      refine hK9 _ ?_
      refine aw_block ?_
      refine aw_wipe 8 ?_
      simp only [firsts, getA, Nat.reduceAdd, List.getD_cons_zero, List.getD_cons_succ, List.getD_nil, natBeq, Nat.reduceBEq, cond_true, cond_false]
      refine aw_forget ((setG (setG G nx (.box ((M + 1)) (((tabC a b M).set i (.arr (nx + 1) (b.length + 1)))))) (nx + 1) (.box 0 ((rowC a b i 0))))) (by (repeat' (refine subG_set (by (try dsimp only); repeat (first | exact setG_same _ _ _ | assumption | rw [setG_other (by omega)] | rw [delG_other (by omega)])) ?_)); exact (fun n o h => by first | exact h | (have := hlt n o h; (try dsimp only); repeat (first | exact h | rw [setG_other (by omega)] | rw [delG_other (by omega)])))) ?_
      dsimp only
      refine aw_loopD (X := Nat) (fun N => N ≤ b.length + 1) (fun N => b.length + 1 - N) (fun N => [(7, .v (.int .i64 ((b.length : Int) - N)))]) (fun N G' => (setG (setG G nx (.box ((M + 1)) (((tabC a b M).set i (.arr (nx + 1) (b.length + 1)))))) (nx + 1) (.box N ((rowC a b i N))))) 0 rfl ?_ ?_ ?_ ?_ ?_ ?_
      · exact Nat.zero_le _
      · exact (by repeat' (first | exact trivial | refine ⟨?_, ?_⟩ | exact .inr rfl | exact .inl rfl | exact .inr (congrArg C.v (congrArg (Value.int _) (by simp; try omega)))))
      · exact (by (repeat' (refine subG_set (by (try dsimp only); repeat (first | exact setG_same _ _ _ | assumption | rw [setG_other (by omega)] | rw [delG_other (by omega)])) ?_)); exact (fun n o h => by first | exact h | (have := hlt n o h; (try dsimp only); repeat (first | exact h | rw [setG_other (by omega)] | rw [delG_other (by omega)]))))
      · rintro N hI
        exact (by (try dsimp only); repeat' (first | exact trivial | refine ⟨?_, ?_⟩ | exact .v | exact .any | exact lst_low _ _ | exact cells_low _ _ | exact val_low _ _ | exact data_low _ (by (try dsimp only); omega) | exact .box (by (try dsimp only); omega) | exact nil_low | exact low_nil | exact tabC_low _ _ _ _ | exact rowC_low _ _ _ _ _ | refine set_low ?_ ?_ | exact .arr (by (try dsimp only); omega) | refine low_cons ?_ ?_ | exact lst_low _ _))
      · rintro N hI
        exact (by (repeat' (refine lowG_set ?_ (by (try dsimp only); omega) ?_)); all_goals (first | exact lowG_base (fun n o h => by first | exact h | (have := hlt n o h; (try dsimp only); repeat (first | exact h | rw [setG_other (by omega)] | rw [delG_other (by omega)]))) | (repeat' (first | exact trivial | refine ⟨?_, ?_⟩ | exact .v | exact .any | exact lst_low _ _ | exact cells_low _ _ | exact val_low _ _ | exact data_low _ (by (try dsimp only); omega) | exact .box (by (try dsimp only); omega) | exact nil_low | exact low_nil | exact tabC_low _ _ _ _ | exact rowC_low _ _ _ _ _ | refine set_low ?_ ?_ | exact .arr (by (try dsimp only); omega) | refine low_cons ?_ ?_ | exact lst_low _ _))))
      · rintro N hJ
        dsimp only at hJ ⊢
        refine aw_seq_k fun K10 hK10 => ?_
        refine aw_seq_k fun K11 hK11 => ?_
        refine aw_region ?_
        refine aops_n rfl (n_mv rfl (by constructor)) ?_
        refine aops_n rfl (n_geq rfl rfl rfl) ?_
        refine aops_nil ?_
        dsimp only [St.put]
        refine hK11 _ ?_
        refine aw_cond rfl (fun hc => ?_) (fun hc => ?_)
        · replace hc := of_decide_eq_true hc
          obtain ⟨k, hk⟩ : ∃ k, k + N = b.length := ⟨b.length - N, by omega⟩
          rw [show (b.length : Int) - (N : Int) = (k : Int) by omega]
          have hT0 := tabC_same (b := b) (M := M) (.arr (nx + 1) (b.length + 1)) (show i ≤ a.length by omega)
          refine aw_skip ?_
          refine hK10 _ ?_
          refine aw_seq_k fun K12 hK12 => ?_
          refine aw_block ?_
          refine aw_block ?_
          refine aw_seq_k fun K13 hK13 => ?_
          refine aw_region ?_
          refine aops_n rfl (n_mv rfl (by constructor)) ?_
          refine aops_n rfl (n_mv rfl (by constructor)) ?_
          first | refine aops_n rfl (n_len' rfl rfl (List.length_map _)) ?_ | refine aops_n rfl (n_len' rfl rfl rfl) ?_ | refine aops_n rfl (n_lenstr' rfl rfl) ?_ | refine aops_n rfl (n_len_arr rfl rfl) ?_
          refine aops_n rfl (n_eql rfl rfl rfl) ?_
          refine aops_n rfl (n_as rfl (by constructor)) ?_
          refine aops_nil ?_
          dsimp only [St.put]
          refine hK13 _ ?_
          refine aw_cond rfl (fun hc => ?_) (fun hc => ?_)
          · try replace hc := of_decide_eq_true hc
            refine aw_region ?_
            refine aops_n rfl (n_mv rfl (by constructor)) ?_
            refine aops_n rfl (n_mv rfl (by constructor)) ?_
            first | refine aops_n rfl (n_indexAddr rfl rfl rfl rfl (map_get (by assumption)) (Enc.len _)) ?_ | refine aops_n rfl (n_indexAddr rfl rfl rfl rfl (by assumption) rfl) ?_ | refine aops_n rfl (n_indexAddr_arr1 rfl rfl rfl (by first | exact idx_succ _ | exact rfl) (by omega)) ?_ | refine aops_n rfl (n_indexAddr rfl rfl rfl (by omega) (map_get (by assumption)) (Enc.len _)) ?_
            try dsimp only [St.put]
            first | refine aops_s rfl (s_load rfl rfl) ?_ | refine aops_s rfl (s_load_agg' rfl rfl (Enc.len _)) ?_ | refine aops_s rfl (s_load_agg' rfl rfl rfl) ?_ | refine aops_s rfl (s_load_box rfl rfl (by (try dsimp only); repeat (first | exact setG_same _ _ _ | assumption | rw [setG_other (by omega)] | rw [delG_other (by omega)])) trivial (by first | rfl | assumption)) ?_ | refine aops_s rfl (s_load_box_all rfl rfl (by (try dsimp only); repeat (first | exact setG_same _ _ _ | assumption | rw [setG_other (by omega)] | rw [delG_other (by omega)])) trivial (by rfl)) ?_ | refine aops_s rfl (s_load_box_agg rfl rfl (by (try dsimp only); repeat (first | exact setG_same _ _ _ | assumption | rw [setG_other (by omega)] | rw [delG_other (by omega)])) trivial (by simp)) ?_
            refine aops_n rfl (n_mv rfl (by constructor)) ?_
            refine aops_n rfl (n_mv rfl (by constructor)) ?_
            first | refine aops_n rfl (n_len' rfl rfl (List.length_map _)) ?_ | refine aops_n rfl (n_len' rfl rfl rfl) ?_ | refine aops_n rfl (n_lenstr' rfl rfl) ?_ | refine aops_n rfl (n_len_arr rfl rfl) ?_
            refine aops_n rfl (n_mv rfl (by constructor)) ?_
            first | refine aops_n rfl (n_sub rfl rfl rfl (by omega)) ?_ | refine aops_n rfl (n_subw rfl rfl rfl) ?_
            first | refine aops_n rfl (n_indexAddr rfl rfl rfl rfl (map_get (by assumption)) (Enc.len _)) ?_ | refine aops_n rfl (n_indexAddr rfl rfl rfl rfl (by assumption) rfl) ?_ | refine aops_n rfl (n_indexAddr_arr1 rfl rfl rfl (by first | exact idx_succ _ | exact rfl) (by omega)) ?_ | refine aops_n rfl (n_indexAddr rfl rfl rfl (by omega) (map_get (by assumption)) (Enc.len _)) ?_
            try dsimp only [St.put]
            first | refine aops_e rfl (e_store_all rfl rfl rfl (by (try dsimp only); repeat (first | exact setG_same _ _ _ | assumption | rw [setG_other (by omega)] | rw [delG_other (by omega)])) rfl rfl (by rfl) ?_) | refine aops_e rfl (e_store_one rfl rfl rfl (by (try dsimp only); repeat (first | exact setG_same _ _ _ | assumption | rw [setG_other (by omega)] | rw [delG_other (by omega)])) (by constructor) rfl (by simp; try omega) ?_)
            refine aops_nil ?_
            dsimp only [St.put]
            rw [show (b.length : Int) - (k : Int) = (fewAt a b i k : Int) by rw [fewAt_end (by omega)]; omega, rowC_set i hk]
            refine hK12 _ ?_
            refine aw_region ?_
            refine aops_n rfl (n_mv rfl (by constructor)) ?_
            first | refine aops_n rfl (n_sub rfl rfl rfl (by omega)) ?_ | refine aops_n rfl (n_subw rfl rfl rfl) ?_
            refine aops_n rfl (n_as rfl (by constructor)) ?_
            refine aops_nil ?_
            dsimp only [St.put]
            exact ⟨N + 1, by omega, by omega, ⟨rfl, (by repeat' (first | exact trivial | refine ⟨?_, ?_⟩ | exact .inr rfl | exact .inl rfl | exact .inr (congrArg C.v (congrArg (Value.int _) (by simp; try omega))))), (by first | exact .inl rfl | (refine .inr ?_; repeat' (first | exact trivial | refine ⟨?_, ?_⟩ | exact .inr rfl | exact .inl rfl | exact .inr (congrArg C.v (congrArg (Value.int _) (by simp; try omega)))))), (by first | exact Nat.le_refl _ | omega | (simp; try omega)), (by (repeat' (refine subG_set (by (try dsimp only); repeat (first | exact setG_same _ _ _ | assumption | rw [setG_other (by omega)] | rw [delG_other (by omega)])) ?_)); exact (fun n o h => by first | exact h | (have := hlt n o h; (try dsimp only); repeat (first | exact h | rw [setG_other (by omega)] | rw [delG_other (by omega)]))))⟩⟩
          · try replace hc := of_decide_eq_false hc
            refine aw_seq_k fun K14 hK14 => ?_
            refine aw_region ?_
            refine aops_n rfl (n_mv rfl (by constructor)) ?_
            refine aops_n rfl (n_mv rfl (by constructor)) ?_
            first | refine aops_n rfl (n_len' rfl rfl (List.length_map _)) ?_ | refine aops_n rfl (n_len' rfl rfl rfl) ?_ | refine aops_n rfl (n_lenstr' rfl rfl) ?_ | refine aops_n rfl (n_len_arr rfl rfl) ?_
            refine aops_n rfl (n_eql rfl rfl rfl) ?_
            refine aops_n rfl (n_as rfl (by constructor)) ?_
            refine aops_nil ?_
            dsimp only [St.put]
            refine hK14 _ ?_
            refine aw_cond rfl (fun hc => ?_) (fun hc => ?_)
            · try replace hc := of_decide_eq_true hc
              refine aw_region ?_
              refine aops_n rfl (n_mv rfl (by constructor)) ?_
              refine aops_n rfl (n_mv rfl (by constructor)) ?_
              first | refine aops_n rfl (n_indexAddr rfl rfl rfl rfl (map_get (by assumption)) (Enc.len _)) ?_ | refine aops_n rfl (n_indexAddr rfl rfl rfl rfl (by assumption) rfl) ?_ | refine aops_n rfl (n_indexAddr_arr1 rfl rfl rfl (by first | exact idx_succ _ | exact rfl) (by omega)) ?_ | refine aops_n rfl (n_indexAddr rfl rfl rfl (by omega) (map_get (by assumption)) (Enc.len _)) ?_
              try dsimp only [St.put]
              first | refine aops_s rfl (s_load rfl rfl) ?_ | refine aops_s rfl (s_load_agg' rfl rfl (Enc.len _)) ?_ | refine aops_s rfl (s_load_agg' rfl rfl rfl) ?_ | refine aops_s rfl (s_load_box rfl rfl (by (try dsimp only); repeat (first | exact setG_same _ _ _ | assumption | rw [setG_other (by omega)] | rw [delG_other (by omega)])) trivial (by first | rfl | assumption)) ?_ | refine aops_s rfl (s_load_box_all rfl rfl (by (try dsimp only); repeat (first | exact setG_same _ _ _ | assumption | rw [setG_other (by omega)] | rw [delG_other (by omega)])) trivial (by rfl)) ?_ | refine aops_s rfl (s_load_box_agg rfl rfl (by (try dsimp only); repeat (first | exact setG_same _ _ _ | assumption | rw [setG_other (by omega)] | rw [delG_other (by omega)])) trivial (by simp)) ?_
              refine aops_n rfl (n_mv rfl (by constructor)) ?_
              refine aops_n rfl (n_mv rfl (by constructor)) ?_
              first | refine aops_n rfl (n_len' rfl rfl (List.length_map _)) ?_ | refine aops_n rfl (n_len' rfl rfl rfl) ?_ | refine aops_n rfl (n_lenstr' rfl rfl) ?_ | refine aops_n rfl (n_len_arr rfl rfl) ?_
              refine aops_n rfl (n_mv rfl (by constructor)) ?_
              first | refine aops_n rfl (n_sub rfl rfl rfl (by omega)) ?_ | refine aops_n rfl (n_subw rfl rfl rfl) ?_
              first | refine aops_n rfl (n_indexAddr rfl rfl rfl rfl (map_get (by assumption)) (Enc.len _)) ?_ | refine aops_n rfl (n_indexAddr rfl rfl rfl rfl (by assumption) rfl) ?_ | refine aops_n rfl (n_indexAddr_arr1 rfl rfl rfl (by first | exact idx_succ _ | exact rfl) (by omega)) ?_ | refine aops_n rfl (n_indexAddr rfl rfl rfl (by omega) (map_get (by assumption)) (Enc.len _)) ?_
              try dsimp only [St.put]
              first | refine aops_e rfl (e_store_all rfl rfl rfl (by (try dsimp only); repeat (first | exact setG_same _ _ _ | assumption | rw [setG_other (by omega)] | rw [delG_other (by omega)])) rfl rfl (by rfl) ?_) | refine aops_e rfl (e_store_one rfl rfl rfl (by (try dsimp only); repeat (first | exact setG_same _ _ _ | assumption | rw [setG_other (by omega)] | rw [delG_other (by omega)])) (by constructor) rfl (by simp; try omega) ?_)
              refine aops_nil ?_
              dsimp only [St.put]
              rw [show (a.length : Int) - (i : Int) = (fewAt a b i k : Int) by rw [fewAt_end2 (by omega)]; omega, rowC_set i hk]
              refine hK12 _ ?_
              refine aw_region ?_
              refine aops_n rfl (n_mv rfl (by constructor)) ?_
              first | refine aops_n rfl (n_sub rfl rfl rfl (by omega)) ?_ | refine aops_n rfl (n_subw rfl rfl rfl) ?_
              refine aops_n rfl (n_as rfl (by constructor)) ?_
              refine aops_nil ?_
              dsimp only [St.put]
              exact ⟨N + 1, by omega, by omega, ⟨rfl, (by repeat' (first | exact trivial | refine ⟨?_, ?_⟩ | exact .inr rfl | exact .inl rfl | exact .inr (congrArg C.v (congrArg (Value.int _) (by simp; try omega))))), (by first | exact .inl rfl | (refine .inr ?_; repeat' (first | exact trivial | refine ⟨?_, ?_⟩ | exact .inr rfl | exact .inl rfl | exact .inr (congrArg C.v (congrArg (Value.int _) (by simp; try omega)))))), (by first | exact Nat.le_refl _ | omega | (simp; try omega)), (by (repeat' (refine subG_set (by (try dsimp only); repeat (first | exact setG_same _ _ _ | assumption | rw [setG_other (by omega)] | rw [delG_other (by omega)])) ?_)); exact (fun n o h => by first | exact h | (have := hlt n o h; (try dsimp only); repeat (first | exact h | rw [setG_other (by omega)] | rw [delG_other (by omega)]))))⟩⟩
            · replace hc := of_decide_eq_false hc
              obtain ⟨x, hx⟩ : ∃ x, a[i]? = some x := some_of_lt (by omega)
              obtain ⟨y, hy⟩ : ∃ y, b[k]? = some y := some_of_lt (by omega)
              have hT1 := tabC_next (b := b) (M := M) (.arr (nx + 1) (b.length + 1)) hi (by omega)
              have hR1 := rowF_get (a := a) (i + 1) (show k + 1 ≤ b.length by omega)
              have hR0 := rowF_get (a := a) (i + 1) (show k ≤ b.length by omega)
              have hC := rowC_get (a := a) i (show k + 1 ≤ b.length by omega) (show b.length < k + 1 + N by omega)
              have g1 := fewAt_le a b (i + 1) (k + 1)
              have g2 := fewAt_le a b (i + 1) k
              have g3 := fewAt_le a b i (k + 1)
              refine aw_seq_k fun K15 hK15 => ?_
              refine aw_draw [(0, none), (1, none), (2, none), (3, none), (4, none), (5, none), (6, none), (7, none), (8, none), (9, none)] (fun i => [].contains i) (fun i => [].contains i) (fun i => [0, 1, 2, 4, 5, 6, 8, 9].contains i) [] (by kernel_rfl) (by kernel_rfl) ?_
              refine acan1_n rfl rfl rfl rfl (n_mv rfl (by constructor)) ?_
              refine acan1_n rfl rfl rfl rfl (n_mv rfl (by constructor)) ?_
              first | refine acan1_n rfl rfl rfl rfl (n_indexAddr rfl rfl rfl rfl (map_get (by assumption)) (Enc.len _)) ?_ | refine acan1_n rfl rfl rfl rfl (n_indexAddr rfl rfl rfl rfl (by assumption) rfl) ?_ | refine acan1_n rfl rfl rfl rfl (n_indexAddr_arr1 rfl rfl rfl (by first | exact idx_succ _ | exact rfl) (by omega)) ?_ | refine acan1_n rfl rfl rfl rfl (n_indexAddr rfl rfl rfl (by omega) (map_get (by assumption)) (Enc.len _)) ?_
              try dsimp only [St.put]
              first | refine acan1_s rfl rfl rfl rfl (s_load rfl rfl) ?_ | refine acan1_s rfl rfl rfl rfl (s_load_agg' rfl rfl (Enc.len _)) ?_ | refine acan1_s rfl rfl rfl rfl (s_load_agg' rfl rfl rfl) ?_ | refine acan1_s rfl rfl rfl rfl (s_load_box rfl rfl (by (try dsimp only); repeat (first | exact setG_same _ _ _ | assumption | rw [setG_other (by omega)] | rw [delG_other (by omega)])) (by simp) (by first | rfl | assumption)) ?_ | refine acan1_s rfl rfl rfl rfl (s_load_box_all rfl rfl (by (try dsimp only); repeat (first | exact setG_same _ _ _ | assumption | rw [setG_other (by omega)] | rw [delG_other (by omega)])) (by simp) (by rfl)) ?_ | refine acan1_s rfl rfl rfl rfl (s_load_box_agg rfl rfl (by (try dsimp only); repeat (first | exact setG_same _ _ _ | assumption | rw [setG_other (by omega)] | rw [delG_other (by omega)])) (by simp) (by simp)) ?_
              refine acan1_n rfl rfl rfl rfl (n_mv rfl (by constructor)) ?_
              refine acan1_n rfl rfl rfl rfl (n_mv rfl (by constructor)) ?_
              first | refine acan1_n rfl rfl rfl rfl (n_indexAddr rfl rfl rfl rfl (map_get (by assumption)) (Enc.len _)) ?_ | refine acan1_n rfl rfl rfl rfl (n_indexAddr rfl rfl rfl rfl (by assumption) rfl) ?_ | refine acan1_n rfl rfl rfl rfl (n_indexAddr_arr1 rfl rfl rfl (by first | exact idx_succ _ | exact rfl) (by omega)) ?_ | refine acan1_n rfl rfl rfl rfl (n_indexAddr rfl rfl rfl (by omega) (map_get (by assumption)) (Enc.len _)) ?_
              try dsimp only [St.put]
              first | refine acan1_s rfl rfl rfl rfl (s_load rfl rfl) ?_ | refine acan1_s rfl rfl rfl rfl (s_load_agg' rfl rfl (Enc.len _)) ?_ | refine acan1_s rfl rfl rfl rfl (s_load_agg' rfl rfl rfl) ?_ | refine acan1_s rfl rfl rfl rfl (s_load_box rfl rfl (by (try dsimp only); repeat (first | exact setG_same _ _ _ | assumption | rw [setG_other (by omega)] | rw [delG_other (by omega)])) (by simp) (by first | rfl | assumption)) ?_ | refine acan1_s rfl rfl rfl rfl (s_load_box_all rfl rfl (by (try dsimp only); repeat (first | exact setG_same _ _ _ | assumption | rw [setG_other (by omega)] | rw [delG_other (by omega)])) (by simp) (by rfl)) ?_ | refine acan1_s rfl rfl rfl rfl (s_load_box_agg rfl rfl (by (try dsimp only); repeat (first | exact setG_same _ _ _ | assumption | rw [setG_other (by omega)] | rw [delG_other (by omega)])) (by simp) (by simp)) ?_
              refine acan1_n rfl rfl rfl rfl (n_streq rfl rfl rfl) ?_
              refine acan1_n rfl rfl rfl rfl (n_as rfl (by constructor)) ?_
              refine acan1_nil ?_
              dsimp only [St.put]
              refine hK15 _ ?_
              refine aw_cond rfl (fun hc => ?_) (fun hc => ?_)
              · replace hc := of_decide_eq_true hc
                subst hc
                refine aw_draw [(0, none), (1, none), (2, none), (3, none), (4, none), (5, none), (6, none), (7, none), (8, none), (9, none), (10, none), (11, none), (12, none), (13, none), (14, none), (15, none)] (fun i => [15].contains i) (fun i => [15].contains i) (fun i => [0, 1, 2, 4, 5, 6, 7, 8, 10, 11, 12, 14].contains i) [nx, nx + 1] (by kernel_rfl) (by kernel_rfl) ?_
                refine acan1_n rfl rfl rfl rfl (n_mv rfl (by constructor)) ?_
                refine acan1_n rfl rfl rfl rfl (n_mv rfl (by constructor)) ?_
                first | refine acan1_n rfl rfl rfl rfl (n_indexAddr rfl rfl rfl rfl (map_get (by assumption)) (Enc.len _)) ?_ | refine acan1_n rfl rfl rfl rfl (n_indexAddr rfl rfl rfl rfl (by assumption) rfl) ?_ | refine acan1_n rfl rfl rfl rfl (n_indexAddr_arr1 rfl rfl rfl (by first | exact idx_succ _ | exact rfl) (by omega)) ?_ | refine acan1_n rfl rfl rfl rfl (n_indexAddr rfl rfl rfl (by omega) (map_get (by assumption)) (Enc.len _)) ?_
                try dsimp only [St.put]
                first | refine acan1_s rfl rfl rfl rfl (s_load rfl rfl) ?_ | refine acan1_s rfl rfl rfl rfl (s_load_agg' rfl rfl (Enc.len _)) ?_ | refine acan1_s rfl rfl rfl rfl (s_load_agg' rfl rfl rfl) ?_ | refine acan1_s rfl rfl rfl rfl (s_load_box rfl rfl (by (try dsimp only); repeat (first | exact setG_same _ _ _ | assumption | rw [setG_other (by omega)] | rw [delG_other (by omega)])) (by simp) (by first | rfl | assumption)) ?_ | refine acan1_s rfl rfl rfl rfl (s_load_box_all rfl rfl (by (try dsimp only); repeat (first | exact setG_same _ _ _ | assumption | rw [setG_other (by omega)] | rw [delG_other (by omega)])) (by simp) (by rfl)) ?_ | refine acan1_s rfl rfl rfl rfl (s_load_box_agg rfl rfl (by (try dsimp only); repeat (first | exact setG_same _ _ _ | assumption | rw [setG_other (by omega)] | rw [delG_other (by omega)])) (by simp) (by simp)) ?_
                refine acan1_n rfl rfl rfl rfl (n_mv rfl (by constructor)) ?_
                refine acan1_n rfl rfl rfl rfl (n_mv rfl (by constructor)) ?_
                refine acan1_n rfl rfl rfl rfl (n_mv rfl (by constructor)) ?_
                first | refine acan1_n rfl rfl rfl rfl (n_add rfl rfl rfl (by omega)) ?_ | refine acan1_n rfl rfl rfl rfl (n_addw rfl rfl rfl) ?_
                first | refine acan1_n rfl rfl rfl rfl (n_indexAddr rfl rfl rfl rfl (map_get (by assumption)) (Enc.len _)) ?_ | refine acan1_n rfl rfl rfl rfl (n_indexAddr rfl rfl rfl rfl (by assumption) rfl) ?_ | refine acan1_n rfl rfl rfl rfl (n_indexAddr_arr1 rfl rfl rfl (by first | exact idx_succ _ | exact rfl) (by omega)) ?_ | refine acan1_n rfl rfl rfl rfl (n_indexAddr rfl rfl rfl (by omega) (map_get (by assumption)) (Enc.len _)) ?_
                try dsimp only [St.put]
                first | refine acan1_s rfl rfl rfl rfl (s_load rfl rfl) ?_ | refine acan1_s rfl rfl rfl rfl (s_load_agg' rfl rfl (Enc.len _)) ?_ | refine acan1_s rfl rfl rfl rfl (s_load_agg' rfl rfl rfl) ?_ | refine acan1_s rfl rfl rfl rfl (s_load_box rfl rfl (by (try dsimp only); repeat (first | exact setG_same _ _ _ | assumption | rw [setG_other (by omega)] | rw [delG_other (by omega)])) (by simp) (by first | rfl | assumption)) ?_ | refine acan1_s rfl rfl rfl rfl (s_load_box_all rfl rfl (by (try dsimp only); repeat (first | exact setG_same _ _ _ | assumption | rw [setG_other (by omega)] | rw [delG_other (by omega)])) (by simp) (by rfl)) ?_ | refine acan1_s rfl rfl rfl rfl (s_load_box_agg rfl rfl (by (try dsimp only); repeat (first | exact setG_same _ _ _ | assumption | rw [setG_other (by omega)] | rw [delG_other (by omega)])) (by simp) (by simp)) ?_
                refine acan1_n rfl rfl rfl rfl (n_mv rfl (by constructor)) ?_
                first | refine acan1_n rfl rfl rfl rfl (n_add rfl rfl rfl (by omega)) ?_ | refine acan1_n rfl rfl rfl rfl (n_addw rfl rfl rfl) ?_
                first | refine acan1_n rfl rfl rfl rfl (n_indexAddr rfl rfl rfl rfl (map_get (by assumption)) (Enc.len _)) ?_ | refine acan1_n rfl rfl rfl rfl (n_indexAddr rfl rfl rfl rfl (by assumption) rfl) ?_ | refine acan1_n rfl rfl rfl rfl (n_indexAddr_arr1 rfl rfl rfl (by first | exact idx_succ _ | exact rfl) (by omega)) ?_ | refine acan1_n rfl rfl rfl rfl (n_indexAddr rfl rfl rfl (by omega) (map_get (by assumption)) (Enc.len _)) ?_
                try dsimp only [St.put]
                first | refine acan1_s rfl rfl rfl rfl (s_load rfl rfl) ?_ | refine acan1_s rfl rfl rfl rfl (s_load_agg' rfl rfl (Enc.len _)) ?_ | refine acan1_s rfl rfl rfl rfl (s_load_agg' rfl rfl rfl) ?_ | refine acan1_s rfl rfl rfl rfl (s_load_box rfl rfl (by (try dsimp only); repeat (first | exact setG_same _ _ _ | assumption | rw [setG_other (by omega)] | rw [delG_other (by omega)])) (by simp) (by first | rfl | assumption)) ?_ | refine acan1_s rfl rfl rfl rfl (s_load_box_all rfl rfl (by (try dsimp only); repeat (first | exact setG_same _ _ _ | assumption | rw [setG_other (by omega)] | rw [delG_other (by omega)])) (by simp) (by rfl)) ?_ | refine acan1_s rfl rfl rfl rfl (s_load_box_agg rfl rfl (by (try dsimp only); repeat (first | exact setG_same _ _ _ | assumption | rw [setG_other (by omega)] | rw [delG_other (by omega)])) (by simp) (by simp)) ?_
                first | refine acan1_n rfl rfl rfl rfl (n_indexAddr rfl rfl rfl rfl (map_get (by assumption)) (Enc.len _)) ?_ | refine acan1_n rfl rfl rfl rfl (n_indexAddr rfl rfl rfl rfl (by assumption) rfl) ?_ | refine acan1_n rfl rfl rfl rfl (n_indexAddr_arr1 rfl rfl rfl (by first | exact idx_succ _ | exact rfl) (by omega)) ?_ | refine acan1_n rfl rfl rfl rfl (n_indexAddr rfl rfl rfl (by omega) (map_get (by assumption)) (Enc.len _)) ?_
                refine acan1_two ?_
                try dsimp only [St.put]
                first | refine acan2_late rfl rfl rfl rfl (e_store_all rfl rfl rfl (by (try dsimp only); repeat (first | exact setG_same _ _ _ | assumption | rw [setG_other (by omega)] | rw [delG_other (by omega)])) rfl rfl (by rfl) ?_) | refine acan2_late rfl rfl rfl rfl (e_store_one rfl rfl rfl (by (try dsimp only); repeat (first | exact setG_same _ _ _ | assumption | rw [setG_other (by omega)] | rw [delG_other (by omega)])) (by constructor) rfl (by simp; try omega) ?_)
                refine acan2_nil ?_
                dsimp only [St.put]
                rw [← fewAt_same hx hy, rowC_set i hk]
                refine hK12 _ ?_
                refine aw_region ?_
                refine aops_n rfl (n_mv rfl (by constructor)) ?_
                first | refine aops_n rfl (n_sub rfl rfl rfl (by omega)) ?_ | refine aops_n rfl (n_subw rfl rfl rfl) ?_
                refine aops_n rfl (n_as rfl (by constructor)) ?_
                refine aops_nil ?_
                dsimp only [St.put]
                exact ⟨N + 1, by omega, by omega, ⟨rfl, (by repeat' (first | exact trivial | refine ⟨?_, ?_⟩ | exact .inr rfl | exact .inl rfl | exact .inr (congrArg C.v (congrArg (Value.int _) (by simp; try omega))))), (by first | exact .inl rfl | (refine .inr ?_; repeat' (first | exact trivial | refine ⟨?_, ?_⟩ | exact .inr rfl | exact .inl rfl | exact .inr (congrArg C.v (congrArg (Value.int _) (by simp; try omega)))))), (by first | exact Nat.le_refl _ | omega | (simp; try omega)), (by (repeat' (refine subG_set (by (try dsimp only); repeat (first | exact setG_same _ _ _ | assumption | rw [setG_other (by omega)] | rw [delG_other (by omega)])) ?_)); exact (fun n o h => by first | exact h | (have := hlt n o h; (try dsimp only); repeat (first | exact h | rw [setG_other (by omega)] | rw [delG_other (by omega)]))))⟩⟩
              · replace hc := of_decide_eq_false hc
                refine aw_draw [(0, none), (1, none), (2, none), (3, none), (4, none), (5, none), (6, none), (7, none), (8, none), (9, none), (10, none), (11, none), (12, none), (13, none), (14, none), (15, none), (16, none), (17, none), (18, none), (19, none), (20, none), (21, none), (22, none), (23, none), (24, none), (25, none), (26, none), (27, none), (28, none), (29, none), (30, none), (31, none), (32, none), (33, none), (34, none)] (fun i => [34].contains i) (fun i => [34].contains i) (fun i => [0, 1, 2, 4, 5, 6, 7, 8, 10, 11, 12, 14, 15, 16, 17, 19, 20, 22, 23, 24, 26, 27, 28, 30, 31, 32, 33].contains i) [nx, nx + 1] (by kernel_rfl) (by kernel_rfl) ?_
                refine acan1_n rfl rfl rfl rfl (n_mv rfl (by constructor)) ?_
                refine acan1_n rfl rfl rfl rfl (n_mv rfl (by constructor)) ?_
                first | refine acan1_n rfl rfl rfl rfl (n_indexAddr rfl rfl rfl rfl (map_get (by assumption)) (Enc.len _)) ?_ | refine acan1_n rfl rfl rfl rfl (n_indexAddr rfl rfl rfl rfl (by assumption) rfl) ?_ | refine acan1_n rfl rfl rfl rfl (n_indexAddr_arr1 rfl rfl rfl (by first | exact idx_succ _ | exact rfl) (by omega)) ?_ | refine acan1_n rfl rfl rfl rfl (n_indexAddr rfl rfl rfl (by omega) (map_get (by assumption)) (Enc.len _)) ?_
                try dsimp only [St.put]
                first | refine acan1_s rfl rfl rfl rfl (s_load rfl rfl) ?_ | refine acan1_s rfl rfl rfl rfl (s_load_agg' rfl rfl (Enc.len _)) ?_ | refine acan1_s rfl rfl rfl rfl (s_load_agg' rfl rfl rfl) ?_ | refine acan1_s rfl rfl rfl rfl (s_load_box rfl rfl (by (try dsimp only); repeat (first | exact setG_same _ _ _ | assumption | rw [setG_other (by omega)] | rw [delG_other (by omega)])) (by simp) (by first | rfl | assumption)) ?_ | refine acan1_s rfl rfl rfl rfl (s_load_box_all rfl rfl (by (try dsimp only); repeat (first | exact setG_same _ _ _ | assumption | rw [setG_other (by omega)] | rw [delG_other (by omega)])) (by simp) (by rfl)) ?_ | refine acan1_s rfl rfl rfl rfl (s_load_box_agg rfl rfl (by (try dsimp only); repeat (first | exact setG_same _ _ _ | assumption | rw [setG_other (by omega)] | rw [delG_other (by omega)])) (by simp) (by simp)) ?_
                refine acan1_n rfl rfl rfl rfl (n_mv rfl (by constructor)) ?_
                refine acan1_n rfl rfl rfl rfl (n_mv rfl (by constructor)) ?_
                refine acan1_n rfl rfl rfl rfl (n_mv rfl (by constructor)) ?_
                first | refine acan1_n rfl rfl rfl rfl (n_add rfl rfl rfl (by omega)) ?_ | refine acan1_n rfl rfl rfl rfl (n_addw rfl rfl rfl) ?_
                first | refine acan1_n rfl rfl rfl rfl (n_indexAddr rfl rfl rfl rfl (map_get (by assumption)) (Enc.len _)) ?_ | refine acan1_n rfl rfl rfl rfl (n_indexAddr rfl rfl rfl rfl (by assumption) rfl) ?_ | refine acan1_n rfl rfl rfl rfl (n_indexAddr_arr1 rfl rfl rfl (by first | exact idx_succ _ | exact rfl) (by omega)) ?_ | refine acan1_n rfl rfl rfl rfl (n_indexAddr rfl rfl rfl (by omega) (map_get (by assumption)) (Enc.len _)) ?_
                try dsimp only [St.put]
                first | refine acan1_s rfl rfl rfl rfl (s_load rfl rfl) ?_ | refine acan1_s rfl rfl rfl rfl (s_load_agg' rfl rfl (Enc.len _)) ?_ | refine acan1_s rfl rfl rfl rfl (s_load_agg' rfl rfl rfl) ?_ | refine acan1_s rfl rfl rfl rfl (s_load_box rfl rfl (by (try dsimp only); repeat (first | exact setG_same _ _ _ | assumption | rw [setG_other (by omega)] | rw [delG_other (by omega)])) (by simp) (by first | rfl | assumption)) ?_ | refine acan1_s rfl rfl rfl rfl (s_load_box_all rfl rfl (by (try dsimp only); repeat (first | exact setG_same _ _ _ | assumption | rw [setG_other (by omega)] | rw [delG_other (by omega)])) (by simp) (by rfl)) ?_ | refine acan1_s rfl rfl rfl rfl (s_load_box_agg rfl rfl (by (try dsimp only); repeat (first | exact setG_same _ _ _ | assumption | rw [setG_other (by omega)] | rw [delG_other (by omega)])) (by simp) (by simp)) ?_
                refine acan1_n rfl rfl rfl rfl (n_mv rfl (by constructor)) ?_
                first | refine acan1_n rfl rfl rfl rfl (n_add rfl rfl rfl (by omega)) ?_ | refine acan1_n rfl rfl rfl rfl (n_addw rfl rfl rfl) ?_
                first | refine acan1_n rfl rfl rfl rfl (n_indexAddr rfl rfl rfl rfl (map_get (by assumption)) (Enc.len _)) ?_ | refine acan1_n rfl rfl rfl rfl (n_indexAddr rfl rfl rfl rfl (by assumption) rfl) ?_ | refine acan1_n rfl rfl rfl rfl (n_indexAddr_arr1 rfl rfl rfl (by first | exact idx_succ _ | exact rfl) (by omega)) ?_ | refine acan1_n rfl rfl rfl rfl (n_indexAddr rfl rfl rfl (by omega) (map_get (by assumption)) (Enc.len _)) ?_
                try dsimp only [St.put]
                first | refine acan1_s rfl rfl rfl rfl (s_load rfl rfl) ?_ | refine acan1_s rfl rfl rfl rfl (s_load_agg' rfl rfl (Enc.len _)) ?_ | refine acan1_s rfl rfl rfl rfl (s_load_agg' rfl rfl rfl) ?_ | refine acan1_s rfl rfl rfl rfl (s_load_box rfl rfl (by (try dsimp only); repeat (first | exact setG_same _ _ _ | assumption | rw [setG_other (by omega)] | rw [delG_other (by omega)])) (by simp) (by first | rfl | assumption)) ?_ | refine acan1_s rfl rfl rfl rfl (s_load_box_all rfl rfl (by (try dsimp only); repeat (first | exact setG_same _ _ _ | assumption | rw [setG_other (by omega)] | rw [delG_other (by omega)])) (by simp) (by rfl)) ?_ | refine acan1_s rfl rfl rfl rfl (s_load_box_agg rfl rfl (by (try dsimp only); repeat (first | exact setG_same _ _ _ | assumption | rw [setG_other (by omega)] | rw [delG_other (by omega)])) (by simp) (by simp)) ?_
                refine acan1_n rfl rfl rfl rfl (n_mv rfl (by constructor)) ?_
                refine acan1_n rfl rfl rfl rfl (n_mv rfl (by constructor)) ?_
                first | refine acan1_n rfl rfl rfl rfl (n_add rfl rfl rfl (by omega)) ?_ | refine acan1_n rfl rfl rfl rfl (n_addw rfl rfl rfl) ?_
                first | refine acan1_n rfl rfl rfl rfl (n_indexAddr rfl rfl rfl rfl (map_get (by assumption)) (Enc.len _)) ?_ | refine acan1_n rfl rfl rfl rfl (n_indexAddr rfl rfl rfl rfl (by assumption) rfl) ?_ | refine acan1_n rfl rfl rfl rfl (n_indexAddr_arr1 rfl rfl rfl (by first | exact idx_succ _ | exact rfl) (by omega)) ?_ | refine acan1_n rfl rfl rfl rfl (n_indexAddr rfl rfl rfl (by omega) (map_get (by assumption)) (Enc.len _)) ?_
                try dsimp only [St.put]
                first | refine acan1_s rfl rfl rfl rfl (s_load rfl rfl) ?_ | refine acan1_s rfl rfl rfl rfl (s_load_agg' rfl rfl (Enc.len _)) ?_ | refine acan1_s rfl rfl rfl rfl (s_load_agg' rfl rfl rfl) ?_ | refine acan1_s rfl rfl rfl rfl (s_load_box rfl rfl (by (try dsimp only); repeat (first | exact setG_same _ _ _ | assumption | rw [setG_other (by omega)] | rw [delG_other (by omega)])) (by simp) (by first | rfl | assumption)) ?_ | refine acan1_s rfl rfl rfl rfl (s_load_box_all rfl rfl (by (try dsimp only); repeat (first | exact setG_same _ _ _ | assumption | rw [setG_other (by omega)] | rw [delG_other (by omega)])) (by simp) (by rfl)) ?_ | refine acan1_s rfl rfl rfl rfl (s_load_box_agg rfl rfl (by (try dsimp only); repeat (first | exact setG_same _ _ _ | assumption | rw [setG_other (by omega)] | rw [delG_other (by omega)])) (by simp) (by simp)) ?_
                refine acan1_n rfl rfl rfl rfl (n_mv rfl (by constructor)) ?_
                first | refine acan1_n rfl rfl rfl rfl (n_indexAddr rfl rfl rfl rfl (map_get (by assumption)) (Enc.len _)) ?_ | refine acan1_n rfl rfl rfl rfl (n_indexAddr rfl rfl rfl rfl (by assumption) rfl) ?_ | refine acan1_n rfl rfl rfl rfl (n_indexAddr_arr1 rfl rfl rfl (by first | exact idx_succ _ | exact rfl) (by omega)) ?_ | refine acan1_n rfl rfl rfl rfl (n_indexAddr rfl rfl rfl (by omega) (map_get (by assumption)) (Enc.len _)) ?_
                try dsimp only [St.put]
                first | refine acan1_s rfl rfl rfl rfl (s_load rfl rfl) ?_ | refine acan1_s rfl rfl rfl rfl (s_load_agg' rfl rfl (Enc.len _)) ?_ | refine acan1_s rfl rfl rfl rfl (s_load_agg' rfl rfl rfl) ?_ | refine acan1_s rfl rfl rfl rfl (s_load_box rfl rfl (by (try dsimp only); repeat (first | exact setG_same _ _ _ | assumption | rw [setG_other (by omega)] | rw [delG_other (by omega)])) (by simp) (by first | rfl | assumption)) ?_ | refine acan1_s rfl rfl rfl rfl (s_load_box_all rfl rfl (by (try dsimp only); repeat (first | exact setG_same _ _ _ | assumption | rw [setG_other (by omega)] | rw [delG_other (by omega)])) (by simp) (by rfl)) ?_ | refine acan1_s rfl rfl rfl rfl (s_load_box_agg rfl rfl (by (try dsimp only); repeat (first | exact setG_same _ _ _ | assumption | rw [setG_other (by omega)] | rw [delG_other (by omega)])) (by simp) (by simp)) ?_
                refine acan1_n rfl rfl rfl rfl (n_mv rfl (by constructor)) ?_
                refine acan1_n rfl rfl rfl rfl (n_mv rfl (by constructor)) ?_
                first | refine acan1_n rfl rfl rfl rfl (n_indexAddr rfl rfl rfl rfl (map_get (by assumption)) (Enc.len _)) ?_ | refine acan1_n rfl rfl rfl rfl (n_indexAddr rfl rfl rfl rfl (by assumption) rfl) ?_ | refine acan1_n rfl rfl rfl rfl (n_indexAddr_arr1 rfl rfl rfl (by first | exact idx_succ _ | exact rfl) (by omega)) ?_ | refine acan1_n rfl rfl rfl rfl (n_indexAddr rfl rfl rfl (by omega) (map_get (by assumption)) (Enc.len _)) ?_
                try dsimp only [St.put]
                first | refine acan1_s rfl rfl rfl rfl (s_load rfl rfl) ?_ | refine acan1_s rfl rfl rfl rfl (s_load_agg' rfl rfl (Enc.len _)) ?_ | refine acan1_s rfl rfl rfl rfl (s_load_agg' rfl rfl rfl) ?_ | refine acan1_s rfl rfl rfl rfl (s_load_box rfl rfl (by (try dsimp only); repeat (first | exact setG_same _ _ _ | assumption | rw [setG_other (by omega)] | rw [delG_other (by omega)])) (by simp) (by first | rfl | assumption)) ?_ | refine acan1_s rfl rfl rfl rfl (s_load_box_all rfl rfl (by (try dsimp only); repeat (first | exact setG_same _ _ _ | assumption | rw [setG_other (by omega)] | rw [delG_other (by omega)])) (by simp) (by rfl)) ?_ | refine acan1_s rfl rfl rfl rfl (s_load_box_agg rfl rfl (by (try dsimp only); repeat (first | exact setG_same _ _ _ | assumption | rw [setG_other (by omega)] | rw [delG_other (by omega)])) (by simp) (by simp)) ?_
                refine acan1_n rfl rfl rfl rfl (n_mv rfl (by constructor)) ?_
                first | refine acan1_n rfl rfl rfl rfl (n_add rfl rfl rfl (by omega)) ?_ | refine acan1_n rfl rfl rfl rfl (n_addw rfl rfl rfl) ?_
                first | refine acan1_n rfl rfl rfl rfl (n_indexAddr rfl rfl rfl rfl (map_get (by assumption)) (Enc.len _)) ?_ | refine acan1_n rfl rfl rfl rfl (n_indexAddr rfl rfl rfl rfl (by assumption) rfl) ?_ | refine acan1_n rfl rfl rfl rfl (n_indexAddr_arr1 rfl rfl rfl (by first | exact idx_succ _ | exact rfl) (by omega)) ?_ | refine acan1_n rfl rfl rfl rfl (n_indexAddr rfl rfl rfl (by omega) (map_get (by assumption)) (Enc.len _)) ?_
                try dsimp only [St.put]
                first | refine acan1_s rfl rfl rfl rfl (s_load rfl rfl) ?_ | refine acan1_s rfl rfl rfl rfl (s_load_agg' rfl rfl (Enc.len _)) ?_ | refine acan1_s rfl rfl rfl rfl (s_load_agg' rfl rfl rfl) ?_ | refine acan1_s rfl rfl rfl rfl (s_load_box rfl rfl (by (try dsimp only); repeat (first | exact setG_same _ _ _ | assumption | rw [setG_other (by omega)] | rw [delG_other (by omega)])) (by simp) (by first | rfl | assumption)) ?_ | refine acan1_s rfl rfl rfl rfl (s_load_box_all rfl rfl (by (try dsimp only); repeat (first | exact setG_same _ _ _ | assumption | rw [setG_other (by omega)] | rw [delG_other (by omega)])) (by simp) (by rfl)) ?_ | refine acan1_s rfl rfl rfl rfl (s_load_box_agg rfl rfl (by (try dsimp only); repeat (first | exact setG_same _ _ _ | assumption | rw [setG_other (by omega)] | rw [delG_other (by omega)])) (by simp) (by simp)) ?_
                refine acan1_n rfl rfl rfl rfl (n_min rfl rfl rfl rfl) ?_
                refine acan1_n rfl rfl rfl rfl (n_min rfl rfl rfl rfl) ?_
                first | refine acan1_n rfl rfl rfl rfl (n_add rfl rfl rfl (by omega)) ?_ | refine acan1_n rfl rfl rfl rfl (n_addw rfl rfl rfl) ?_
                first | refine acan1_n rfl rfl rfl rfl (n_indexAddr rfl rfl rfl rfl (map_get (by assumption)) (Enc.len _)) ?_ | refine acan1_n rfl rfl rfl rfl (n_indexAddr rfl rfl rfl rfl (by assumption) rfl) ?_ | refine acan1_n rfl rfl rfl rfl (n_indexAddr_arr1 rfl rfl rfl (by first | exact idx_succ _ | exact rfl) (by omega)) ?_ | refine acan1_n rfl rfl rfl rfl (n_indexAddr rfl rfl rfl (by omega) (map_get (by assumption)) (Enc.len _)) ?_
                refine acan1_two ?_
                try dsimp only [St.put]
                first | refine acan2_late rfl rfl rfl rfl (e_store_all rfl rfl rfl (by (try dsimp only); repeat (first | exact setG_same _ _ _ | assumption | rw [setG_other (by omega)] | rw [delG_other (by omega)])) rfl rfl (by rfl) ?_) | refine acan2_late rfl rfl rfl rfl (e_store_one rfl rfl rfl (by (try dsimp only); repeat (first | exact setG_same _ _ _ | assumption | rw [setG_other (by omega)] | rw [delG_other (by omega)])) (by constructor) rfl (by simp; try omega) ?_)
                refine acan2_nil ?_
                dsimp only [St.put]
                rw [show 1 + min (fewAt a b (i + 1) (k + 1) : Int) (min (fewAt a b (i + 1) k : Int) (fewAt a b i (k + 1) : Int)) = (fewAt a b i k : Int) by rw [fewAt_other hx hy hc]; omega, rowC_set i hk]
                refine hK12 _ ?_
                refine aw_region ?_
                refine aops_n rfl (n_mv rfl (by constructor)) ?_
                first | refine aops_n rfl (n_sub rfl rfl rfl (by omega)) ?_ | refine aops_n rfl (n_subw rfl rfl rfl) ?_
                refine aops_n rfl (n_as rfl (by constructor)) ?_
                refine aops_nil ?_
                dsimp only [St.put]
                exact ⟨N + 1, by omega, by omega, ⟨rfl, (by repeat' (first | exact trivial | refine ⟨?_, ?_⟩ | exact .inr rfl | exact .inl rfl | exact .inr (congrArg C.v (congrArg (Value.int _) (by simp; try omega))))), (by first | exact .inl rfl | (refine .inr ?_; repeat' (first | exact trivial | refine ⟨?_, ?_⟩ | exact .inr rfl | exact .inl rfl | exact .inr (congrArg C.v (congrArg (Value.int _) (by simp; try omega)))))), (by first | exact Nat.le_refl _ | omega | (simp; try omega)), (by (repeat' (refine subG_set (by (try dsimp only); repeat (first | exact setG_same _ _ _ | assumption | rw [setG_other (by omega)] | rw [delG_other (by omega)])) ?_)); exact (fun n o h => by first | exact h | (have := hlt n o h; (try dsimp only); repeat (first | exact h | rw [setG_other (by omega)] | rw [delG_other (by omega)]))))⟩⟩
        · replace hc := of_decide_eq_false hc
          obtain rfl : N = b.length + 1 := by omega
          refine aw_commit_cell nx i (rowF a b i) (by (try dsimp only); repeat (first | exact setG_same _ _ _ | assumption | rw [setG_other (by omega)] | rw [delG_other (by omega)])) (tabC_same _ (by omega)) (by (try dsimp only); repeat (first | exact setG_same _ _ _ | assumption | rw [setG_other (by omega)] | rw [delG_other (by omega)])) (by omega) (rowF_len a b i) (rowC_end a b i) (by decide) ?_
          dsimp only
          rw [tabC_set _ hi]
          refine aw_exit ?_
          refine hK7 _ ?_
          refine aw_region ?_
          refine aops_n rfl (n_mv rfl (by constructor)) ?_
          first | refine aops_n rfl (n_sub rfl rfl rfl (by omega)) ?_ | refine aops_n rfl (n_subw rfl rfl rfl) ?_
          refine aops_n rfl (n_as rfl (by constructor)) ?_
          refine aops_nil ?_
          dsimp only [St.put]
          exact ⟨M + 1, by omega, by omega, ⟨rfl, (by repeat' (first | exact trivial | refine ⟨?_, ?_⟩ | exact .inr rfl | exact .inl rfl | exact .inr (congrArg C.v (congrArg (Value.int _) (by simp; try omega))))), (by first | exact .inl rfl | (refine .inr ?_; repeat' (first | exact trivial | refine ⟨?_, ?_⟩ | exact .inr rfl | exact .inl rfl | exact .inr (congrArg C.v (congrArg (Value.int _) (by simp; try omega)))))), (by first | exact Nat.le_refl _ | omega | (simp; try omega)), (by (repeat' (refine subG_set (by (try dsimp only); repeat (first | exact setG_same _ _ _ | assumption | rw [setG_other (by omega)] | rw [delG_other (by omega)])) ?_)); exact (fun n o h => by first | exact h | (have := hlt n o h; (try dsimp only); repeat (first | exact h | rw [setG_other (by omega)] | rw [delG_other (by omega)]))))⟩⟩
    · replace hc := of_decide_eq_false hc
      obtain rfl : M = a.length + 1 := by omega
      refine aw_exit ?_
      refine hK3 _ ?_
      refine aw_seq_k fun K16 hK16 => ?_
      refine aw_region ?_
      refine aops_n rfl (n_mv rfl (by constructor)) ?_
      refine aops_n rfl (n_as rfl (by constructor)) ?_
      refine aops_nil ?_
      dsimp only [St.put]
      refine hK16 _ ?_
      refine aw_commit_arr 4 (tabF a b) rfl (by (try dsimp only); repeat (first | exact setG_same _ _ _ | assumption | rw [setG_other (by omega)] | rw [delG_other (by omega)])) (tabF_len a b) (tabC_end a b) (by decide) ?_
      dsimp only
      refine aw_ret ?_
      refine ends_1 rfl (by constructor) (by first | exact Nat.le_refl _ | omega | (simp; try omega)) (fun n o h => by first | exact h | (have := hlt n o h; (try dsimp only); repeat (first | exact h | rw [setG_other (by omega)] | rw [delG_other (by omega)]))) ?_
      rfl
end Go.Proofs.Ytalkonicppbgdaa
