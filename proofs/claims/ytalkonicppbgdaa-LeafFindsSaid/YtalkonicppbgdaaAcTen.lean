/-
  The law LeafFinds: its walk.
-/
import Derived.Test.YtalkonicppbgdaaAcNine
import Derived.Test.YtalkonicppbgdaaAbMix
namespace Go.Proofs.Ytalkonicppbgdaa
open Go.RowKit Go.AB
open Go.AB.Enc (cells)
open Go.PB (Chap TextD PlaceD ReadingD CopyD WayD)

theorem SameCopy_self (a : CopyD) : Pure Try.prog 10 [val a, val a] (.v (.bool true)) := by
  have := SameCopy_pure a a
  rwa [decide_eq_true rfl] at this
theorem Same_self (a : TextD) : Pure Try.prog 11 [textC a, textC a] (.v (.bool true)) := by
  have := Same_pure a a
  rwa [decide_eq_true rfl] at this

theorem law_pure (t u : TextD) (id : Int) : Pure Try.prog 3 [textC t, textC u, .v (.int .i64 id)] (.v (.bool true)) := by
  refine pure_of_body Try.func3 rfl (fun m => .v) fun G nx => ?_
  simp only [Try.ntmps3, List.length_cons, List.length_nil, Nat.reduceAdd, Nat.reduceSub]
  refine aw_lt fun hlt => ?_
  dsimp only at hlt
  refine aw_seq_k fun K1 hK1 => ?_
  refine aw_region ?_
  try dsimp only [St.put]
  refine aops_e rfl (e_box rfl rfl (by simp) ?_)
  try dsimp only [St.put]
  refine aops_e rfl (e_box rfl rfl (by simp) ?_)
  refine aops_n rfl (n_as rfl (by constructor)) ?_
  refine aops_nil ?_
  dsimp only [St.put]
  refine hK1 _ ?_
  refine aw_seq_k fun K2 hK2 => ?_
  refine aw_seq_k fun K3 hK3 => ?_
  refine aw_region ?_
  try dsimp only [St.put]
  first | refine aops_s rfl (s_load rfl rfl) ?_ | refine aops_s rfl (s_load_agg' rfl rfl (Enc.len _)) ?_ | refine aops_s rfl (s_load_agg' rfl rfl rfl) ?_ | refine aops_s rfl (s_load_box rfl rfl (by (try dsimp only); repeat (first | exact setG_same _ _ _ | assumption | rw [setG_other (by omega)] | rw [delG_other (by omega)])) trivial (by first | rfl | assumption)) ?_ | refine aops_s rfl (s_load_box_all rfl rfl (by (try dsimp only); repeat (first | exact setG_same _ _ _ | assumption | rw [setG_other (by omega)] | rw [delG_other (by omega)])) trivial (by rfl)) ?_ | refine aops_s rfl (s_load_box_agg rfl rfl (by (try dsimp only); repeat (first | exact setG_same _ _ _ | assumption | rw [setG_other (by omega)] | rw [delG_other (by omega)])) trivial (by simp)) ?_
  try dsimp only [St.put]
  refine aops_e rfl (e_call_pure rfl rfl rfl (Great_pure _) ?_)
  refine aops_n rfl (n_mv rfl (by constructor)) ?_
  refine aops_split (fun hs => ?_) (fun hs => ?_)
  · try replace hs := of_decide_eq_true hs
    refine aops_skip rfl ?_
    refine aops_skip rfl ?_
    first | refine aops_n rfl (n_pt rfl rfl (by constructor)) ?_ | refine aops_n rfl (n_pf rfl rfl (by constructor)) ?_ | refine aops_n rfl (n_pick_and rfl rfl rfl rfl) ?_ | refine aops_n rfl (n_pick_or rfl rfl rfl rfl) ?_
    refine aops_nil ?_
    dsimp only [St.put]
    refine hK3 _ ?_
    refine aw_cond rfl (fun _ => ?_) (fun h => by cases h)
    skip
    refine aw_seq_k fun K4 hK4 => ?_
    refine aw_region ?_
    refine aops_n rfl (n_as rfl (by constructor)) ?_
    refine aops_nil ?_
    dsimp only [St.put]
    refine hK4 _ ?_
    refine aw_ret ?_
    refine ends_1 rfl (by constructor) (by first | exact Nat.le_refl _ | omega | (simp; try omega)) (fun n o h => by first | exact h | (have := hlt n o h; (try dsimp only); repeat (first | exact h | rw [setG_other (by omega)] | rw [delG_other (by omega)]))) ?_
    rfl
  · have g1 : greatB t = false := hs
    try dsimp only [St.put]
    first | refine aops_s rfl (s_load rfl rfl) ?_ | refine aops_s rfl (s_load_agg' rfl rfl (Enc.len _)) ?_ | refine aops_s rfl (s_load_agg' rfl rfl rfl) ?_ | refine aops_s rfl (s_load_box rfl rfl (by (try dsimp only); repeat (first | exact setG_same _ _ _ | assumption | rw [setG_other (by omega)] | rw [delG_other (by omega)])) trivial (by first | rfl | assumption)) ?_ | refine aops_s rfl (s_load_box_all rfl rfl (by (try dsimp only); repeat (first | exact setG_same _ _ _ | assumption | rw [setG_other (by omega)] | rw [delG_other (by omega)])) trivial (by rfl)) ?_ | refine aops_s rfl (s_load_box_agg rfl rfl (by (try dsimp only); repeat (first | exact setG_same _ _ _ | assumption | rw [setG_other (by omega)] | rw [delG_other (by omega)])) trivial (by simp)) ?_
    try dsimp only [St.put]
    refine aops_e rfl (e_call_pure rfl rfl rfl (Great_pure _) ?_)
    first | refine aops_n rfl (n_pt rfl rfl (by constructor)) ?_ | refine aops_n rfl (n_pf rfl rfl (by constructor)) ?_ | refine aops_n rfl (n_pick_and rfl rfl rfl rfl) ?_ | refine aops_n rfl (n_pick_or rfl rfl rfl rfl) ?_
    refine aops_nil ?_
    dsimp only [St.put]
    refine hK3 _ ?_
    refine aw_cond rfl (fun hc => ?_) (fun hc => ?_)
    · skip
      refine aw_seq_k fun K5 hK5 => ?_
      refine aw_region ?_
      refine aops_n rfl (n_as rfl (by constructor)) ?_
      refine aops_nil ?_
      dsimp only [St.put]
      refine hK5 _ ?_
      refine aw_ret ?_
      refine ends_1 rfl (by constructor) (by first | exact Nat.le_refl _ | omega | (simp; try omega)) (fun n o h => by first | exact h | (have := hlt n o h; (try dsimp only); repeat (first | exact h | rw [setG_other (by omega)] | rw [delG_other (by omega)]))) ?_
      rfl
    · have g2 : greatB u = false := hc
      refine aw_skip ?_
      refine hK2 _ ?_
      refine aw_wipe 9 ?_
      simp only [firsts, getA, Nat.reduceAdd, List.getD_cons_zero, List.getD_cons_succ, List.getD_nil, natBeq, Nat.reduceBEq, cond_true, cond_false]
      refine aw_cutD (X := Unit) (fun _ => True) (fun _ => [(7, .elem [lst t]), (8, .elem [lst u])]) (fun _ G' => G') rfl ?_ (fun _ _ _ _ h => .inl h) ?_ ?_
      · rintro _ hI
        exact (by (try dsimp only); repeat' (first | exact trivial | refine ⟨?_, ?_⟩ | exact .v | exact .any | refine .elem ?_ | exact lst_low _ _ | exact cells_low _ _ | exact val_low _ _ | exact data_low _ (by (try dsimp only); omega) | exact .box (by (try dsimp only); omega) | exact nil_low | exact low_nil | refine set_low ?_ ?_ | exact .arr (by (try dsimp only); omega) | refine low_cons ?_ ?_ | exact lst_low _ _))
      · refine aw_drawT [(0, none), (2, none)] (fun i => [3, 6, 7].contains i) (fun i => [].contains i) 6 [true, false, true, false, false, false, false, false] (by kernel_rfl) (by kernel_rfl) ?_
        try dsimp only [St.put]
        first | refine acan1_s rfl rfl rfl rfl (s_load rfl rfl) ?_ | refine acan1_s rfl rfl rfl rfl (s_load_agg' rfl rfl (Enc.len _)) ?_ | refine acan1_s rfl rfl rfl rfl (s_load_agg' rfl rfl rfl) ?_ | refine acan1_s rfl rfl rfl rfl (s_load_box rfl rfl (by (try dsimp only); repeat (first | exact setG_same _ _ _ | assumption | rw [setG_other (by omega)] | rw [delG_other (by omega)])) (by simp) (by first | rfl | assumption)) ?_ | refine acan1_s rfl rfl rfl rfl (s_load_box_all rfl rfl (by (try dsimp only); repeat (first | exact setG_same _ _ _ | assumption | rw [setG_other (by omega)] | rw [delG_other (by omega)])) (by simp) (by rfl)) ?_ | refine acan1_s rfl rfl rfl rfl (s_load_box_agg rfl rfl (by (try dsimp only); repeat (first | exact setG_same _ _ _ | assumption | rw [setG_other (by omega)] | rw [delG_other (by omega)])) (by simp) (by simp)) ?_
        try dsimp only [St.put]
        first | refine acan1_s rfl rfl rfl rfl (s_load rfl rfl) ?_ | refine acan1_s rfl rfl rfl rfl (s_load_agg' rfl rfl (Enc.len _)) ?_ | refine acan1_s rfl rfl rfl rfl (s_load_agg' rfl rfl rfl) ?_ | refine acan1_s rfl rfl rfl rfl (s_load_box rfl rfl (by (try dsimp only); repeat (first | exact setG_same _ _ _ | assumption | rw [setG_other (by omega)] | rw [delG_other (by omega)])) (by simp) (by first | rfl | assumption)) ?_ | refine acan1_s rfl rfl rfl rfl (s_load_box_all rfl rfl (by (try dsimp only); repeat (first | exact setG_same _ _ _ | assumption | rw [setG_other (by omega)] | rw [delG_other (by omega)])) (by simp) (by rfl)) ?_ | refine acan1_s rfl rfl rfl rfl (s_load_box_agg rfl rfl (by (try dsimp only); repeat (first | exact setG_same _ _ _ | assumption | rw [setG_other (by omega)] | rw [delG_other (by omega)])) (by simp) (by simp)) ?_
        refine acan1_nil ?_
        refine aany_step [1, 4, 5] (by kernel_rfl) (by simp) ?_
        refine aeach_cons ?_ ?_
        · try dsimp only [St.put]
          refine aone_e rfl rfl rfl (e_call_pure rfl rfl rfl (Twin_pure t g1) ?_)
          refine aany_step [3, 4, 5] (by kernel_rfl) (by simp) ?_
          refine aeach_cons ?_ ?_
          · try dsimp only [St.put]
            refine aone_e rfl rfl rfl (e_call_pure rfl rfl rfl (Twin_pure u g2) ?_)
            refine aany_step [4, 5] (by kernel_rfl) (by simp) ?_
            refine aeach_cons ?_ ?_
            · try dsimp only [St.put]
              refine aone_e rfl rfl rfl (e_allocC rfl ?_)
              refine aany_step [5] (by kernel_rfl) (by simp) ?_
              refine aeach_cons ?_ ?_
              · try dsimp only [St.put]
                refine aone_e rfl rfl rfl (e_allocC rfl ?_)
                refine aany_step [6] (by kernel_rfl) (by simp) ?_
                refine aeach_cons ?_ ?_
                · try dsimp only [St.put]
                  first | refine aone_e rfl rfl rfl (e_store_all rfl rfl rfl (by (try dsimp only); repeat (first | exact setG_same _ _ _ | assumption | rw [setG_other (by omega)] | rw [delG_other (by omega)])) rfl rfl (by rfl) ?_) | refine aone_e rfl rfl rfl (e_store_one rfl rfl rfl (by (try dsimp only); repeat (first | exact setG_same _ _ _ | assumption | rw [setG_other (by omega)] | rw [delG_other (by omega)])) (by constructor) rfl (by simp; try omega) ?_)
                  refine aany_step [7] (by kernel_rfl) (by simp) ?_
                  refine aeach_cons ?_ ?_
                  · try dsimp only [St.put]
                    first | refine aone_e rfl rfl rfl (e_store_all rfl rfl rfl (by (try dsimp only); repeat (first | exact setG_same _ _ _ | assumption | rw [setG_other (by omega)] | rw [delG_other (by omega)])) rfl rfl (by rfl) ?_) | refine aone_e rfl rfl rfl (e_store_one rfl rfl rfl (by (try dsimp only); repeat (first | exact setG_same _ _ _ | assumption | rw [setG_other (by omega)] | rw [delG_other (by omega)])) (by constructor) rfl (by simp; try omega) ?_)
                    dsimp only [St.put]
                    refine aany_of_tr (tr_commit (i := 7) rfl (by (try dsimp only); repeat (first | exact setG_same _ _ _ | assumption | rw [setG_other (by omega)] | rw [delG_other (by omega)])) (by first | exact List.cons_ne_nil _ _ | simp)) ?_
                    refine aany_of_tr (tr_commit (i := 8) rfl (by (try dsimp only); repeat (first | exact setG_same _ _ _ | assumption | rw [setG_other (by omega)] | rw [delG_other (by omega)])) (by first | exact List.cons_ne_nil _ _ | simp)) ?_
                    dsimp only
                    refine aany_nil (by kernel_rfl) ?_
                    exact ⟨(), trivial, ⟨rfl, (by repeat' (first | exact trivial | refine ⟨?_, ?_⟩ | exact .inr rfl | exact .inl rfl | exact .inr (congrArg C.v (congrArg (Value.int _) (by simp; try omega))))), (by first | exact .inl rfl | (refine .inr ?_; repeat' (first | exact trivial | refine ⟨?_, ?_⟩ | exact .inr rfl | exact .inl rfl | exact .inr (congrArg C.v (congrArg (Value.int _) (by simp; try omega)))))), (by first | exact Nat.le_refl _ | omega | (simp; try omega)), (by (repeat' (refine subG_set (by (try dsimp only); repeat (first | exact setG_same _ _ _ | assumption | rw [setG_other (by omega)] | rw [delG_other (by omega)])) ?_)); exact (fun n o h => by first | exact h | (have := hlt n o h; (try dsimp only); repeat (first | exact h | rw [setG_other (by omega)] | rw [delG_other (by omega)]))))⟩⟩
                  exact aeach_nil
                exact aeach_nil
              exact aeach_nil
            refine aeach_cons ?_ ?_
            · try dsimp only [St.put]
              refine aone_e rfl rfl rfl (e_allocC rfl ?_)
              refine aany_step [4] (by kernel_rfl) (by simp) ?_
              refine aeach_cons ?_ ?_
              · try dsimp only [St.put]
                refine aone_e rfl rfl rfl (e_allocC rfl ?_)
                refine aany_step [6] (by kernel_rfl) (by simp) ?_
                refine aeach_cons ?_ ?_
                · try dsimp only [St.put]
                  first | refine aone_e rfl rfl rfl (e_store_all rfl rfl rfl (by (try dsimp only); repeat (first | exact setG_same _ _ _ | assumption | rw [setG_other (by omega)] | rw [delG_other (by omega)])) rfl rfl (by rfl) ?_) | refine aone_e rfl rfl rfl (e_store_one rfl rfl rfl (by (try dsimp only); repeat (first | exact setG_same _ _ _ | assumption | rw [setG_other (by omega)] | rw [delG_other (by omega)])) (by constructor) rfl (by simp; try omega) ?_)
                  refine aany_step [7] (by kernel_rfl) (by simp) ?_
                  refine aeach_cons ?_ ?_
                  · try dsimp only [St.put]
                    first | refine aone_e rfl rfl rfl (e_store_all rfl rfl rfl (by (try dsimp only); repeat (first | exact setG_same _ _ _ | assumption | rw [setG_other (by omega)] | rw [delG_other (by omega)])) rfl rfl (by rfl) ?_) | refine aone_e rfl rfl rfl (e_store_one rfl rfl rfl (by (try dsimp only); repeat (first | exact setG_same _ _ _ | assumption | rw [setG_other (by omega)] | rw [delG_other (by omega)])) (by constructor) rfl (by simp; try omega) ?_)
                    dsimp only [St.put]
                    refine aany_of_tr (tr_commit (i := 7) rfl (by (try dsimp only); repeat (first | exact setG_same _ _ _ | assumption | rw [setG_other (by omega)] | rw [delG_other (by omega)])) (by first | exact List.cons_ne_nil _ _ | simp)) ?_
                    refine aany_of_tr (tr_commit (i := 8) rfl (by (try dsimp only); repeat (first | exact setG_same _ _ _ | assumption | rw [setG_other (by omega)] | rw [delG_other (by omega)])) (by first | exact List.cons_ne_nil _ _ | simp)) ?_
                    dsimp only
                    refine aany_nil (by kernel_rfl) ?_
                    exact ⟨(), trivial, ⟨rfl, (by repeat' (first | exact trivial | refine ⟨?_, ?_⟩ | exact .inr rfl | exact .inl rfl | exact .inr (congrArg C.v (congrArg (Value.int _) (by simp; try omega))))), (by first | exact .inl rfl | (refine .inr ?_; repeat' (first | exact trivial | refine ⟨?_, ?_⟩ | exact .inr rfl | exact .inl rfl | exact .inr (congrArg C.v (congrArg (Value.int _) (by simp; try omega)))))), (by first | exact Nat.le_refl _ | omega | (simp; try omega)), (by (repeat' (refine subG_set (by (try dsimp only); repeat (first | exact setG_same _ _ _ | assumption | rw [setG_other (by omega)] | rw [delG_other (by omega)])) ?_)); exact (fun n o h => by first | exact h | (have := hlt n o h; (try dsimp only); repeat (first | exact h | rw [setG_other (by omega)] | rw [delG_other (by omega)]))))⟩⟩
                  exact aeach_nil
                exact aeach_nil
              exact aeach_nil
            exact aeach_nil
          refine aeach_cons ?_ ?_
          · try dsimp only [St.put]
            refine aone_e rfl rfl rfl (e_allocC rfl ?_)
            refine aany_step [3, 5] (by kernel_rfl) (by simp) ?_
            refine aeach_cons ?_ ?_
            · try dsimp only [St.put]
              refine aone_e rfl rfl rfl (e_call_pure rfl rfl rfl (Twin_pure u g2) ?_)
              refine aany_step [5] (by kernel_rfl) (by simp) ?_
              refine aeach_cons ?_ ?_
              · try dsimp only [St.put]
                refine aone_e rfl rfl rfl (e_allocC rfl ?_)
                refine aany_step [6] (by kernel_rfl) (by simp) ?_
                refine aeach_cons ?_ ?_
                · try dsimp only [St.put]
                  first | refine aone_e rfl rfl rfl (e_store_all rfl rfl rfl (by (try dsimp only); repeat (first | exact setG_same _ _ _ | assumption | rw [setG_other (by omega)] | rw [delG_other (by omega)])) rfl rfl (by rfl) ?_) | refine aone_e rfl rfl rfl (e_store_one rfl rfl rfl (by (try dsimp only); repeat (first | exact setG_same _ _ _ | assumption | rw [setG_other (by omega)] | rw [delG_other (by omega)])) (by constructor) rfl (by simp; try omega) ?_)
                  refine aany_step [7] (by kernel_rfl) (by simp) ?_
                  refine aeach_cons ?_ ?_
                  · try dsimp only [St.put]
                    first | refine aone_e rfl rfl rfl (e_store_all rfl rfl rfl (by (try dsimp only); repeat (first | exact setG_same _ _ _ | assumption | rw [setG_other (by omega)] | rw [delG_other (by omega)])) rfl rfl (by rfl) ?_) | refine aone_e rfl rfl rfl (e_store_one rfl rfl rfl (by (try dsimp only); repeat (first | exact setG_same _ _ _ | assumption | rw [setG_other (by omega)] | rw [delG_other (by omega)])) (by constructor) rfl (by simp; try omega) ?_)
                    dsimp only [St.put]
                    refine aany_of_tr (tr_commit (i := 7) rfl (by (try dsimp only); repeat (first | exact setG_same _ _ _ | assumption | rw [setG_other (by omega)] | rw [delG_other (by omega)])) (by first | exact List.cons_ne_nil _ _ | simp)) ?_
                    refine aany_of_tr (tr_commit (i := 8) rfl (by (try dsimp only); repeat (first | exact setG_same _ _ _ | assumption | rw [setG_other (by omega)] | rw [delG_other (by omega)])) (by first | exact List.cons_ne_nil _ _ | simp)) ?_
                    dsimp only
                    refine aany_nil (by kernel_rfl) ?_
                    exact ⟨(), trivial, ⟨rfl, (by repeat' (first | exact trivial | refine ⟨?_, ?_⟩ | exact .inr rfl | exact .inl rfl | exact .inr (congrArg C.v (congrArg (Value.int _) (by simp; try omega))))), (by first | exact .inl rfl | (refine .inr ?_; repeat' (first | exact trivial | refine ⟨?_, ?_⟩ | exact .inr rfl | exact .inl rfl | exact .inr (congrArg C.v (congrArg (Value.int _) (by simp; try omega)))))), (by first | exact Nat.le_refl _ | omega | (simp; try omega)), (by (repeat' (refine subG_set (by (try dsimp only); repeat (first | exact setG_same _ _ _ | assumption | rw [setG_other (by omega)] | rw [delG_other (by omega)])) ?_)); exact (fun n o h => by first | exact h | (have := hlt n o h; (try dsimp only); repeat (first | exact h | rw [setG_other (by omega)] | rw [delG_other (by omega)]))))⟩⟩
                  exact aeach_nil
                exact aeach_nil
              exact aeach_nil
            refine aeach_cons ?_ ?_
            · try dsimp only [St.put]
              refine aone_e rfl rfl rfl (e_allocC rfl ?_)
              refine aany_step [3] (by kernel_rfl) (by simp) ?_
              refine aeach_cons ?_ ?_
              · try dsimp only [St.put]
                refine aone_e rfl rfl rfl (e_call_pure rfl rfl rfl (Twin_pure u g2) ?_)
                refine aany_step [6] (by kernel_rfl) (by simp) ?_
                refine aeach_cons ?_ ?_
                · try dsimp only [St.put]
                  first | refine aone_e rfl rfl rfl (e_store_all rfl rfl rfl (by (try dsimp only); repeat (first | exact setG_same _ _ _ | assumption | rw [setG_other (by omega)] | rw [delG_other (by omega)])) rfl rfl (by rfl) ?_) | refine aone_e rfl rfl rfl (e_store_one rfl rfl rfl (by (try dsimp only); repeat (first | exact setG_same _ _ _ | assumption | rw [setG_other (by omega)] | rw [delG_other (by omega)])) (by constructor) rfl (by simp; try omega) ?_)
                  refine aany_step [7] (by kernel_rfl) (by simp) ?_
                  refine aeach_cons ?_ ?_
                  · try dsimp only [St.put]
                    first | refine aone_e rfl rfl rfl (e_store_all rfl rfl rfl (by (try dsimp only); repeat (first | exact setG_same _ _ _ | assumption | rw [setG_other (by omega)] | rw [delG_other (by omega)])) rfl rfl (by rfl) ?_) | refine aone_e rfl rfl rfl (e_store_one rfl rfl rfl (by (try dsimp only); repeat (first | exact setG_same _ _ _ | assumption | rw [setG_other (by omega)] | rw [delG_other (by omega)])) (by constructor) rfl (by simp; try omega) ?_)
                    dsimp only [St.put]
                    refine aany_of_tr (tr_commit (i := 7) rfl (by (try dsimp only); repeat (first | exact setG_same _ _ _ | assumption | rw [setG_other (by omega)] | rw [delG_other (by omega)])) (by first | exact List.cons_ne_nil _ _ | simp)) ?_
                    refine aany_of_tr (tr_commit (i := 8) rfl (by (try dsimp only); repeat (first | exact setG_same _ _ _ | assumption | rw [setG_other (by omega)] | rw [delG_other (by omega)])) (by first | exact List.cons_ne_nil _ _ | simp)) ?_
                    dsimp only
                    refine aany_nil (by kernel_rfl) ?_
                    exact ⟨(), trivial, ⟨rfl, (by repeat' (first | exact trivial | refine ⟨?_, ?_⟩ | exact .inr rfl | exact .inl rfl | exact .inr (congrArg C.v (congrArg (Value.int _) (by simp; try omega))))), (by first | exact .inl rfl | (refine .inr ?_; repeat' (first | exact trivial | refine ⟨?_, ?_⟩ | exact .inr rfl | exact .inl rfl | exact .inr (congrArg C.v (congrArg (Value.int _) (by simp; try omega)))))), (by first | exact Nat.le_refl _ | omega | (simp; try omega)), (by (repeat' (refine subG_set (by (try dsimp only); repeat (first | exact setG_same _ _ _ | assumption | rw [setG_other (by omega)] | rw [delG_other (by omega)])) ?_)); exact (fun n o h => by first | exact h | (have := hlt n o h; (try dsimp only); repeat (first | exact h | rw [setG_other (by omega)] | rw [delG_other (by omega)]))))⟩⟩
                  exact aeach_nil
                exact aeach_nil
              exact aeach_nil
            exact aeach_nil
          refine aeach_cons ?_ ?_
          · try dsimp only [St.put]
            refine aone_e rfl rfl rfl (e_allocC rfl ?_)
            refine aany_step [3, 4] (by kernel_rfl) (by simp) ?_
            refine aeach_cons ?_ ?_
            · try dsimp only [St.put]
              refine aone_e rfl rfl rfl (e_call_pure rfl rfl rfl (Twin_pure u g2) ?_)
              refine aany_step [4] (by kernel_rfl) (by simp) ?_
              refine aeach_cons ?_ ?_
              · try dsimp only [St.put]
                refine aone_e rfl rfl rfl (e_allocC rfl ?_)
                refine aany_step [6] (by kernel_rfl) (by simp) ?_
                refine aeach_cons ?_ ?_
                · try dsimp only [St.put]
                  first | refine aone_e rfl rfl rfl (e_store_all rfl rfl rfl (by (try dsimp only); repeat (first | exact setG_same _ _ _ | assumption | rw [setG_other (by omega)] | rw [delG_other (by omega)])) rfl rfl (by rfl) ?_) | refine aone_e rfl rfl rfl (e_store_one rfl rfl rfl (by (try dsimp only); repeat (first | exact setG_same _ _ _ | assumption | rw [setG_other (by omega)] | rw [delG_other (by omega)])) (by constructor) rfl (by simp; try omega) ?_)
                  refine aany_step [7] (by kernel_rfl) (by simp) ?_
                  refine aeach_cons ?_ ?_
                  · try dsimp only [St.put]
                    first | refine aone_e rfl rfl rfl (e_store_all rfl rfl rfl (by (try dsimp only); repeat (first | exact setG_same _ _ _ | assumption | rw [setG_other (by omega)] | rw [delG_other (by omega)])) rfl rfl (by rfl) ?_) | refine aone_e rfl rfl rfl (e_store_one rfl rfl rfl (by (try dsimp only); repeat (first | exact setG_same _ _ _ | assumption | rw [setG_other (by omega)] | rw [delG_other (by omega)])) (by constructor) rfl (by simp; try omega) ?_)
                    dsimp only [St.put]
                    refine aany_of_tr (tr_commit (i := 7) rfl (by (try dsimp only); repeat (first | exact setG_same _ _ _ | assumption | rw [setG_other (by omega)] | rw [delG_other (by omega)])) (by first | exact List.cons_ne_nil _ _ | simp)) ?_
                    refine aany_of_tr (tr_commit (i := 8) rfl (by (try dsimp only); repeat (first | exact setG_same _ _ _ | assumption | rw [setG_other (by omega)] | rw [delG_other (by omega)])) (by first | exact List.cons_ne_nil _ _ | simp)) ?_
                    dsimp only
                    refine aany_nil (by kernel_rfl) ?_
                    exact ⟨(), trivial, ⟨rfl, (by repeat' (first | exact trivial | refine ⟨?_, ?_⟩ | exact .inr rfl | exact .inl rfl | exact .inr (congrArg C.v (congrArg (Value.int _) (by simp; try omega))))), (by first | exact .inl rfl | (refine .inr ?_; repeat' (first | exact trivial | refine ⟨?_, ?_⟩ | exact .inr rfl | exact .inl rfl | exact .inr (congrArg C.v (congrArg (Value.int _) (by simp; try omega)))))), (by first | exact Nat.le_refl _ | omega | (simp; try omega)), (by (repeat' (refine subG_set (by (try dsimp only); repeat (first | exact setG_same _ _ _ | assumption | rw [setG_other (by omega)] | rw [delG_other (by omega)])) ?_)); exact (fun n o h => by first | exact h | (have := hlt n o h; (try dsimp only); repeat (first | exact h | rw [setG_other (by omega)] | rw [delG_other (by omega)]))))⟩⟩
                  exact aeach_nil
                exact aeach_nil
              exact aeach_nil
            refine aeach_cons ?_ ?_
            · try dsimp only [St.put]
              refine aone_e rfl rfl rfl (e_allocC rfl ?_)
              refine aany_step [3] (by kernel_rfl) (by simp) ?_
              refine aeach_cons ?_ ?_
              · try dsimp only [St.put]
                refine aone_e rfl rfl rfl (e_call_pure rfl rfl rfl (Twin_pure u g2) ?_)
                refine aany_step [6] (by kernel_rfl) (by simp) ?_
                refine aeach_cons ?_ ?_
                · try dsimp only [St.put]
                  first | refine aone_e rfl rfl rfl (e_store_all rfl rfl rfl (by (try dsimp only); repeat (first | exact setG_same _ _ _ | assumption | rw [setG_other (by omega)] | rw [delG_other (by omega)])) rfl rfl (by rfl) ?_) | refine aone_e rfl rfl rfl (e_store_one rfl rfl rfl (by (try dsimp only); repeat (first | exact setG_same _ _ _ | assumption | rw [setG_other (by omega)] | rw [delG_other (by omega)])) (by constructor) rfl (by simp; try omega) ?_)
                  refine aany_step [7] (by kernel_rfl) (by simp) ?_
                  refine aeach_cons ?_ ?_
                  · try dsimp only [St.put]
                    first | refine aone_e rfl rfl rfl (e_store_all rfl rfl rfl (by (try dsimp only); repeat (first | exact setG_same _ _ _ | assumption | rw [setG_other (by omega)] | rw [delG_other (by omega)])) rfl rfl (by rfl) ?_) | refine aone_e rfl rfl rfl (e_store_one rfl rfl rfl (by (try dsimp only); repeat (first | exact setG_same _ _ _ | assumption | rw [setG_other (by omega)] | rw [delG_other (by omega)])) (by constructor) rfl (by simp; try omega) ?_)
                    dsimp only [St.put]
                    refine aany_of_tr (tr_commit (i := 7) rfl (by (try dsimp only); repeat (first | exact setG_same _ _ _ | assumption | rw [setG_other (by omega)] | rw [delG_other (by omega)])) (by first | exact List.cons_ne_nil _ _ | simp)) ?_
                    refine aany_of_tr (tr_commit (i := 8) rfl (by (try dsimp only); repeat (first | exact setG_same _ _ _ | assumption | rw [setG_other (by omega)] | rw [delG_other (by omega)])) (by first | exact List.cons_ne_nil _ _ | simp)) ?_
                    dsimp only
                    refine aany_nil (by kernel_rfl) ?_
                    exact ⟨(), trivial, ⟨rfl, (by repeat' (first | exact trivial | refine ⟨?_, ?_⟩ | exact .inr rfl | exact .inl rfl | exact .inr (congrArg C.v (congrArg (Value.int _) (by simp; try omega))))), (by first | exact .inl rfl | (refine .inr ?_; repeat' (first | exact trivial | refine ⟨?_, ?_⟩ | exact .inr rfl | exact .inl rfl | exact .inr (congrArg C.v (congrArg (Value.int _) (by simp; try omega)))))), (by first | exact Nat.le_refl _ | omega | (simp; try omega)), (by (repeat' (refine subG_set (by (try dsimp only); repeat (first | exact setG_same _ _ _ | assumption | rw [setG_other (by omega)] | rw [delG_other (by omega)])) ?_)); exact (fun n o h => by first | exact h | (have := hlt n o h; (try dsimp only); repeat (first | exact h | rw [setG_other (by omega)] | rw [delG_other (by omega)]))))⟩⟩
                  exact aeach_nil
                exact aeach_nil
              exact aeach_nil
            exact aeach_nil
          exact aeach_nil
        refine aeach_cons ?_ ?_
        · try dsimp only [St.put]
          refine aone_e rfl rfl rfl (e_allocC rfl ?_)
          refine aany_step [1, 5] (by kernel_rfl) (by simp) ?_
          refine aeach_cons ?_ ?_
          · try dsimp only [St.put]
            refine aone_e rfl rfl rfl (e_call_pure rfl rfl rfl (Twin_pure t g1) ?_)
            refine aany_step [3, 5] (by kernel_rfl) (by simp) ?_
            refine aeach_cons ?_ ?_
            · try dsimp only [St.put]
              refine aone_e rfl rfl rfl (e_call_pure rfl rfl rfl (Twin_pure u g2) ?_)
              refine aany_step [5] (by kernel_rfl) (by simp) ?_
              refine aeach_cons ?_ ?_
              · try dsimp only [St.put]
                refine aone_e rfl rfl rfl (e_allocC rfl ?_)
                refine aany_step [6] (by kernel_rfl) (by simp) ?_
                refine aeach_cons ?_ ?_
                · try dsimp only [St.put]
                  first | refine aone_e rfl rfl rfl (e_store_all rfl rfl rfl (by (try dsimp only); repeat (first | exact setG_same _ _ _ | assumption | rw [setG_other (by omega)] | rw [delG_other (by omega)])) rfl rfl (by rfl) ?_) | refine aone_e rfl rfl rfl (e_store_one rfl rfl rfl (by (try dsimp only); repeat (first | exact setG_same _ _ _ | assumption | rw [setG_other (by omega)] | rw [delG_other (by omega)])) (by constructor) rfl (by simp; try omega) ?_)
                  refine aany_step [7] (by kernel_rfl) (by simp) ?_
                  refine aeach_cons ?_ ?_
                  · try dsimp only [St.put]
                    first | refine aone_e rfl rfl rfl (e_store_all rfl rfl rfl (by (try dsimp only); repeat (first | exact setG_same _ _ _ | assumption | rw [setG_other (by omega)] | rw [delG_other (by omega)])) rfl rfl (by rfl) ?_) | refine aone_e rfl rfl rfl (e_store_one rfl rfl rfl (by (try dsimp only); repeat (first | exact setG_same _ _ _ | assumption | rw [setG_other (by omega)] | rw [delG_other (by omega)])) (by constructor) rfl (by simp; try omega) ?_)
                    dsimp only [St.put]
                    refine aany_of_tr (tr_commit (i := 7) rfl (by (try dsimp only); repeat (first | exact setG_same _ _ _ | assumption | rw [setG_other (by omega)] | rw [delG_other (by omega)])) (by first | exact List.cons_ne_nil _ _ | simp)) ?_
                    refine aany_of_tr (tr_commit (i := 8) rfl (by (try dsimp only); repeat (first | exact setG_same _ _ _ | assumption | rw [setG_other (by omega)] | rw [delG_other (by omega)])) (by first | exact List.cons_ne_nil _ _ | simp)) ?_
                    dsimp only
                    refine aany_nil (by kernel_rfl) ?_
                    exact ⟨(), trivial, ⟨rfl, (by repeat' (first | exact trivial | refine ⟨?_, ?_⟩ | exact .inr rfl | exact .inl rfl | exact .inr (congrArg C.v (congrArg (Value.int _) (by simp; try omega))))), (by first | exact .inl rfl | (refine .inr ?_; repeat' (first | exact trivial | refine ⟨?_, ?_⟩ | exact .inr rfl | exact .inl rfl | exact .inr (congrArg C.v (congrArg (Value.int _) (by simp; try omega)))))), (by first | exact Nat.le_refl _ | omega | (simp; try omega)), (by (repeat' (refine subG_set (by (try dsimp only); repeat (first | exact setG_same _ _ _ | assumption | rw [setG_other (by omega)] | rw [delG_other (by omega)])) ?_)); exact (fun n o h => by first | exact h | (have := hlt n o h; (try dsimp only); repeat (first | exact h | rw [setG_other (by omega)] | rw [delG_other (by omega)]))))⟩⟩
                  exact aeach_nil
                exact aeach_nil
              exact aeach_nil
            refine aeach_cons ?_ ?_
            · try dsimp only [St.put]
              refine aone_e rfl rfl rfl (e_allocC rfl ?_)
              refine aany_step [3] (by kernel_rfl) (by simp) ?_
              refine aeach_cons ?_ ?_
              · try dsimp only [St.put]
                refine aone_e rfl rfl rfl (e_call_pure rfl rfl rfl (Twin_pure u g2) ?_)
                refine aany_step [6] (by kernel_rfl) (by simp) ?_
                refine aeach_cons ?_ ?_
                · try dsimp only [St.put]
                  first | refine aone_e rfl rfl rfl (e_store_all rfl rfl rfl (by (try dsimp only); repeat (first | exact setG_same _ _ _ | assumption | rw [setG_other (by omega)] | rw [delG_other (by omega)])) rfl rfl (by rfl) ?_) | refine aone_e rfl rfl rfl (e_store_one rfl rfl rfl (by (try dsimp only); repeat (first | exact setG_same _ _ _ | assumption | rw [setG_other (by omega)] | rw [delG_other (by omega)])) (by constructor) rfl (by simp; try omega) ?_)
                  refine aany_step [7] (by kernel_rfl) (by simp) ?_
                  refine aeach_cons ?_ ?_
                  · try dsimp only [St.put]
                    first | refine aone_e rfl rfl rfl (e_store_all rfl rfl rfl (by (try dsimp only); repeat (first | exact setG_same _ _ _ | assumption | rw [setG_other (by omega)] | rw [delG_other (by omega)])) rfl rfl (by rfl) ?_) | refine aone_e rfl rfl rfl (e_store_one rfl rfl rfl (by (try dsimp only); repeat (first | exact setG_same _ _ _ | assumption | rw [setG_other (by omega)] | rw [delG_other (by omega)])) (by constructor) rfl (by simp; try omega) ?_)
                    dsimp only [St.put]
                    refine aany_of_tr (tr_commit (i := 7) rfl (by (try dsimp only); repeat (first | exact setG_same _ _ _ | assumption | rw [setG_other (by omega)] | rw [delG_other (by omega)])) (by first | exact List.cons_ne_nil _ _ | simp)) ?_
                    refine aany_of_tr (tr_commit (i := 8) rfl (by (try dsimp only); repeat (first | exact setG_same _ _ _ | assumption | rw [setG_other (by omega)] | rw [delG_other (by omega)])) (by first | exact List.cons_ne_nil _ _ | simp)) ?_
                    dsimp only
                    refine aany_nil (by kernel_rfl) ?_
                    exact ⟨(), trivial, ⟨rfl, (by repeat' (first | exact trivial | refine ⟨?_, ?_⟩ | exact .inr rfl | exact .inl rfl | exact .inr (congrArg C.v (congrArg (Value.int _) (by simp; try omega))))), (by first | exact .inl rfl | (refine .inr ?_; repeat' (first | exact trivial | refine ⟨?_, ?_⟩ | exact .inr rfl | exact .inl rfl | exact .inr (congrArg C.v (congrArg (Value.int _) (by simp; try omega)))))), (by first | exact Nat.le_refl _ | omega | (simp; try omega)), (by (repeat' (refine subG_set (by (try dsimp only); repeat (first | exact setG_same _ _ _ | assumption | rw [setG_other (by omega)] | rw [delG_other (by omega)])) ?_)); exact (fun n o h => by first | exact h | (have := hlt n o h; (try dsimp only); repeat (first | exact h | rw [setG_other (by omega)] | rw [delG_other (by omega)]))))⟩⟩
                  exact aeach_nil
                exact aeach_nil
              exact aeach_nil
            exact aeach_nil
          refine aeach_cons ?_ ?_
          · try dsimp only [St.put]
            refine aone_e rfl rfl rfl (e_allocC rfl ?_)
            refine aany_step [1] (by kernel_rfl) (by simp) ?_
            refine aeach_cons ?_ ?_
            · try dsimp only [St.put]
              refine aone_e rfl rfl rfl (e_call_pure rfl rfl rfl (Twin_pure t g1) ?_)
              refine aany_step [3] (by kernel_rfl) (by simp) ?_
              refine aeach_cons ?_ ?_
              · try dsimp only [St.put]
                refine aone_e rfl rfl rfl (e_call_pure rfl rfl rfl (Twin_pure u g2) ?_)
                refine aany_step [6] (by kernel_rfl) (by simp) ?_
                refine aeach_cons ?_ ?_
                · try dsimp only [St.put]
                  first | refine aone_e rfl rfl rfl (e_store_all rfl rfl rfl (by (try dsimp only); repeat (first | exact setG_same _ _ _ | assumption | rw [setG_other (by omega)] | rw [delG_other (by omega)])) rfl rfl (by rfl) ?_) | refine aone_e rfl rfl rfl (e_store_one rfl rfl rfl (by (try dsimp only); repeat (first | exact setG_same _ _ _ | assumption | rw [setG_other (by omega)] | rw [delG_other (by omega)])) (by constructor) rfl (by simp; try omega) ?_)
                  refine aany_step [7] (by kernel_rfl) (by simp) ?_
                  refine aeach_cons ?_ ?_
                  · try dsimp only [St.put]
                    first | refine aone_e rfl rfl rfl (e_store_all rfl rfl rfl (by (try dsimp only); repeat (first | exact setG_same _ _ _ | assumption | rw [setG_other (by omega)] | rw [delG_other (by omega)])) rfl rfl (by rfl) ?_) | refine aone_e rfl rfl rfl (e_store_one rfl rfl rfl (by (try dsimp only); repeat (first | exact setG_same _ _ _ | assumption | rw [setG_other (by omega)] | rw [delG_other (by omega)])) (by constructor) rfl (by simp; try omega) ?_)
                    dsimp only [St.put]
                    refine aany_of_tr (tr_commit (i := 7) rfl (by (try dsimp only); repeat (first | exact setG_same _ _ _ | assumption | rw [setG_other (by omega)] | rw [delG_other (by omega)])) (by first | exact List.cons_ne_nil _ _ | simp)) ?_
                    refine aany_of_tr (tr_commit (i := 8) rfl (by (try dsimp only); repeat (first | exact setG_same _ _ _ | assumption | rw [setG_other (by omega)] | rw [delG_other (by omega)])) (by first | exact List.cons_ne_nil _ _ | simp)) ?_
                    dsimp only
                    refine aany_nil (by kernel_rfl) ?_
                    exact ⟨(), trivial, ⟨rfl, (by repeat' (first | exact trivial | refine ⟨?_, ?_⟩ | exact .inr rfl | exact .inl rfl | exact .inr (congrArg C.v (congrArg (Value.int _) (by simp; try omega))))), (by first | exact .inl rfl | (refine .inr ?_; repeat' (first | exact trivial | refine ⟨?_, ?_⟩ | exact .inr rfl | exact .inl rfl | exact .inr (congrArg C.v (congrArg (Value.int _) (by simp; try omega)))))), (by first | exact Nat.le_refl _ | omega | (simp; try omega)), (by (repeat' (refine subG_set (by (try dsimp only); repeat (first | exact setG_same _ _ _ | assumption | rw [setG_other (by omega)] | rw [delG_other (by omega)])) ?_)); exact (fun n o h => by first | exact h | (have := hlt n o h; (try dsimp only); repeat (first | exact h | rw [setG_other (by omega)] | rw [delG_other (by omega)]))))⟩⟩
                  exact aeach_nil
                exact aeach_nil
              exact aeach_nil
            exact aeach_nil
          exact aeach_nil
        refine aeach_cons ?_ ?_
        · try dsimp only [St.put]
          refine aone_e rfl rfl rfl (e_allocC rfl ?_)
          refine aany_step [1, 4] (by kernel_rfl) (by simp) ?_
          refine aeach_cons ?_ ?_
          · try dsimp only [St.put]
            refine aone_e rfl rfl rfl (e_call_pure rfl rfl rfl (Twin_pure t g1) ?_)
            refine aany_step [3, 4] (by kernel_rfl) (by simp) ?_
            refine aeach_cons ?_ ?_
            · try dsimp only [St.put]
              refine aone_e rfl rfl rfl (e_call_pure rfl rfl rfl (Twin_pure u g2) ?_)
              refine aany_step [4] (by kernel_rfl) (by simp) ?_
              refine aeach_cons ?_ ?_
              · try dsimp only [St.put]
                refine aone_e rfl rfl rfl (e_allocC rfl ?_)
                refine aany_step [6] (by kernel_rfl) (by simp) ?_
                refine aeach_cons ?_ ?_
                · try dsimp only [St.put]
                  first | refine aone_e rfl rfl rfl (e_store_all rfl rfl rfl (by (try dsimp only); repeat (first | exact setG_same _ _ _ | assumption | rw [setG_other (by omega)] | rw [delG_other (by omega)])) rfl rfl (by rfl) ?_) | refine aone_e rfl rfl rfl (e_store_one rfl rfl rfl (by (try dsimp only); repeat (first | exact setG_same _ _ _ | assumption | rw [setG_other (by omega)] | rw [delG_other (by omega)])) (by constructor) rfl (by simp; try omega) ?_)
                  refine aany_step [7] (by kernel_rfl) (by simp) ?_
                  refine aeach_cons ?_ ?_
                  · try dsimp only [St.put]
                    first | refine aone_e rfl rfl rfl (e_store_all rfl rfl rfl (by (try dsimp only); repeat (first | exact setG_same _ _ _ | assumption | rw [setG_other (by omega)] | rw [delG_other (by omega)])) rfl rfl (by rfl) ?_) | refine aone_e rfl rfl rfl (e_store_one rfl rfl rfl (by (try dsimp only); repeat (first | exact setG_same _ _ _ | assumption | rw [setG_other (by omega)] | rw [delG_other (by omega)])) (by constructor) rfl (by simp; try omega) ?_)
                    dsimp only [St.put]
                    refine aany_of_tr (tr_commit (i := 7) rfl (by (try dsimp only); repeat (first | exact setG_same _ _ _ | assumption | rw [setG_other (by omega)] | rw [delG_other (by omega)])) (by first | exact List.cons_ne_nil _ _ | simp)) ?_
                    refine aany_of_tr (tr_commit (i := 8) rfl (by (try dsimp only); repeat (first | exact setG_same _ _ _ | assumption | rw [setG_other (by omega)] | rw [delG_other (by omega)])) (by first | exact List.cons_ne_nil _ _ | simp)) ?_
                    dsimp only
                    refine aany_nil (by kernel_rfl) ?_
                    exact ⟨(), trivial, ⟨rfl, (by repeat' (first | exact trivial | refine ⟨?_, ?_⟩ | exact .inr rfl | exact .inl rfl | exact .inr (congrArg C.v (congrArg (Value.int _) (by simp; try omega))))), (by first | exact .inl rfl | (refine .inr ?_; repeat' (first | exact trivial | refine ⟨?_, ?_⟩ | exact .inr rfl | exact .inl rfl | exact .inr (congrArg C.v (congrArg (Value.int _) (by simp; try omega)))))), (by first | exact Nat.le_refl _ | omega | (simp; try omega)), (by (repeat' (refine subG_set (by (try dsimp only); repeat (first | exact setG_same _ _ _ | assumption | rw [setG_other (by omega)] | rw [delG_other (by omega)])) ?_)); exact (fun n o h => by first | exact h | (have := hlt n o h; (try dsimp only); repeat (first | exact h | rw [setG_other (by omega)] | rw [delG_other (by omega)]))))⟩⟩
                  exact aeach_nil
                exact aeach_nil
              exact aeach_nil
            refine aeach_cons ?_ ?_
            · try dsimp only [St.put]
              refine aone_e rfl rfl rfl (e_allocC rfl ?_)
              refine aany_step [3] (by kernel_rfl) (by simp) ?_
              refine aeach_cons ?_ ?_
              · try dsimp only [St.put]
                refine aone_e rfl rfl rfl (e_call_pure rfl rfl rfl (Twin_pure u g2) ?_)
                refine aany_step [6] (by kernel_rfl) (by simp) ?_
                refine aeach_cons ?_ ?_
                · try dsimp only [St.put]
                  first | refine aone_e rfl rfl rfl (e_store_all rfl rfl rfl (by (try dsimp only); repeat (first | exact setG_same _ _ _ | assumption | rw [setG_other (by omega)] | rw [delG_other (by omega)])) rfl rfl (by rfl) ?_) | refine aone_e rfl rfl rfl (e_store_one rfl rfl rfl (by (try dsimp only); repeat (first | exact setG_same _ _ _ | assumption | rw [setG_other (by omega)] | rw [delG_other (by omega)])) (by constructor) rfl (by simp; try omega) ?_)
                  refine aany_step [7] (by kernel_rfl) (by simp) ?_
                  refine aeach_cons ?_ ?_
                  · try dsimp only [St.put]
                    first | refine aone_e rfl rfl rfl (e_store_all rfl rfl rfl (by (try dsimp only); repeat (first | exact setG_same _ _ _ | assumption | rw [setG_other (by omega)] | rw [delG_other (by omega)])) rfl rfl (by rfl) ?_) | refine aone_e rfl rfl rfl (e_store_one rfl rfl rfl (by (try dsimp only); repeat (first | exact setG_same _ _ _ | assumption | rw [setG_other (by omega)] | rw [delG_other (by omega)])) (by constructor) rfl (by simp; try omega) ?_)
                    dsimp only [St.put]
                    refine aany_of_tr (tr_commit (i := 7) rfl (by (try dsimp only); repeat (first | exact setG_same _ _ _ | assumption | rw [setG_other (by omega)] | rw [delG_other (by omega)])) (by first | exact List.cons_ne_nil _ _ | simp)) ?_
                    refine aany_of_tr (tr_commit (i := 8) rfl (by (try dsimp only); repeat (first | exact setG_same _ _ _ | assumption | rw [setG_other (by omega)] | rw [delG_other (by omega)])) (by first | exact List.cons_ne_nil _ _ | simp)) ?_
                    dsimp only
                    refine aany_nil (by kernel_rfl) ?_
                    exact ⟨(), trivial, ⟨rfl, (by repeat' (first | exact trivial | refine ⟨?_, ?_⟩ | exact .inr rfl | exact .inl rfl | exact .inr (congrArg C.v (congrArg (Value.int _) (by simp; try omega))))), (by first | exact .inl rfl | (refine .inr ?_; repeat' (first | exact trivial | refine ⟨?_, ?_⟩ | exact .inr rfl | exact .inl rfl | exact .inr (congrArg C.v (congrArg (Value.int _) (by simp; try omega)))))), (by first | exact Nat.le_refl _ | omega | (simp; try omega)), (by (repeat' (refine subG_set (by (try dsimp only); repeat (first | exact setG_same _ _ _ | assumption | rw [setG_other (by omega)] | rw [delG_other (by omega)])) ?_)); exact (fun n o h => by first | exact h | (have := hlt n o h; (try dsimp only); repeat (first | exact h | rw [setG_other (by omega)] | rw [delG_other (by omega)]))))⟩⟩
                  exact aeach_nil
                exact aeach_nil
              exact aeach_nil
            exact aeach_nil
          refine aeach_cons ?_ ?_
          · try dsimp only [St.put]
            refine aone_e rfl rfl rfl (e_allocC rfl ?_)
            refine aany_step [1] (by kernel_rfl) (by simp) ?_
            refine aeach_cons ?_ ?_
            · try dsimp only [St.put]
              refine aone_e rfl rfl rfl (e_call_pure rfl rfl rfl (Twin_pure t g1) ?_)
              refine aany_step [3] (by kernel_rfl) (by simp) ?_
              refine aeach_cons ?_ ?_
              · try dsimp only [St.put]
                refine aone_e rfl rfl rfl (e_call_pure rfl rfl rfl (Twin_pure u g2) ?_)
                refine aany_step [6] (by kernel_rfl) (by simp) ?_
                refine aeach_cons ?_ ?_
                · try dsimp only [St.put]
                  first | refine aone_e rfl rfl rfl (e_store_all rfl rfl rfl (by (try dsimp only); repeat (first | exact setG_same _ _ _ | assumption | rw [setG_other (by omega)] | rw [delG_other (by omega)])) rfl rfl (by rfl) ?_) | refine aone_e rfl rfl rfl (e_store_one rfl rfl rfl (by (try dsimp only); repeat (first | exact setG_same _ _ _ | assumption | rw [setG_other (by omega)] | rw [delG_other (by omega)])) (by constructor) rfl (by simp; try omega) ?_)
                  refine aany_step [7] (by kernel_rfl) (by simp) ?_
                  refine aeach_cons ?_ ?_
                  · try dsimp only [St.put]
                    first | refine aone_e rfl rfl rfl (e_store_all rfl rfl rfl (by (try dsimp only); repeat (first | exact setG_same _ _ _ | assumption | rw [setG_other (by omega)] | rw [delG_other (by omega)])) rfl rfl (by rfl) ?_) | refine aone_e rfl rfl rfl (e_store_one rfl rfl rfl (by (try dsimp only); repeat (first | exact setG_same _ _ _ | assumption | rw [setG_other (by omega)] | rw [delG_other (by omega)])) (by constructor) rfl (by simp; try omega) ?_)
                    dsimp only [St.put]
                    refine aany_of_tr (tr_commit (i := 7) rfl (by (try dsimp only); repeat (first | exact setG_same _ _ _ | assumption | rw [setG_other (by omega)] | rw [delG_other (by omega)])) (by first | exact List.cons_ne_nil _ _ | simp)) ?_
                    refine aany_of_tr (tr_commit (i := 8) rfl (by (try dsimp only); repeat (first | exact setG_same _ _ _ | assumption | rw [setG_other (by omega)] | rw [delG_other (by omega)])) (by first | exact List.cons_ne_nil _ _ | simp)) ?_
                    dsimp only
                    refine aany_nil (by kernel_rfl) ?_
                    exact ⟨(), trivial, ⟨rfl, (by repeat' (first | exact trivial | refine ⟨?_, ?_⟩ | exact .inr rfl | exact .inl rfl | exact .inr (congrArg C.v (congrArg (Value.int _) (by simp; try omega))))), (by first | exact .inl rfl | (refine .inr ?_; repeat' (first | exact trivial | refine ⟨?_, ?_⟩ | exact .inr rfl | exact .inl rfl | exact .inr (congrArg C.v (congrArg (Value.int _) (by simp; try omega)))))), (by first | exact Nat.le_refl _ | omega | (simp; try omega)), (by (repeat' (refine subG_set (by (try dsimp only); repeat (first | exact setG_same _ _ _ | assumption | rw [setG_other (by omega)] | rw [delG_other (by omega)])) ?_)); exact (fun n o h => by first | exact h | (have := hlt n o h; (try dsimp only); repeat (first | exact h | rw [setG_other (by omega)] | rw [delG_other (by omega)]))))⟩⟩
                  exact aeach_nil
                exact aeach_nil
              exact aeach_nil
            exact aeach_nil
          exact aeach_nil
        exact aeach_nil
      · rintro _ hI
        dsimp only at hI ⊢
        refine aw_seq_k fun K7 hK7 => ?_
        refine aw_region ?_
        try dsimp only [St.put]
        first | refine aops_s rfl (s_load rfl rfl) ?_ | refine aops_s rfl (s_load_agg' rfl rfl (Enc.len _)) ?_ | refine aops_s rfl (s_load_agg' rfl rfl rfl) ?_ | refine aops_s rfl (s_load_box rfl rfl (by (try dsimp only); repeat (first | exact setG_same _ _ _ | assumption | rw [setG_other (by omega)] | rw [delG_other (by omega)])) trivial (by first | rfl | assumption)) ?_ | refine aops_s rfl (s_load_box_all rfl rfl (by (try dsimp only); repeat (first | exact setG_same _ _ _ | assumption | rw [setG_other (by omega)] | rw [delG_other (by omega)])) trivial (by rfl)) ?_ | refine aops_s rfl (s_load_box_agg rfl rfl (by (try dsimp only); repeat (first | exact setG_same _ _ _ | assumption | rw [setG_other (by omega)] | rw [delG_other (by omega)])) trivial (by simp)) ?_
        try dsimp only [St.put]
        first | refine aops_s rfl (s_load rfl rfl) ?_ | refine aops_s rfl (s_load_agg' rfl rfl (Enc.len _)) ?_ | refine aops_s rfl (s_load_agg' rfl rfl rfl) ?_ | refine aops_s rfl (s_load_box rfl rfl (by (try dsimp only); repeat (first | exact setG_same _ _ _ | assumption | rw [setG_other (by omega)] | rw [delG_other (by omega)])) trivial (by first | rfl | assumption)) ?_ | refine aops_s rfl (s_load_box_all rfl rfl (by (try dsimp only); repeat (first | exact setG_same _ _ _ | assumption | rw [setG_other (by omega)] | rw [delG_other (by omega)])) trivial (by rfl)) ?_ | refine aops_s rfl (s_load_box_agg rfl rfl (by (try dsimp only); repeat (first | exact setG_same _ _ _ | assumption | rw [setG_other (by omega)] | rw [delG_other (by omega)])) trivial (by simp)) ?_
        refine aops_n rfl (n_mv rfl (by constructor)) ?_
        try dsimp only [St.put]
        refine aops_e rfl (e_call_pure rfl rfl rfl (leafFind_pure _ _ _) ?_)
        refine aops_n rfl (n_mv rfl (by constructor)) ?_
        refine aops_n rfl (n_extract rfl rfl rfl) ?_
        refine aops_n rfl (n_extract rfl rfl rfl) ?_
        try dsimp only [St.put]
        refine aops_e rfl (e_allocC rfl ?_)
        try dsimp only [St.put]
        first | refine aops_e rfl (e_store_all rfl rfl rfl (by (try dsimp only); repeat (first | exact setG_same _ _ _ | assumption | rw [setG_other (by omega)] | rw [delG_other (by omega)])) rfl rfl (by rfl) ?_) | refine aops_e rfl (e_store_one rfl rfl rfl (by (try dsimp only); repeat (first | exact setG_same _ _ _ | assumption | rw [setG_other (by omega)] | rw [delG_other (by omega)])) (by constructor) rfl (by simp; try omega) ?_)
        refine aops_n rfl (n_as rfl (by constructor)) ?_
        refine aops_nil ?_
        dsimp only [St.put]
        refine hK7 _ ?_
        refine aw_seq_k fun K8 hK8 => ?_
        refine aw_region ?_
        try dsimp only [St.put]
        first | refine aops_s rfl (s_load rfl rfl) ?_ | refine aops_s rfl (s_load_agg' rfl rfl (Enc.len _)) ?_ | refine aops_s rfl (s_load_agg' rfl rfl rfl) ?_ | refine aops_s rfl (s_load_box rfl rfl (by (try dsimp only); repeat (first | exact setG_same _ _ _ | assumption | rw [setG_other (by omega)] | rw [delG_other (by omega)])) trivial (by first | rfl | assumption)) ?_ | refine aops_s rfl (s_load_box_all rfl rfl (by (try dsimp only); repeat (first | exact setG_same _ _ _ | assumption | rw [setG_other (by omega)] | rw [delG_other (by omega)])) trivial (by rfl)) ?_ | refine aops_s rfl (s_load_box_agg rfl rfl (by (try dsimp only); repeat (first | exact setG_same _ _ _ | assumption | rw [setG_other (by omega)] | rw [delG_other (by omega)])) trivial (by simp)) ?_
        try dsimp only [St.put]
        first | refine aops_s rfl (s_load rfl rfl) ?_ | refine aops_s rfl (s_load_agg' rfl rfl (Enc.len _)) ?_ | refine aops_s rfl (s_load_agg' rfl rfl rfl) ?_ | refine aops_s rfl (s_load_box rfl rfl (by (try dsimp only); repeat (first | exact setG_same _ _ _ | assumption | rw [setG_other (by omega)] | rw [delG_other (by omega)])) trivial (by first | rfl | assumption)) ?_ | refine aops_s rfl (s_load_box_all rfl rfl (by (try dsimp only); repeat (first | exact setG_same _ _ _ | assumption | rw [setG_other (by omega)] | rw [delG_other (by omega)])) trivial (by rfl)) ?_ | refine aops_s rfl (s_load_box_agg rfl rfl (by (try dsimp only); repeat (first | exact setG_same _ _ _ | assumption | rw [setG_other (by omega)] | rw [delG_other (by omega)])) trivial (by simp)) ?_
        refine aops_n rfl (n_mv rfl (by constructor)) ?_
        try dsimp only [St.put]
        refine aops_e rfl (e_call_pure rfl rfl rfl (Find_pure _ _ _) ?_)
        refine aops_n rfl (n_mv rfl (by constructor)) ?_
        refine aops_n rfl (n_extract rfl rfl rfl) ?_
        refine aops_n rfl (n_extract rfl rfl rfl) ?_
        try dsimp only [St.put]
        refine aops_e rfl (e_allocC rfl ?_)
        try dsimp only [St.put]
        first | refine aops_e rfl (e_store_all rfl rfl rfl (by (try dsimp only); repeat (first | exact setG_same _ _ _ | assumption | rw [setG_other (by omega)] | rw [delG_other (by omega)])) rfl rfl (by rfl) ?_) | refine aops_e rfl (e_store_one rfl rfl rfl (by (try dsimp only); repeat (first | exact setG_same _ _ _ | assumption | rw [setG_other (by omega)] | rw [delG_other (by omega)])) (by constructor) rfl (by simp; try omega) ?_)
        refine aops_n rfl (n_as rfl (by constructor)) ?_
        refine aops_nil ?_
        dsimp only [St.put]
        refine hK8 _ ?_
        refine aw_seq_k fun K9 hK9 => ?_
        refine aw_region ?_
        try dsimp only [St.put]
        first | refine aops_s rfl (s_load rfl rfl) ?_ | refine aops_s rfl (s_load_agg' rfl rfl (Enc.len _)) ?_ | refine aops_s rfl (s_load_agg' rfl rfl rfl) ?_ | refine aops_s rfl (s_load_box rfl rfl (by (try dsimp only); repeat (first | exact setG_same _ _ _ | assumption | rw [setG_other (by omega)] | rw [delG_other (by omega)])) trivial (by first | rfl | assumption)) ?_ | refine aops_s rfl (s_load_box_all rfl rfl (by (try dsimp only); repeat (first | exact setG_same _ _ _ | assumption | rw [setG_other (by omega)] | rw [delG_other (by omega)])) trivial (by rfl)) ?_ | refine aops_s rfl (s_load_box_agg rfl rfl (by (try dsimp only); repeat (first | exact setG_same _ _ _ | assumption | rw [setG_other (by omega)] | rw [delG_other (by omega)])) trivial (by simp)) ?_
        try dsimp only [St.put]
        first | refine aops_s rfl (s_load rfl rfl) ?_ | refine aops_s rfl (s_load_agg' rfl rfl (Enc.len _)) ?_ | refine aops_s rfl (s_load_agg' rfl rfl rfl) ?_ | refine aops_s rfl (s_load_box rfl rfl (by (try dsimp only); repeat (first | exact setG_same _ _ _ | assumption | rw [setG_other (by omega)] | rw [delG_other (by omega)])) trivial (by first | rfl | assumption)) ?_ | refine aops_s rfl (s_load_box_all rfl rfl (by (try dsimp only); repeat (first | exact setG_same _ _ _ | assumption | rw [setG_other (by omega)] | rw [delG_other (by omega)])) trivial (by rfl)) ?_ | refine aops_s rfl (s_load_box_agg rfl rfl (by (try dsimp only); repeat (first | exact setG_same _ _ _ | assumption | rw [setG_other (by omega)] | rw [delG_other (by omega)])) trivial (by simp)) ?_
        try dsimp only [St.put]
        refine aops_e rfl (e_call_pure rfl rfl rfl (leafApart_pure _ _) ?_)
        refine aops_n rfl (n_mv rfl (by constructor)) ?_
        refine aops_n rfl (n_extract rfl rfl rfl) ?_
        refine aops_n rfl (n_extract rfl rfl rfl) ?_
        refine aops_n rfl (n_as rfl (by constructor)) ?_
        refine aops_n rfl (n_as rfl (by constructor)) ?_
        refine aops_nil ?_
        dsimp only [St.put]
        refine hK9 _ ?_
        refine aw_seq_k fun K10 hK10 => ?_
        refine aw_region ?_
        try dsimp only [St.put]
        first | refine aops_s rfl (s_load rfl rfl) ?_ | refine aops_s rfl (s_load_agg' rfl rfl (Enc.len _)) ?_ | refine aops_s rfl (s_load_agg' rfl rfl rfl) ?_ | refine aops_s rfl (s_load_box rfl rfl (by (try dsimp only); repeat (first | exact setG_same _ _ _ | assumption | rw [setG_other (by omega)] | rw [delG_other (by omega)])) trivial (by first | rfl | assumption)) ?_ | refine aops_s rfl (s_load_box_all rfl rfl (by (try dsimp only); repeat (first | exact setG_same _ _ _ | assumption | rw [setG_other (by omega)] | rw [delG_other (by omega)])) trivial (by rfl)) ?_ | refine aops_s rfl (s_load_box_agg rfl rfl (by (try dsimp only); repeat (first | exact setG_same _ _ _ | assumption | rw [setG_other (by omega)] | rw [delG_other (by omega)])) trivial (by simp)) ?_
        try dsimp only [St.put]
        first | refine aops_s rfl (s_load rfl rfl) ?_ | refine aops_s rfl (s_load_agg' rfl rfl (Enc.len _)) ?_ | refine aops_s rfl (s_load_agg' rfl rfl rfl) ?_ | refine aops_s rfl (s_load_box rfl rfl (by (try dsimp only); repeat (first | exact setG_same _ _ _ | assumption | rw [setG_other (by omega)] | rw [delG_other (by omega)])) trivial (by first | rfl | assumption)) ?_ | refine aops_s rfl (s_load_box_all rfl rfl (by (try dsimp only); repeat (first | exact setG_same _ _ _ | assumption | rw [setG_other (by omega)] | rw [delG_other (by omega)])) trivial (by rfl)) ?_ | refine aops_s rfl (s_load_box_agg rfl rfl (by (try dsimp only); repeat (first | exact setG_same _ _ _ | assumption | rw [setG_other (by omega)] | rw [delG_other (by omega)])) trivial (by simp)) ?_
        try dsimp only [St.put]
        refine aops_e rfl (e_call_pure rfl rfl rfl (Apart_pure _ _) ?_)
        refine aops_n rfl (n_mv rfl (by constructor)) ?_
        refine aops_n rfl (n_extract rfl rfl rfl) ?_
        refine aops_n rfl (n_extract rfl rfl rfl) ?_
        refine aops_n rfl (n_as rfl (by constructor)) ?_
        refine aops_n rfl (n_as rfl (by constructor)) ?_
        refine aops_nil ?_
        dsimp only [St.put]
        refine hK10 _ ?_
        refine aw_seq_k fun K11 hK11 => ?_
        refine aw_region ?_
        try dsimp only [St.put]
        first | refine aops_s rfl (s_load rfl rfl) ?_ | refine aops_s rfl (s_load_agg' rfl rfl (Enc.len _)) ?_ | refine aops_s rfl (s_load_agg' rfl rfl rfl) ?_ | refine aops_s rfl (s_load_box rfl rfl (by (try dsimp only); repeat (first | exact setG_same _ _ _ | assumption | rw [setG_other (by omega)] | rw [delG_other (by omega)])) trivial (by first | rfl | assumption)) ?_ | refine aops_s rfl (s_load_box_all rfl rfl (by (try dsimp only); repeat (first | exact setG_same _ _ _ | assumption | rw [setG_other (by omega)] | rw [delG_other (by omega)])) trivial (by rfl)) ?_ | refine aops_s rfl (s_load_box_agg rfl rfl (by (try dsimp only); repeat (first | exact setG_same _ _ _ | assumption | rw [setG_other (by omega)] | rw [delG_other (by omega)])) trivial (by simp)) ?_
        try dsimp only [St.put]
        first | refine aops_s rfl (s_load rfl rfl) ?_ | refine aops_s rfl (s_load_agg' rfl rfl (Enc.len _)) ?_ | refine aops_s rfl (s_load_agg' rfl rfl rfl) ?_ | refine aops_s rfl (s_load_box rfl rfl (by (try dsimp only); repeat (first | exact setG_same _ _ _ | assumption | rw [setG_other (by omega)] | rw [delG_other (by omega)])) trivial (by first | rfl | assumption)) ?_ | refine aops_s rfl (s_load_box_all rfl rfl (by (try dsimp only); repeat (first | exact setG_same _ _ _ | assumption | rw [setG_other (by omega)] | rw [delG_other (by omega)])) trivial (by rfl)) ?_ | refine aops_s rfl (s_load_box_agg rfl rfl (by (try dsimp only); repeat (first | exact setG_same _ _ _ | assumption | rw [setG_other (by omega)] | rw [delG_other (by omega)])) trivial (by simp)) ?_
        try dsimp only [St.put]
        refine aops_e rfl (e_call_pure rfl rfl rfl (SameCopy_self _) ?_)
        refine aops_n rfl (n_mv rfl (by constructor)) ?_
        refine aops_n rfl (n_mv rfl (by constructor)) ?_
        refine aops_n rfl (n_mv rfl (by constructor)) ?_
        refine aops_n rfl (n_bool (n_eql rfl rfl rfl) (decide_eq_true (by omega))) ?_
        first | refine aops_n rfl (n_pt rfl rfl (by constructor)) ?_ | refine aops_n rfl (n_pf rfl rfl (by constructor)) ?_ | refine aops_n rfl (n_pick_and rfl rfl rfl rfl) ?_ | refine aops_n rfl (n_pick_or rfl rfl rfl rfl) ?_
        refine aops_n rfl (n_mv rfl (by constructor)) ?_
        refine aops_n rfl (n_mv rfl (by constructor)) ?_
        refine aops_n rfl (n_mv rfl (by constructor)) ?_
        refine aops_n rfl (n_bool (n_eql rfl rfl rfl) (decide_eq_true (by omega))) ?_
        first | refine aops_n rfl (n_pt rfl rfl (by constructor)) ?_ | refine aops_n rfl (n_pf rfl rfl (by constructor)) ?_ | refine aops_n rfl (n_pick_and rfl rfl rfl rfl) ?_ | refine aops_n rfl (n_pick_or rfl rfl rfl rfl) ?_
        refine aops_n rfl (n_mv rfl (by constructor)) ?_
        refine aops_n rfl (n_mv rfl (by constructor)) ?_
        refine aops_n rfl (n_mv rfl (by constructor)) ?_
        refine aops_n rfl (n_bool (n_eql rfl rfl rfl) (decide_eq_true (by omega))) ?_
        first | refine aops_n rfl (n_pt rfl rfl (by constructor)) ?_ | refine aops_n rfl (n_pf rfl rfl (by constructor)) ?_ | refine aops_n rfl (n_pick_and rfl rfl rfl rfl) ?_ | refine aops_n rfl (n_pick_or rfl rfl rfl rfl) ?_
        refine aops_n rfl (n_mv rfl (by constructor)) ?_
        try dsimp only [St.put]
        first | refine aops_s rfl (s_load rfl rfl) ?_ | refine aops_s rfl (s_load_agg' rfl rfl (Enc.len _)) ?_ | refine aops_s rfl (s_load_agg' rfl rfl rfl) ?_ | refine aops_s rfl (s_load_box rfl rfl (by (try dsimp only); repeat (first | exact setG_same _ _ _ | assumption | rw [setG_other (by omega)] | rw [delG_other (by omega)])) trivial (by first | rfl | assumption)) ?_ | refine aops_s rfl (s_load_box_all rfl rfl (by (try dsimp only); repeat (first | exact setG_same _ _ _ | assumption | rw [setG_other (by omega)] | rw [delG_other (by omega)])) trivial (by rfl)) ?_ | refine aops_s rfl (s_load_box_agg rfl rfl (by (try dsimp only); repeat (first | exact setG_same _ _ _ | assumption | rw [setG_other (by omega)] | rw [delG_other (by omega)])) trivial (by simp)) ?_
        try dsimp only [St.put]
        first | refine aops_s rfl (s_load rfl rfl) ?_ | refine aops_s rfl (s_load_agg' rfl rfl (Enc.len _)) ?_ | refine aops_s rfl (s_load_agg' rfl rfl rfl) ?_ | refine aops_s rfl (s_load_box rfl rfl (by (try dsimp only); repeat (first | exact setG_same _ _ _ | assumption | rw [setG_other (by omega)] | rw [delG_other (by omega)])) trivial (by first | rfl | assumption)) ?_ | refine aops_s rfl (s_load_box_all rfl rfl (by (try dsimp only); repeat (first | exact setG_same _ _ _ | assumption | rw [setG_other (by omega)] | rw [delG_other (by omega)])) trivial (by rfl)) ?_ | refine aops_s rfl (s_load_box_agg rfl rfl (by (try dsimp only); repeat (first | exact setG_same _ _ _ | assumption | rw [setG_other (by omega)] | rw [delG_other (by omega)])) trivial (by simp)) ?_
        try dsimp only [St.put]
        refine aops_e rfl (e_call_pure rfl rfl rfl (Same_self _) ?_)
        first | refine aops_n rfl (n_pt rfl rfl (by constructor)) ?_ | refine aops_n rfl (n_pf rfl rfl (by constructor)) ?_ | refine aops_n rfl (n_pick_and rfl rfl rfl rfl) ?_ | refine aops_n rfl (n_pick_or rfl rfl rfl rfl) ?_
        refine aops_n rfl (n_mv rfl (by constructor)) ?_
        try dsimp only [St.put]
        first | refine aops_s rfl (s_load rfl rfl) ?_ | refine aops_s rfl (s_load_agg' rfl rfl (Enc.len _)) ?_ | refine aops_s rfl (s_load_agg' rfl rfl rfl) ?_ | refine aops_s rfl (s_load_box rfl rfl (by (try dsimp only); repeat (first | exact setG_same _ _ _ | assumption | rw [setG_other (by omega)] | rw [delG_other (by omega)])) trivial (by first | rfl | assumption)) ?_ | refine aops_s rfl (s_load_box_all rfl rfl (by (try dsimp only); repeat (first | exact setG_same _ _ _ | assumption | rw [setG_other (by omega)] | rw [delG_other (by omega)])) trivial (by rfl)) ?_ | refine aops_s rfl (s_load_box_agg rfl rfl (by (try dsimp only); repeat (first | exact setG_same _ _ _ | assumption | rw [setG_other (by omega)] | rw [delG_other (by omega)])) trivial (by simp)) ?_
        try dsimp only [St.put]
        first | refine aops_s rfl (s_load rfl rfl) ?_ | refine aops_s rfl (s_load_agg' rfl rfl (Enc.len _)) ?_ | refine aops_s rfl (s_load_agg' rfl rfl rfl) ?_ | refine aops_s rfl (s_load_box rfl rfl (by (try dsimp only); repeat (first | exact setG_same _ _ _ | assumption | rw [setG_other (by omega)] | rw [delG_other (by omega)])) trivial (by first | rfl | assumption)) ?_ | refine aops_s rfl (s_load_box_all rfl rfl (by (try dsimp only); repeat (first | exact setG_same _ _ _ | assumption | rw [setG_other (by omega)] | rw [delG_other (by omega)])) trivial (by rfl)) ?_ | refine aops_s rfl (s_load_box_agg rfl rfl (by (try dsimp only); repeat (first | exact setG_same _ _ _ | assumption | rw [setG_other (by omega)] | rw [delG_other (by omega)])) trivial (by simp)) ?_
        try dsimp only [St.put]
        refine aops_e rfl (e_call_pure rfl rfl rfl (Same_self _) ?_)
        first | refine aops_n rfl (n_pt rfl rfl (by constructor)) ?_ | refine aops_n rfl (n_pf rfl rfl (by constructor)) ?_ | refine aops_n rfl (n_pick_and rfl rfl rfl rfl) ?_ | refine aops_n rfl (n_pick_or rfl rfl rfl rfl) ?_
        refine aops_n rfl (n_as rfl (by constructor)) ?_
        refine aops_nil ?_
        dsimp only [St.put]
        refine hK11 _ ?_
        refine aw_ret ?_
        refine ends_1 rfl (by constructor) (by first | exact Nat.le_refl _ | omega | (simp; try omega)) (fun n o h => by first | exact h | (have := hlt n o h; (try dsimp only); repeat (first | exact h | rw [setG_other (by omega)] | rw [delG_other (by omega)]))) ?_
        rfl
end Go.Proofs.Ytalkonicppbgdaa
