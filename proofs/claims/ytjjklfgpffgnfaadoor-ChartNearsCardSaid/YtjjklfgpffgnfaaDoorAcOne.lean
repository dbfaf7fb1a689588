/-
  Contracts of the reference's functions of layer 1: what only reads.
-/
import Derived.Test.YtjjklfgpffgnfaaDoorAdData
import Derived.Test.YtjjklfgpffgnfaaDoorAbTypes
import Derived.Tactics
namespace Go.Proofs.YtjjklfgpffgnfaaDoor
set_option maxRecDepth 10000
open Go.RowKit Go.AB
open Go.PB (Chap TextD PlaceD ReadingD CopyD WayD)

theorem within_pure (n lo hi : Int) : Pure Tryd.prog 96 [.v (.int .i64 n), .v (.int .i64 lo), .v (.int .i64 hi)] (.v (.bool (inB n lo hi))) := by
  refine pure_of_body Tryd.func96 rfl (fun m => .v) fun G nx => ?_
  simp only [Tryd.ntmps96, List.length_cons, List.length_nil, Nat.reduceAdd, Nat.reduceSub]
  refine aw_lt fun hlt => ?_
  dsimp only at hlt
  refine aw_seq_k fun K1 hK1 => ?_
  refine aw_region ?_
  refine aops_n rfl (n_as rfl (by constructor)) ?_
  refine aops_nil ?_
  dsimp only [St.put]
  refine hK1 _ ?_
  refine aw_seq_k fun K2 hK2 => ?_
  refine aw_region ?_
  refine aops_n rfl (n_mv rfl (by constructor)) ?_
  refine aops_n rfl (n_mv rfl (by constructor)) ?_
  refine aops_n rfl (n_geq rfl rfl rfl) ?_
  refine aops_split (fun hs => ?_) (fun hs => ?_)
  · try replace hs := of_decide_eq_true hs
    refine aops_n rfl (n_mv rfl (by constructor)) ?_
    refine aops_n rfl (n_mv rfl (by constructor)) ?_
    refine aops_n rfl (n_mv rfl (by constructor)) ?_
    refine aops_n rfl (n_leq rfl rfl rfl) ?_
    first | refine aops_n rfl (n_pt rfl rfl (by constructor)) ?_ | refine aops_n rfl (n_pf rfl rfl (by constructor)) ?_ | refine aops_n rfl (n_pick_and rfl rfl rfl rfl) ?_ | refine aops_n rfl (n_pick_or rfl rfl rfl rfl) ?_
    refine aops_n rfl (n_as rfl (by constructor)) ?_
    refine aops_nil ?_
    dsimp only [St.put]
    refine hK2 _ ?_
    refine aw_ret ?_
    refine ends_1 rfl (by constructor) zN zS ?_
    exact vb (by simp [inB, hs]; try omega)
  · try replace hs := of_decide_eq_false hs
    refine aops_n rfl (n_mv rfl (by constructor)) ?_
    refine aops_skip rfl ?_
    refine aops_skip rfl ?_
    refine aops_skip rfl ?_
    first | refine aops_n rfl (n_pt rfl rfl (by constructor)) ?_ | refine aops_n rfl (n_pf rfl rfl (by constructor)) ?_ | refine aops_n rfl (n_pick_and rfl rfl rfl rfl) ?_ | refine aops_n rfl (n_pick_or rfl rfl rfl rfl) ?_
    refine aops_n rfl (n_as rfl (by constructor)) ?_
    refine aops_nil ?_
    dsimp only [St.put]
    refine hK2 _ ?_
    refine aw_ret ?_
    refine ends_1 rfl (by constructor) zN zS ?_
    exact vb (by simp [inB, hs]; try omega)

theorem Word_pure (s : ByteArray) : Pure Tryd.prog 110 [.v (.string s)] (.v (.bool (wordB s))) := by
  refine pure_of_body Tryd.func110 rfl (fun m => .v) fun G nx => ?_
  simp only [Tryd.ntmps110, List.length_cons, List.length_nil, Nat.reduceAdd, Nat.reduceSub]
  refine aw_lt fun hlt => ?_
  dsimp only at hlt
  refine aw_fit 0 (fun hf => ?_)
  have hm : s.size ≤ 9223372036854775807 := okV_str.1 (fit_v.1 hf)
  clear hf
  refine aw_seq_k fun K1 hK1 => ?_
  refine aw_region ?_
  refine aops_n rfl (n_as rfl (by constructor)) ?_
  refine aops_nil ?_
  dsimp only [St.put]
  refine hK1 _ ?_
  refine aw_seq_k fun K2 hK2 => ?_
  refine aw_seq_k fun K3 hK3 => ?_
  refine aw_region ?_
  refine aops_n rfl (n_as rfl (by constructor)) ?_
  refine aops_nil ?_
  dsimp only [St.put]
  refine hK3 _ ?_
  refine aw_block ?_
  refine aw_wipe 4 ?_
  simp only [firsts, getA, Nat.reduceAdd, List.getD_cons_zero, List.getD_cons_succ, List.getD_nil, natBeq, Nat.reduceBEq, cond_true, cond_false]
  refine aw_forget (G) zX ?_
  dsimp only
  refine aw_loopD (X := Nat) (fun k => k ≤ s.size ∧ (s.data.toList.take k).all okc = true) (fun k => s.size - k) (fun k => [(3, .v (.int .i64 (k : Int)))]) (fun k G' => G') 0 rfl ?_ ?_ (fun _ _ h => h) ?_ ?_ ?_
  · exact ⟨by simp, by simp⟩
  · exact zF
  · rintro k hI
    exact zL
  · exact fun _ _ _ _ h => .inl h
  · rintro k hI
    dsimp only at hI ⊢
    refine aw_seq_k fun K4 hK4 => ?_
    refine aw_seq_k fun K5 hK5 => ?_
    refine aw_region ?_
    refine aops_n rfl (n_mv rfl (by constructor)) ?_
    refine aops_n rfl (n_mv rfl (by constructor)) ?_
    first | refine aops_n rfl (n_len' rfl rfl (List.length_map _)) ?_ | refine aops_n rfl (n_len' rfl rfl rfl) ?_ | refine aops_n rfl (n_lenstr' rfl rfl) ?_ | refine aops_n rfl (n_len_arr rfl rfl) ?_ | refine aops_n rfl (n_len_own rfl rfl) ?_ | refine aops_n rfl (n_len_v rfl rfl (by omega)) ?_
    refine aops_n rfl (n_lss rfl rfl rfl) ?_
    refine aops_nil ?_
    dsimp only [St.put]
    refine hK5 _ ?_
    refine aw_cond rfl (fun hc => ?_) (fun hc => ?_)
    · replace hc := of_decide_eq_true hc
      obtain ⟨b, hb⟩ : ∃ b, s.data.toList[k]? = some b := some_of_lt (by simp; omega)
      refine aw_skip ?_
      refine hK4 _ ?_
      refine aw_seq_k fun K6 hK6 => ?_
      refine aw_block ?_
      refine aw_seq_k fun K7 hK7 => ?_
      refine aw_region ?_
      refine aops_n rfl (n_mv rfl (by constructor)) ?_
      refine aops_n rfl (n_mv rfl (by constructor)) ?_
      first | refine aops_n rfl (n_index_str' rfl rfl rfl rfl (by assumption)) ?_ | refine aops_n rfl (n_index_arr rfl rfl rfl rfl rfl) ?_
      refine aops_n rfl (n_lss rfl rfl rfl) ?_
      refine aops_split (fun hs => ?_) (fun hs => ?_)
      · try replace hs := of_decide_eq_true hs
        refine aops_n rfl (n_mv rfl (by constructor)) ?_
        refine aops_skip rfl ?_
        refine aops_skip rfl ?_
        refine aops_skip rfl ?_
        refine aops_skip rfl ?_
        first | refine aops_n rfl (n_pt rfl rfl (by constructor)) ?_ | refine aops_n rfl (n_pf rfl rfl (by constructor)) ?_ | refine aops_n rfl (n_pick_and rfl rfl rfl rfl) ?_ | refine aops_n rfl (n_pick_or rfl rfl rfl rfl) ?_
        refine aops_nil ?_
        dsimp only [St.put]
        refine hK7 _ ?_
        refine aw_cond rfl (fun _ => ?_) (fun h => by cases h)
        refine aw_seq_k fun K8 hK8 => ?_
        refine aw_region ?_
        refine aops_n rfl (n_as rfl (by constructor)) ?_
        refine aops_nil ?_
        dsimp only [St.put]
        refine hK8 _ ?_
        refine aw_ret ?_
        refine ends_1 rfl (by constructor) zN zS ?_
        exact vb (by
          have : s.data.toList.all okc = false := all_false_of hb (by simp [okc]; omega)
          simp [wordB, this])
      · try replace hs := of_decide_eq_false hs
        refine aops_n rfl (n_mv rfl (by constructor)) ?_
        refine aops_n rfl (n_mv rfl (by constructor)) ?_
        refine aops_n rfl (n_mv rfl (by constructor)) ?_
        first | refine aops_n rfl (n_index_str' rfl rfl rfl rfl (by assumption)) ?_ | refine aops_n rfl (n_index_arr rfl rfl rfl rfl rfl) ?_
        refine aops_n rfl (n_gtr rfl rfl rfl) ?_
        first | refine aops_n rfl (n_pt rfl rfl (by constructor)) ?_ | refine aops_n rfl (n_pf rfl rfl (by constructor)) ?_ | refine aops_n rfl (n_pick_and rfl rfl rfl rfl) ?_ | refine aops_n rfl (n_pick_or rfl rfl rfl rfl) ?_
        refine aops_nil ?_
        dsimp only [St.put]
        refine hK7 _ ?_
        refine aw_cond rfl (fun hc => ?_) (fun hc => ?_)
        · try replace hc := of_decide_eq_true hc
          refine aw_seq_k fun K9 hK9 => ?_
          refine aw_region ?_
          refine aops_n rfl (n_as rfl (by constructor)) ?_
          refine aops_nil ?_
          dsimp only [St.put]
          refine hK9 _ ?_
          refine aw_ret ?_
          refine ends_1 rfl (by constructor) zN zS ?_
          exact vb (by
            have : s.data.toList.all okc = false := all_false_of hb (by simp [okc]; omega)
            simp [wordB, this])
        · try replace hc := of_decide_eq_false hc
          refine aw_skip ?_
          refine hK6 _ ?_
          refine aw_region ?_
          refine aops_n rfl (n_mv rfl (by constructor)) ?_
          first | refine aops_n rfl (n_add rfl rfl rfl (by omega)) ?_ | refine aops_n rfl (n_addw rfl rfl rfl) ?_
          refine aops_n rfl (n_as rfl (by constructor)) ?_
          refine aops_nil ?_
          dsimp only [St.put]
          exact ⟨k + 1, by omega, ⟨by omega, by rw [all_take hb, hI.2]; simp [okc]; omega⟩, ⟨⟨rfl, rfl⟩, zF, zB, zN, zX⟩⟩
    · try replace hc := of_decide_eq_false hc
      refine aw_exit ?_
      refine hK2 _ ?_
      refine aw_seq_k fun K10 hK10 => ?_
      refine aw_region ?_
      refine aops_n rfl (n_mv rfl (by constructor)) ?_
      first | refine aops_n rfl (n_len' rfl rfl (List.length_map _)) ?_ | refine aops_n rfl (n_len' rfl rfl rfl) ?_ | refine aops_n rfl (n_lenstr' rfl rfl) ?_ | refine aops_n rfl (n_len_arr rfl rfl) ?_ | refine aops_n rfl (n_len_own rfl rfl) ?_ | refine aops_n rfl (n_len_v rfl rfl (by omega)) ?_
      try dsimp only [St.put]
      refine aops_e rfl (e_call_pure rfl rfl rfl (within_pure _ _ _) ?_)
      refine aops_n rfl (n_as rfl (by constructor)) ?_
      refine aops_nil ?_
      dsimp only [St.put]
      refine hK10 _ ?_
      refine aw_ret ?_
      refine ends_1 rfl (by constructor) zN zS ?_
      exact vb (by
        have h1 := hI.2
        rw [List.take_of_length_le (by simp; omega)] at h1
        simp [wordB, h1])

theorem SameWords_pure (a b : List ByteArray) : Pure Tryd.prog 56 [lst a, lst b] (.v (.bool (decide (a = b)))) := by
  refine pure_of_body Tryd.func56 rfl (fun m => .v) fun G nx => ?_
  simp only [Tryd.ntmps56, List.length_cons, List.length_nil, Nat.reduceAdd, Nat.reduceSub]
  refine aw_lt fun hlt => ?_
  dsimp only at hlt
  refine aw_fit 0 (fun hf => ?_)
  have hf' : a.length ≤ 9223372036854775807 := (fit_lst.1 hf).1
  clear hf
  refine aw_seq_k fun K1 hK1 => ?_
  refine aw_region ?_
  refine aops_n rfl (n_as rfl (by constructor)) ?_
  refine aops_nil ?_
  dsimp only [St.put]
  refine hK1 _ ?_
  refine aw_seq_k fun K2 hK2 => ?_
  refine aw_seq_k fun K3 hK3 => ?_
  refine aw_region ?_
  refine aops_n rfl (n_mv rfl (by constructor)) ?_
  first | refine aops_n rfl (n_len' rfl rfl (List.length_map _)) ?_ | refine aops_n rfl (n_len' rfl rfl rfl) ?_ | refine aops_n rfl (n_lenstr' rfl rfl) ?_ | refine aops_n rfl (n_len_arr rfl rfl) ?_ | refine aops_n rfl (n_len_own rfl rfl) ?_ | refine aops_n rfl (n_len_v rfl rfl (by omega)) ?_
  refine aops_n rfl (n_mv rfl (by constructor)) ?_
  first | refine aops_n rfl (n_len' rfl rfl (List.length_map _)) ?_ | refine aops_n rfl (n_len' rfl rfl rfl) ?_ | refine aops_n rfl (n_lenstr' rfl rfl) ?_ | refine aops_n rfl (n_len_arr rfl rfl) ?_ | refine aops_n rfl (n_len_own rfl rfl) ?_ | refine aops_n rfl (n_len_v rfl rfl (by omega)) ?_
  refine aops_n rfl (n_neq rfl rfl rfl) ?_
  refine aops_nil ?_
  dsimp only [St.put]
  refine hK3 _ ?_
  refine aw_cond rfl (fun hc => ?_) (fun hc => ?_)
  · try replace hc := of_decide_eq_true hc
    refine aw_seq_k fun K4 hK4 => ?_
    refine aw_region ?_
    refine aops_n rfl (n_as rfl (by constructor)) ?_
    refine aops_nil ?_
    dsimp only [St.put]
    refine hK4 _ ?_
    refine aw_ret ?_
    refine ends_1 rfl (by constructor) zN zS ?_
    exact vb (by
      have : a ≠ b := fun e => by subst e; simp at hc
      simp [this])
  · have hab := nd_f hc
    refine aw_skip ?_
    refine hK2 _ ?_
    refine aw_seq_k fun K5 hK5 => ?_
    refine aw_seq_k fun K6 hK6 => ?_
    refine aw_region ?_
    refine aops_n rfl (n_as rfl (by constructor)) ?_
    refine aops_nil ?_
    dsimp only [St.put]
    refine hK6 _ ?_
    refine aw_block ?_
    refine aw_wipe 6 ?_
    simp only [firsts, getA, Nat.reduceAdd, List.getD_cons_zero, List.getD_cons_succ, List.getD_nil, natBeq, Nat.reduceBEq, cond_true, cond_false]
    refine aw_forget (G) zX ?_
    dsimp only
    refine aw_loopD (X := Nat) (fun k => k ≤ a.length ∧ a.take k = b.take k) (fun k => a.length - k) (fun k => [(5, .v (.int .i64 (k : Int)))]) (fun k G' => G') 0 rfl ?_ ?_ (fun _ _ h => h) ?_ ?_ ?_
    · exact ⟨by simp, by simp⟩
    · exact zF
    · rintro k hI
      exact zL
    · exact fun _ _ _ _ h => .inl h
    · rintro k hI
      dsimp only at hI ⊢
      refine aw_seq_k fun K7 hK7 => ?_
      refine aw_seq_k fun K8 hK8 => ?_
      refine aw_region ?_
      refine aops_n rfl (n_mv rfl (by constructor)) ?_
      refine aops_n rfl (n_mv rfl (by constructor)) ?_
      first | refine aops_n rfl (n_len' rfl rfl (List.length_map _)) ?_ | refine aops_n rfl (n_len' rfl rfl rfl) ?_ | refine aops_n rfl (n_lenstr' rfl rfl) ?_ | refine aops_n rfl (n_len_arr rfl rfl) ?_ | refine aops_n rfl (n_len_own rfl rfl) ?_ | refine aops_n rfl (n_len_v rfl rfl (by omega)) ?_
      refine aops_n rfl (n_lss rfl rfl rfl) ?_
      refine aops_nil ?_
      dsimp only [St.put]
      refine hK8 _ ?_
      refine aw_cond rfl (fun hc => ?_) (fun hc => ?_)
      · replace hc := of_decide_eq_true hc
        obtain ⟨x, hx⟩ : ∃ x, a[k]? = some x := some_of_lt (by omega)
        obtain ⟨y, hy⟩ : ∃ y, b[k]? = some y := some_of_lt (by omega)
        refine aw_skip ?_
        refine hK7 _ ?_
        refine aw_seq_k fun K9 hK9 => ?_
        refine aw_block ?_
        refine aw_seq_k fun K10 hK10 => ?_
        refine aw_draw [(0, none), (1, none), (2, none), (3, none), (4, none), (5, none), (6, none), (7, none), (8, none)] (fun i => [].contains i) (fun i => [].contains i) (fun i => [0, 1, 2, 4, 5, 6, 8].contains i) [] (by kernel_rfl) (by kernel_rfl) ?_
        refine acan1_n rfl rfl rfl rfl (n_mv rfl (by constructor)) ?_
        refine acan1_n rfl rfl rfl rfl (n_mv rfl (by constructor)) ?_
        try dsimp only [St.put]
        first | refine acan1_n rfl rfl rfl rfl (n_indexAddr rfl rfl rfl rfl (map_get (by assumption)) (Enc.len _)) ?_ | refine acan1_n rfl rfl rfl rfl (n_indexAddr rfl rfl rfl rfl (by assumption) rfl) ?_ | refine acan1_n rfl rfl rfl rfl (n_indexAddr_arr1 rfl rfl rfl (by first | exact idx_succ _ | exact rfl) (by omega)) ?_ | refine acan1_n rfl rfl rfl rfl (n_indexAddr rfl rfl rfl (by omega) (map_get (by assumption)) (Enc.len _)) ?_
        try dsimp only [St.put]
        first | refine acan1_s rfl rfl rfl rfl (s_load rfl rfl) ?_ | refine acan1_s rfl rfl rfl rfl (s_load_agg' rfl rfl (Enc.len _)) ?_ | refine acan1_s rfl rfl rfl rfl (s_load_agg' rfl rfl rfl) ?_ | refine acan1_s rfl rfl rfl rfl (s_load_box rfl rfl zG (by simp) (by first | rfl | assumption)) ?_ | refine acan1_s rfl rfl rfl rfl (s_load_box_all rfl rfl zG (by simp) (by rfl)) ?_ | refine acan1_s rfl rfl rfl rfl (s_load_box_agg rfl rfl zG (by simp) (by simp)) ?_ | refine acan1_s rfl rfl rfl rfl (s_load_own rfl rfl zG (by simp) (flatC_get (by assumption) rfl)) ?_ | refine acan1_s rfl rfl rfl rfl (s_load_own rfl rfl zG (by simp) (by assumption)) ?_ | refine acan1_s rfl rfl rfl rfl (s_load_own_row rfl rfl zG (by simp) rfl (by assumption) rfl (by decide)) ?_ | refine acan1_s rfl rfl rfl rfl (s_load_fact rfl rfl zG (by rfl)) ?_
        refine acan1_n rfl rfl rfl rfl (n_mv rfl (by constructor)) ?_
        refine acan1_n rfl rfl rfl rfl (n_mv rfl (by constructor)) ?_
        try dsimp only [St.put]
        first | refine acan1_n rfl rfl rfl rfl (n_indexAddr rfl rfl rfl rfl (map_get (by assumption)) (Enc.len _)) ?_ | refine acan1_n rfl rfl rfl rfl (n_indexAddr rfl rfl rfl rfl (by assumption) rfl) ?_ | refine acan1_n rfl rfl rfl rfl (n_indexAddr_arr1 rfl rfl rfl (by first | exact idx_succ _ | exact rfl) (by omega)) ?_ | refine acan1_n rfl rfl rfl rfl (n_indexAddr rfl rfl rfl (by omega) (map_get (by assumption)) (Enc.len _)) ?_
        try dsimp only [St.put]
        first | refine acan1_s rfl rfl rfl rfl (s_load rfl rfl) ?_ | refine acan1_s rfl rfl rfl rfl (s_load_agg' rfl rfl (Enc.len _)) ?_ | refine acan1_s rfl rfl rfl rfl (s_load_agg' rfl rfl rfl) ?_ | refine acan1_s rfl rfl rfl rfl (s_load_box rfl rfl zG (by simp) (by first | rfl | assumption)) ?_ | refine acan1_s rfl rfl rfl rfl (s_load_box_all rfl rfl zG (by simp) (by rfl)) ?_ | refine acan1_s rfl rfl rfl rfl (s_load_box_agg rfl rfl zG (by simp) (by simp)) ?_ | refine acan1_s rfl rfl rfl rfl (s_load_own rfl rfl zG (by simp) (flatC_get (by assumption) rfl)) ?_ | refine acan1_s rfl rfl rfl rfl (s_load_own rfl rfl zG (by simp) (by assumption)) ?_ | refine acan1_s rfl rfl rfl rfl (s_load_own_row rfl rfl zG (by simp) rfl (by assumption) rfl (by decide)) ?_ | refine acan1_s rfl rfl rfl rfl (s_load_fact rfl rfl zG (by rfl)) ?_
        refine acan1_n rfl rfl rfl rfl (n_strne rfl rfl rfl) ?_
        refine acan1_nil ?_
        dsimp only [St.put]
        refine hK10 _ ?_
        refine aw_cond rfl (fun hc => ?_) (fun hc => ?_)
        · try replace hc := of_decide_eq_true hc
          refine aw_seq_k fun K11 hK11 => ?_
          refine aw_region ?_
          refine aops_n rfl (n_as rfl (by constructor)) ?_
          refine aops_nil ?_
          dsimp only [St.put]
          refine hK11 _ ?_
          refine aw_ret ?_
          refine ends_1 rfl (by constructor) zN zS ?_
          exact vb (by
            have := ne_of_get hx hy (nd_t hc)
            simp [this])
        · have hxy := nd_f hc
          refine aw_skip ?_
          refine hK9 _ ?_
          refine aw_region ?_
          refine aops_n rfl (n_mv rfl (by constructor)) ?_
          first | refine aops_n rfl (n_add rfl rfl rfl (by omega)) ?_ | refine aops_n rfl (n_addw rfl rfl rfl) ?_
          refine aops_n rfl (n_as rfl (by constructor)) ?_
          refine aops_nil ?_
          dsimp only [St.put]
          exact ⟨k + 1, by omega, ⟨by omega, take_succ_eq hI.2 hx (hxy ▸ hy)⟩, ⟨⟨rfl, rfl⟩, zF, zB, zN, zX⟩⟩
      · try replace hc := of_decide_eq_false hc
        refine aw_exit ?_
        refine hK5 _ ?_
        refine aw_seq_k fun K12 hK12 => ?_
        refine aw_region ?_
        refine aops_n rfl (n_as rfl (by constructor)) ?_
        refine aops_nil ?_
        dsimp only [St.put]
        refine hK12 _ ?_
        refine aw_ret ?_
        refine ends_1 rfl (by constructor) zN zS ?_
        exact vb (by
          have h1 := hI.2
          rw [take_all (by omega), take_all (by omega)] at h1
          simp [h1])
end Go.Proofs.YtjjklfgpffgnfaaDoor
