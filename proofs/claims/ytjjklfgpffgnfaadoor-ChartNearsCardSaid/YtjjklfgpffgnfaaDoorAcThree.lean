/-
  Contracts of the reference's functions of layer 1: Same, Text, two.
-/
import Derived.Test.YtjjklfgpffgnfaaDoorAcTwo
namespace Go.Proofs.YtjjklfgpffgnfaaDoor
set_option maxRecDepth 10000
open Go.RowKit Go.AB
open Go.PB (Chap TextD PlaceD ReadingD CopyD WayD)

theorem Same_pure (a b : TextD) : Pure Tryd.prog 20 [textC a, textC b] (.v (.bool (decide (a = b)))) := by
  refine pure_of_body Tryd.func20 rfl (fun m => .v) fun G nx => ?_
  simp only [Tryd.ntmps20, List.length_cons, List.length_nil, Nat.reduceAdd, Nat.reduceSub]
  refine aw_lt fun hlt => ?_
  dsimp only at hlt
  refine aw_fit 0 (fun hf => ?_)
  replace hf := text_fit hf
  have hf0 := hf.len
  refine aw_seq_k fun K1 hK1 => ?_
  refine aw_region ?_
  try dsimp only [St.put]
  refine aops_e rfl (e_box rfl rfl (by simp) ?_)
  try dsimp only [St.put]
  refine aops_e rfl (e_box rfl rfl (by simp) ?_)
  refine aops_n rfl (n_as rfl (by constructor)) ?_
  refine aops_nil ?_
  dsimp only [St.put]
  refine hK1 _ ?_
  refine aw_seq_k fun K2 hK2 => ?_
  refine aw_seq_k fun K3 hK3 => ?_
  refine aw_region ?_
  refine aops_n rfl (n_fieldAddr' rfl rfl rfl) ?_
  try dsimp only [St.put]
  refine aops_s rfl (s_load rfl rfl) ?_
  refine aops_n rfl (n_len' rfl rfl (List.length_map _)) ?_
  refine aops_n rfl (n_fieldAddr' rfl rfl rfl) ?_
  try dsimp only [St.put]
  refine aops_s rfl (s_load rfl rfl) ?_
  refine aops_n rfl (n_len' rfl rfl (List.length_map _)) ?_
  refine aops_n rfl (n_neq rfl rfl rfl) ?_
  refine aops_nil ?_
  dsimp only [St.put]
  refine hK3 _ ?_
  refine aw_cond rfl (fun hc => ?_) (fun hc => ?_)
  · try replace hc := of_decide_eq_true hc
    refine aw_seq_k fun K4 hK4 => ?_
    refine aw_region ?_
    refine aops_n rfl (n_as rfl (by constructor)) ?_
    refine aops_nil ?_
    dsimp only [St.put]
    refine hK4 _ ?_
    refine aw_ret ?_
    refine ends_1 rfl (by constructor) zN zS ?_
    exact vb (by
      have : a ≠ b := fun e => by subst e; simp at hc
      simp [this])
  · have hl := nd_f hc
    refine aw_skip ?_
    refine hK2 _ ?_
    refine aw_seq_k fun K5 hK5 => ?_
    refine aw_seq_k fun K6 hK6 => ?_
    refine aw_region ?_
    refine aops_n rfl (n_as rfl (by constructor)) ?_
    refine aops_nil ?_
    dsimp only [St.put]
    refine hK6 _ ?_
    refine aw_block ?_
    refine aw_wipe 9 ?_
    simp only [firsts, getA, Nat.reduceAdd, List.getD_cons_zero, List.getD_cons_succ, List.getD_nil, natBeq, Nat.reduceBEq, cond_true, cond_false]
    refine aw_forget (G) zX ?_
    dsimp only
    refine aw_loopD (X := Nat) (fun k => k ≤ a.length ∧ a.take k = b.take k) (fun k => a.length - k) (fun k => [(5, .v (.int .i64 (k : Int))), (6, .any), (7, .any), (8, .any)]) (fun k G' => G') 0 rfl ?_ ?_ (fun _ _ h => h) ?_ ?_ ?_
    · exact ⟨by simp, by simp⟩
    · exact zF
    · rintro k hI
      exact zL
    · exact fun _ _ _ _ h => .inl h
    · rintro k hI
      dsimp only at hI ⊢
      refine aw_seq_k fun K7 hK7 => ?_
      refine aw_seq_k fun K8 hK8 => ?_
      refine aw_region ?_
      refine aops_n rfl (n_mv rfl (by constructor)) ?_
      refine aops_n rfl (n_fieldAddr' rfl rfl rfl) ?_
      try dsimp only [St.put]
      refine aops_s rfl (s_load rfl rfl) ?_
      refine aops_n rfl (n_len' rfl rfl (List.length_map _)) ?_
      refine aops_n rfl (n_lss rfl rfl rfl) ?_
      refine aops_nil ?_
      dsimp only [St.put]
      refine hK8 _ ?_
      refine aw_cond rfl (fun hc => ?_) (fun hc => ?_)
      · replace hc := of_decide_eq_true hc
        obtain ⟨x, hx⟩ : ∃ x, a[k]? = some x := some_of_lt (by omega)
        obtain ⟨y, hy⟩ : ∃ y, b[k]? = some y := some_of_lt (by omega)
        have hf1 := hf.lines x (mem_of_get hx)
        refine aw_skip ?_
        refine hK7 _ ?_
        refine aw_seq_k fun K9 hK9 => ?_
        refine aw_block ?_
        refine aw_seq_k fun K10 hK10 => ?_
        refine aw_draw [(0, none), (1, none), (2, none), (3, none), (4, none), (5, none), (6, none), (7, none), (8, none), (9, none), (10, some 11), (12, none), (13, none)] (fun i => [13].contains i) (fun i => [10, 11, 12, 13].contains i) (fun i => [0, 2, 3, 5, 7, 8].contains i) [] (by kernel_rfl) (by kernel_rfl) ?_
        refine acan1_n rfl rfl rfl rfl (n_fieldAddr' rfl rfl rfl) ?_
        try dsimp only [St.put]
        refine acan1_s rfl rfl rfl rfl (s_load rfl rfl) ?_
        refine acan1_n rfl rfl rfl rfl (n_mv rfl (by constructor)) ?_
        try dsimp only [St.put]
        refine acan1_n rfl rfl rfl rfl (n_indexAddr rfl rfl rfl rfl (map_get (by assumption)) (Enc.len _)) ?_
        try dsimp only [St.put]
        refine acan1_s rfl rfl rfl rfl (s_load_agg' rfl rfl (Enc.len _)) ?_
        refine acan1_n rfl rfl rfl rfl (n_fieldAddr' rfl rfl rfl) ?_
        try dsimp only [St.put]
        refine acan1_s rfl rfl rfl rfl (s_load rfl rfl) ?_
        refine acan1_n rfl rfl rfl rfl (n_mv rfl (by constructor)) ?_
        try dsimp only [St.put]
        refine acan1_n rfl rfl rfl rfl (n_indexAddr rfl rfl rfl rfl (map_get (by assumption)) (Enc.len _)) ?_
        try dsimp only [St.put]
        refine acan1_s rfl rfl rfl rfl (s_load_agg' rfl rfl (Enc.len _)) ?_
        refine acan1_two ?_
        refine acan2_allocs rfl rfl rfl rfl rfl rfl rfl rfl (by decide) (by simp) ?_
        try dsimp only [St.put]
        refine acan2_e rfl rfl rfl (e_store_all rfl rfl rfl zG rfl rfl (by rfl) ⟨zD, ?_⟩)
        try dsimp only [St.put]
        refine acan2_late rfl rfl rfl rfl (e_store_all rfl rfl rfl zG rfl rfl (by rfl) ?_)
        refine acan2_nil ?_
        dsimp only [St.put]
        refine hK10 _ ?_
        refine aw_commitD (i := 6) rfl zG (by first | exact List.cons_ne_nil _ _ | (simp; done) | (simp [putAt]; done)) ?_
        refine aw_commitD (i := 7) rfl zG (by first | exact List.cons_ne_nil _ _ | (simp; done) | (simp [putAt]; done)) ?_
        dsimp only
        refine aw_seq_k fun K11 hK11 => ?_
        refine aw_seq_k fun K12 hK12 => ?_
        refine aw_region ?_
        refine aops_n rfl (n_fieldAddr' rfl rfl rfl) ?_
        try dsimp only [St.put]
        refine aops_s rfl (s_load rfl rfl) ?_
        refine aops_n rfl (n_fieldAddr' rfl rfl rfl) ?_
        try dsimp only [St.put]
        refine aops_s rfl (s_load rfl rfl) ?_
        refine aops_n rfl (n_neq rfl rfl rfl) ?_
        refine aops_split (fun hs => ?_) (fun hs => ?_)
        · try replace hs := of_decide_eq_true hs
          refine aops_n rfl (n_mv rfl (by constructor)) ?_
          refine aops_skip rfl ?_
          refine aops_skip rfl ?_
          refine aops_skip rfl ?_
          refine aops_skip rfl ?_
          refine aops_skip rfl ?_
          refine aops_skip rfl ?_
          refine aops_skip rfl ?_
          refine aops_n rfl (n_pt rfl rfl (by constructor)) ?_
          refine aops_nil ?_
          dsimp only [St.put]
          refine hK12 _ ?_
          refine aw_cond rfl (fun _ => ?_) (fun h => by cases h)
          refine aw_seq_k fun K13 hK13 => ?_
          refine aw_region ?_
          refine aops_n rfl (n_as rfl (by constructor)) ?_
          refine aops_nil ?_
          dsimp only [St.put]
          refine hK13 _ ?_
          refine aw_ret ?_
          refine ends_1 rfl (by constructor) zN zS ?_
          exact vb (by
            have := ne_of_get hx hy (fun e => by subst e; simp_all)
            simp [this])
        · try replace hs := of_decide_eq_false hs
          refine aops_n rfl (n_mv rfl (by constructor)) ?_
          refine aops_n rfl (n_fieldAddr' rfl rfl rfl) ?_
          try dsimp only [St.put]
          refine aops_s rfl (s_load rfl rfl) ?_
          refine aops_n rfl (n_len' rfl rfl (List.length_map _)) ?_
          refine aops_n rfl (n_fieldAddr' rfl rfl rfl) ?_
          try dsimp only [St.put]
          refine aops_s rfl (s_load rfl rfl) ?_
          refine aops_n rfl (n_len' rfl rfl (List.length_map _)) ?_
          refine aops_n rfl (n_neq rfl rfl rfl) ?_
          refine aops_n rfl (n_pf rfl rfl (by constructor)) ?_
          refine aops_nil ?_
          dsimp only [St.put]
          refine hK12 _ ?_
          refine aw_cond rfl (fun hc => ?_) (fun hc => ?_)
          · try replace hc := of_decide_eq_true hc
            refine aw_seq_k fun K14 hK14 => ?_
            refine aw_region ?_
            refine aops_n rfl (n_as rfl (by constructor)) ?_
            refine aops_nil ?_
            dsimp only [St.put]
            refine hK14 _ ?_
            refine aw_ret ?_
            refine ends_1 rfl (by constructor) zN zS ?_
            exact vb (by
              have := ne_of_get hx hy (fun e => by subst e; simp_all)
              simp [this])
          · have hid := nd_f hs
            have hll := nd_f hc
            refine aw_skip ?_
            refine hK11 _ ?_
            refine aw_seq_k fun K15 hK15 => ?_
            refine aw_region ?_
            refine aops_n rfl (n_as rfl (by constructor)) ?_
            refine aops_nil ?_
            dsimp only [St.put]
            refine hK15 _ ?_
            refine aw_block ?_
            refine aw_wipe 9 ?_
            simp only [firsts, getA, Nat.reduceAdd, List.getD_cons_zero, List.getD_cons_succ, List.getD_nil, natBeq, Nat.reduceBEq, cond_true, cond_false]
            refine aw_forget (G) zX ?_
            dsimp only
            refine aw_loopD (X := Nat) (fun n => n ≤ x.lines.length ∧ x.lines.take n = y.lines.take n) (fun n => x.lines.length - n) (fun n => [(8, .v (.int .i64 (n : Int)))]) (fun n G' => G') 0 rfl ?_ ?_ (fun _ _ h => h) ?_ ?_ ?_
            · exact ⟨by simp, by simp⟩
            · exact zF
            · rintro n hI
              exact zL
            · exact fun _ _ _ _ h => .inl h
            · rintro n hJ
              dsimp only at hJ ⊢
              refine aw_seq_k fun K16 hK16 => ?_
              refine aw_seq_k fun K17 hK17 => ?_
              refine aw_region ?_
              refine aops_n rfl (n_mv rfl (by constructor)) ?_
              refine aops_n rfl (n_fieldAddr' rfl rfl rfl) ?_
              try dsimp only [St.put]
              refine aops_s rfl (s_load rfl rfl) ?_
              refine aops_n rfl (n_len' rfl rfl (List.length_map _)) ?_
              refine aops_n rfl (n_lss rfl rfl rfl) ?_
              refine aops_nil ?_
              dsimp only [St.put]
              refine hK17 _ ?_
              refine aw_cond rfl (fun hc => ?_) (fun hc => ?_)
              · replace hc := of_decide_eq_true hc
                obtain ⟨lx, hlx⟩ : ∃ l, x.lines[n]? = some l := some_of_lt (by omega)
                obtain ⟨ly, hly⟩ : ∃ l, y.lines[n]? = some l := some_of_lt (by omega)
                refine aw_skip ?_
                refine hK16 _ ?_
                refine aw_seq_k fun K18 hK18 => ?_
                refine aw_block ?_
                refine aw_seq_k fun K19 hK19 => ?_
                refine aw_draw [(0, none), (1, none), (2, none), (3, none), (4, none), (5, none), (6, none), (7, none), (8, none), (9, none), (10, none), (11, none)] (fun i => [10].contains i) (fun i => [10].contains i) (fun i => [0, 2, 3, 5, 7, 8, 11].contains i) [] (by kernel_rfl) (by kernel_rfl) ?_
                refine acan1_n rfl rfl rfl rfl (n_fieldAddr' rfl rfl rfl) ?_
                try dsimp only [St.put]
                refine acan1_s rfl rfl rfl rfl (s_load rfl rfl) ?_
                refine acan1_n rfl rfl rfl rfl (n_mv rfl (by constructor)) ?_
                try dsimp only [St.put]
                refine acan1_n rfl rfl rfl rfl (n_indexAddr rfl rfl rfl rfl (map_get (by assumption)) (Enc.len _)) ?_
                try dsimp only [St.put]
                refine acan1_s rfl rfl rfl rfl (s_load rfl rfl) ?_
                refine acan1_n rfl rfl rfl rfl (n_fieldAddr' rfl rfl rfl) ?_
                try dsimp only [St.put]
                refine acan1_s rfl rfl rfl rfl (s_load rfl rfl) ?_
                refine acan1_n rfl rfl rfl rfl (n_mv rfl (by constructor)) ?_
                try dsimp only [St.put]
                refine acan1_n rfl rfl rfl rfl (n_indexAddr rfl rfl rfl rfl (map_get (by assumption)) (Enc.len _)) ?_
                try dsimp only [St.put]
                refine acan1_s rfl rfl rfl rfl (s_load rfl rfl) ?_
                refine acan1_two ?_
                try dsimp only [St.put]
                refine acan2_late rfl rfl rfl rfl (e_call_pure rfl rfl rfl (SameWords_pure _ _) ?_)
                refine acan2_n rfl rfl rfl rfl (n_not rfl rfl) ?_
                refine acan2_nil ?_
                dsimp only [St.put]
                refine hK19 _ ?_
                refine aw_cond rfl (fun hc => ?_) (fun hc => ?_)
                · try replace hc := of_decide_eq_true hc
                  refine aw_seq_k fun K20 hK20 => ?_
                  refine aw_region ?_
                  refine aops_n rfl (n_as rfl (by constructor)) ?_
                  refine aops_nil ?_
                  dsimp only [St.put]
                  refine hK20 _ ?_
                  refine aw_ret ?_
                  refine ends_1 rfl (by constructor) zN zS ?_
                  exact vb (by
                    have h1 := ne_of_get hlx hly (by simpa using hc)
                    have := ne_of_get hx hy (fun e => by subst e; exact h1 rfl)
                    simp [this])
                · try replace hc := of_decide_eq_false hc
                  refine aw_skip ?_
                  refine hK18 _ ?_
                  refine aw_region ?_
                  refine aops_n rfl (n_mv rfl (by constructor)) ?_
                  refine aops_n rfl (n_add rfl rfl rfl (by omega)) ?_
                  refine aops_n rfl (n_as rfl (by constructor)) ?_
                  refine aops_nil ?_
                  dsimp only [St.put]
                  exact ⟨n + 1, by omega, ⟨by omega, take_succ_eq hJ.2 hlx ((by simpa using hc : lx = ly) ▸ hly)⟩, ⟨⟨rfl, rfl⟩, zF, zB, zN, zX⟩⟩
              · try replace hc := of_decide_eq_false hc
                refine aw_exit ?_
                refine hK9 _ ?_
                refine aw_region ?_
                refine aops_n rfl (n_mv rfl (by constructor)) ?_
                refine aops_n rfl (n_add rfl rfl rfl (by omega)) ?_
                refine aops_n rfl (n_as rfl (by constructor)) ?_
                refine aops_nil ?_
                dsimp only [St.put]
                exact ⟨k + 1, by omega, ⟨by omega, take_succ_eq hI.2 hx ((show x = y by
                  have h1 := hJ.2
                  rw [take_all (by omega), take_all (by omega)] at h1
                  cases x; cases y; simp_all) ▸ hy)⟩, ⟨⟨rfl, rfl⟩, zF, zB, zN, zX⟩⟩
      · try replace hc := of_decide_eq_false hc
        refine aw_exit ?_
        refine hK5 _ ?_
        refine aw_seq_k fun K21 hK21 => ?_
        refine aw_region ?_
        refine aops_n rfl (n_as rfl (by constructor)) ?_
        refine aops_nil ?_
        dsimp only [St.put]
        refine hK21 _ ?_
        refine aw_ret ?_
        refine ends_1 rfl (by constructor) zN zS ?_
        exact vb (by
          have h1 := hI.2
          rw [take_all (by omega), take_all (by omega)] at h1
          simp [h1])
end Go.Proofs.YtjjklfgpffgnfaaDoor
