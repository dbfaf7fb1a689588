/-
  Contracts of the reference's functions of layer 1: Text, two, Twin.
-/
import Derived.Test.YtjjklfgpffgnfaaDoorAcThree
namespace Go.Proofs.YtjjklfgpffgnfaaDoor
set_option maxRecDepth 10000
open Go.RowKit Go.AB
open Go.PB (Chap TextD PlaceD ReadingD CopyD WayD)

theorem Text_pure (t : TextD) : Pure Tryd.prog 93 [textC t] (.v (.bool (textB t))) := by
  refine pure_of_body Tryd.func93 rfl (fun m => .v) fun G nx => ?_
  simp only [Tryd.ntmps93, List.length_cons, List.length_nil, Nat.reduceAdd, Nat.reduceSub]
  refine aw_lt fun hlt => ?_
  dsimp only at hlt
  refine aw_fit 0 (fun hf => ?_)
  replace hf := text_fit hf
  have hf0 := hf.len
  refine aw_seq_k fun K1 hK1 => ?_
  refine aw_region ?_
  try dsimp only [St.put]
  refine aops_e rfl (e_box rfl rfl (by simp) ?_)
  refine aops_n rfl (n_as rfl (by constructor)) ?_
  refine aops_nil ?_
  dsimp only [St.put]
  refine hK1 _ ?_
  refine aw_seq_k fun K2 hK2 => ?_
  refine aw_seq_k fun K3 hK3 => ?_
  refine aw_region ?_
  refine aops_n rfl (n_fieldAddr' rfl rfl rfl) ?_
  try dsimp only [St.put]
  refine aops_s rfl (s_load rfl rfl) ?_
  refine aops_n rfl (n_len' rfl rfl (List.length_map _)) ?_
  try dsimp only [St.put]
  refine aops_e rfl (e_call_pure rfl rfl rfl (within_pure _ _ _) ?_)
  refine aops_n rfl (n_not rfl rfl) ?_
  refine aops_nil ?_
  dsimp only [St.put]
  refine hK3 _ ?_
  refine aw_cond rfl (fun hc => ?_) (fun hc => ?_)
  · try replace hc := of_decide_eq_true hc
    refine aw_seq_k fun K4 hK4 => ?_
    refine aw_region ?_
    refine aops_n rfl (n_as rfl (by constructor)) ?_
    refine aops_nil ?_
    dsimp only [St.put]
    refine hK4 _ ?_
    refine aw_ret ?_
    refine ends_1 rfl (by constructor) zN zS ?_
    exact vb (by simp at hc; simp [textB, hc])
  · have hc0 : inB t.length 1 6 = true := by simpa using hc
    clear hc
    refine aw_skip ?_
    refine hK2 _ ?_
    refine aw_seq_k fun K5 hK5 => ?_
    refine aw_seq_k fun K6 hK6 => ?_
    refine aw_region ?_
    refine aops_n rfl (n_as rfl (by constructor)) ?_
    refine aops_nil ?_
    dsimp only [St.put]
    refine hK6 _ ?_
    refine aw_block ?_
    refine aw_wipe 8 ?_
    simp only [firsts, getA, Nat.reduceAdd, List.getD_cons_zero, List.getD_cons_succ, List.getD_nil, natBeq, Nat.reduceBEq, cond_true, cond_false]
    refine aw_forget (G) zX ?_
    dsimp only
    refine aw_loopD (X := Nat) (fun i => i ≤ t.length ∧ (t.take i).all chapB = true ∧ ((t.take i).map (·.id)).Nodup) (fun i => t.length - i) (fun i => [(3, .v (.int .i64 (i : Int))), (4, .any), (5, .any), (6, .any), (7, .any)]) (fun i G' => G') 0 rfl ?_ ?_ (fun _ _ h => h) ?_ ?_ ?_
    · exact ⟨by simp, by simp, by simp⟩
    · exact zF
    · rintro i hI
      exact zL
    · exact fun _ _ _ _ h => .inl h
    · rintro i hI
      dsimp only at hI ⊢
      refine aw_seq_k fun K7 hK7 => ?_
      refine aw_seq_k fun K8 hK8 => ?_
      refine aw_region ?_
      refine aops_n rfl (n_mv rfl (by constructor)) ?_
      refine aops_n rfl (n_fieldAddr' rfl rfl rfl) ?_
      try dsimp only [St.put]
      refine aops_s rfl (s_load rfl rfl) ?_
      refine aops_n rfl (n_len' rfl rfl (List.length_map _)) ?_
      refine aops_n rfl (n_lss rfl rfl rfl) ?_
      refine aops_nil ?_
      dsimp only [St.put]
      refine hK8 _ ?_
      refine aw_cond rfl (fun hc => ?_) (fun hc => ?_)
      · replace hc := of_decide_eq_true hc
        obtain ⟨c, hx⟩ : ∃ x, t[i]? = some x := some_of_lt (by omega)
        have hf1 := hf.lines c (mem_of_get hx)
        refine aw_skip ?_
        refine hK7 _ ?_
        refine aw_seq_k fun K9 hK9 => ?_
        refine aw_block ?_
        refine aw_seq_k fun K10 hK10 => ?_
        refine aw_region ?_
        refine aops_n rfl (n_fieldAddr' rfl rfl rfl) ?_
        try dsimp only [St.put]
        refine aops_s rfl (s_load rfl rfl) ?_
        refine aops_n rfl (n_mv rfl (by constructor)) ?_
        try dsimp only [St.put]
        refine aops_n rfl (n_indexAddr rfl rfl rfl rfl (map_get (by assumption)) (Enc.len _)) ?_
        try dsimp only [St.put]
        refine aops_s rfl (s_load_agg' rfl rfl (Enc.len _)) ?_
        try dsimp only [St.put]
        refine aops_e rfl (e_allocC rfl ?_)
        try dsimp only [St.put]
        refine aops_e rfl (e_store_all rfl rfl rfl zG rfl rfl (by rfl) ?_)
        refine aops_nil ?_
        dsimp only [St.put]
        refine hK10 _ ?_
        refine aw_commitD (i := 4) rfl zG (by first | exact List.cons_ne_nil _ _ | (simp; done) | (simp [putAt]; done)) ?_
        dsimp only
        refine aw_seq_k fun K11 hK11 => ?_
        refine aw_seq_k fun K12 hK12 => ?_
        refine aw_region ?_
        refine aops_n rfl (n_fieldAddr' rfl rfl rfl) ?_
        try dsimp only [St.put]
        refine aops_s rfl (s_load rfl rfl) ?_
        try dsimp only [St.put]
        refine aops_e rfl (e_call_pure rfl rfl rfl (within_pure _ _ _) ?_)
        refine aops_n rfl (n_not rfl rfl) ?_
        refine aops_n rfl (n_mv rfl (by constructor)) ?_
        refine aops_split (fun hs => ?_) (fun hs => ?_)
        · try replace hs := of_decide_eq_true hs
          refine aops_skip rfl ?_
          refine aops_skip rfl ?_
          refine aops_skip rfl ?_
          refine aops_skip rfl ?_
          refine aops_skip rfl ?_
          refine aops_n rfl (n_pt rfl rfl (by constructor)) ?_
          refine aops_nil ?_
          dsimp only [St.put]
          refine hK12 _ ?_
          refine aw_cond rfl (fun _ => ?_) (fun h => by cases h)
          skip
          refine aw_seq_k fun K13 hK13 => ?_
          refine aw_region ?_
          refine aops_n rfl (n_as rfl (by constructor)) ?_
          refine aops_nil ?_
          dsimp only [St.put]
          refine hK13 _ ?_
          refine aw_ret ?_
          refine ends_1 rfl (by constructor) zN zS ?_
          exact vb (by
            have : t.all chapB = false := all_false_of hx (by simp_all [chapB])
            simp [textB, this])
        · try replace hs := of_decide_eq_false hs
          refine aops_n rfl (n_fieldAddr' rfl rfl rfl) ?_
          try dsimp only [St.put]
          refine aops_s rfl (s_load rfl rfl) ?_
          refine aops_n rfl (n_len' rfl rfl (List.length_map _)) ?_
          try dsimp only [St.put]
          refine aops_e rfl (e_call_pure rfl rfl rfl (within_pure _ _ _) ?_)
          refine aops_n rfl (n_not rfl rfl) ?_
          refine aops_n rfl (n_pf rfl rfl (by constructor)) ?_
          refine aops_nil ?_
          dsimp only [St.put]
          refine hK12 _ ?_
          refine aw_cond rfl (fun hc => ?_) (fun hc => ?_)
          · skip
            refine aw_seq_k fun K14 hK14 => ?_
            refine aw_region ?_
            refine aops_n rfl (n_as rfl (by constructor)) ?_
            refine aops_nil ?_
            dsimp only [St.put]
            refine hK14 _ ?_
            refine aw_ret ?_
            refine ends_1 rfl (by constructor) zN zS ?_
            exact vb (by
              have : t.all chapB = false := all_false_of hx (by simp_all [chapB])
              simp [textB, this])
          · have hid : inB c.id 0 9999 = true := by simpa using hs
            have hln : inB c.lines.length 1 10 = true := by simpa using hc
            refine aw_skip ?_
            refine hK11 _ ?_
            refine aw_seq_k fun K15 hK15 => ?_
            refine aw_seq_k fun K16 hK16 => ?_
            refine aw_region ?_
            refine aops_n rfl (n_as rfl (by constructor)) ?_
            refine aops_nil ?_
            dsimp only [St.put]
            refine hK16 _ ?_
            refine aw_block ?_
            refine aw_wipe 8 ?_
            simp only [firsts, getA, Nat.reduceAdd, List.getD_cons_zero, List.getD_cons_succ, List.getD_nil, natBeq, Nat.reduceBEq, cond_true, cond_false]
            refine aw_forget (G) zX ?_
            dsimp only
            refine aw_loopD (X := Nat) (fun k => k ≤ i ∧ ((t.take i).take k).any (fun d => decide (d.id = c.id)) = false) (fun k => i - k) (fun k => [(5, .v (.int .i64 (k : Int))), (6, .any), (7, .any)]) (fun k G' => G') 0 rfl ?_ ?_ (fun _ _ h => h) ?_ ?_ ?_
            · exact ⟨by simp, by simp⟩
            · exact zF
            · rintro k hI
              exact zL
            · exact fun _ _ _ _ h => .inl h
            · rintro k hJ
              dsimp only at hJ ⊢
              refine aw_seq_k fun K17 hK17 => ?_
              refine aw_seq_k fun K18 hK18 => ?_
              refine aw_region ?_
              refine aops_n rfl (n_mv rfl (by constructor)) ?_
              refine aops_n rfl (n_mv rfl (by constructor)) ?_
              refine aops_n rfl (n_lss rfl rfl rfl) ?_
              refine aops_nil ?_
              dsimp only [St.put]
              refine hK18 _ ?_
              refine aw_cond rfl (fun hc => ?_) (fun hc => ?_)
              · replace hc := of_decide_eq_true hc
                obtain ⟨d, hd0⟩ : ∃ x, t[k]? = some x := some_of_lt (by omega)
                have hd : (t.take i)[k]? = some d := by rw [List.getElem?_take, if_pos (by omega)]; exact hd0
                refine aw_skip ?_
                refine hK17 _ ?_
                refine aw_seq_k fun K19 hK19 => ?_
                refine aw_block ?_
                refine aw_seq_k fun K20 hK20 => ?_
                refine aw_draw [(0, none), (1, none), (2, none), (3, none), (4, none), (5, none), (6, none), (7, none), (8, none)] (fun i => [].contains i) (fun i => [].contains i) (fun i => [0, 2, 3, 4, 6, 8].contains i) [] (by kernel_rfl) (by kernel_rfl) ?_
                refine acan1_n rfl rfl rfl rfl (n_fieldAddr' rfl rfl rfl) ?_
                try dsimp only [St.put]
                refine acan1_s rfl rfl rfl rfl (s_load rfl rfl) ?_
                refine acan1_n rfl rfl rfl rfl (n_mv rfl (by constructor)) ?_
                try dsimp only [St.put]
                refine acan1_n rfl rfl rfl rfl (n_indexAddr rfl rfl rfl rfl (map_get (by assumption)) (Enc.len _)) ?_
                refine acan1_n rfl rfl rfl rfl (n_fieldAddr' rfl rfl rfl) ?_
                try dsimp only [St.put]
                refine acan1_s rfl rfl rfl rfl (s_load rfl rfl) ?_
                refine acan1_n rfl rfl rfl rfl (n_fieldAddr' rfl rfl rfl) ?_
                try dsimp only [St.put]
                refine acan1_s rfl rfl rfl rfl (s_load rfl rfl) ?_
                refine acan1_n rfl rfl rfl rfl (n_eql rfl rfl rfl) ?_
                refine acan1_nil ?_
                dsimp only [St.put]
                refine hK20 _ ?_
                refine aw_cond rfl (fun hc => ?_) (fun hc => ?_)
                · skip
                  refine aw_seq_k fun K21 hK21 => ?_
                  refine aw_region ?_
                  refine aops_n rfl (n_as rfl (by constructor)) ?_
                  refine aops_nil ?_
                  dsimp only [St.put]
                  refine hK21 _ ?_
                  refine aw_ret ?_
                  refine ends_1 rfl (by constructor) zN zS ?_
                  exact vb (by
                    have := not_nodup_map (f := (·.id)) hd0 hx (by omega) (by simpa using hc)
                    simp [textB, this])
                · skip
                  refine aw_skip ?_
                  refine hK19 _ ?_
                  refine aw_region ?_
                  refine aops_n rfl (n_mv rfl (by constructor)) ?_
                  refine aops_n rfl (n_add rfl rfl rfl (by omega)) ?_
                  refine aops_n rfl (n_as rfl (by constructor)) ?_
                  refine aops_nil ?_
                  dsimp only [St.put]
                  exact ⟨k + 1, by omega, ⟨by omega, by rw [any_take hd, hJ.2]; simpa using hc⟩, ⟨⟨rfl, rfl⟩, zF, zB, zN, zX⟩⟩
              · try replace hc := of_decide_eq_false hc
                refine aw_exit ?_
                refine hK15 _ ?_
                refine aw_seq_k fun K22 hK22 => ?_
                refine aw_region ?_
                refine aops_n rfl (n_as rfl (by constructor)) ?_
                refine aops_nil ?_
                dsimp only [St.put]
                refine hK22 _ ?_
                refine aw_block ?_
                refine aw_wipe 8 ?_
                simp only [firsts, getA, Nat.reduceAdd, List.getD_cons_zero, List.getD_cons_succ, List.getD_nil, natBeq, Nat.reduceBEq, cond_true, cond_false]
                refine aw_forget (G) zX ?_
                dsimp only
                refine aw_loopD (X := Nat) (fun n => n ≤ c.lines.length ∧ (c.lines.take n).all lineB = true) (fun n => c.lines.length - n) (fun n => [(6, .v (.int .i64 (n : Int))), (7, .any)]) (fun n G' => G') 0 rfl ?_ ?_ (fun _ _ h => h) ?_ ?_ ?_
                · exact ⟨by simp, by simp⟩
                · exact zF
                · rintro n hI
                  exact zL
                · exact fun _ _ _ _ h => .inl h
                · rintro n hL
                  dsimp only at hL ⊢
                  refine aw_seq_k fun K23 hK23 => ?_
                  refine aw_seq_k fun K24 hK24 => ?_
                  refine aw_region ?_
                  refine aops_n rfl (n_mv rfl (by constructor)) ?_
                  refine aops_n rfl (n_fieldAddr' rfl rfl rfl) ?_
                  try dsimp only [St.put]
                  refine aops_s rfl (s_load rfl rfl) ?_
                  refine aops_n rfl (n_len' rfl rfl (List.length_map _)) ?_
                  refine aops_n rfl (n_lss rfl rfl rfl) ?_
                  refine aops_nil ?_
                  dsimp only [St.put]
                  refine hK24 _ ?_
                  refine aw_cond rfl (fun hc => ?_) (fun hc => ?_)
                  · replace hc := of_decide_eq_true hc
                    obtain ⟨l, hl⟩ : ∃ x, c.lines[n]? = some x := some_of_lt (by omega)
                    have hf2 := hf.words c (mem_of_get hx) l (mem_of_get hl)
                    refine aw_skip ?_
                    refine hK23 _ ?_
                    refine aw_seq_k fun K25 hK25 => ?_
                    refine aw_block ?_
                    refine aw_seq_k fun K26 hK26 => ?_
                    refine aw_seq_k fun K27 hK27 => ?_
                    refine aw_region ?_
                    refine aops_n rfl (n_fieldAddr' rfl rfl rfl) ?_
                    try dsimp only [St.put]
                    refine aops_s rfl (s_load rfl rfl) ?_
                    refine aops_n rfl (n_mv rfl (by constructor)) ?_
                    try dsimp only [St.put]
                    refine aops_n rfl (n_indexAddr rfl rfl rfl rfl (map_get (by assumption)) (Enc.len _)) ?_
                    try dsimp only [St.put]
                    refine aops_s rfl (s_load rfl rfl) ?_
                    refine aops_n rfl (n_len' rfl rfl (List.length_map _)) ?_
                    try dsimp only [St.put]
                    refine aops_e rfl (e_call_pure rfl rfl rfl (within_pure _ _ _) ?_)
                    refine aops_n rfl (n_not rfl rfl) ?_
                    refine aops_nil ?_
                    dsimp only [St.put]
                    refine hK27 _ ?_
                    refine aw_cond rfl (fun hc => ?_) (fun hc => ?_)
                    · skip
                      refine aw_seq_k fun K28 hK28 => ?_
                      refine aw_region ?_
                      refine aops_n rfl (n_as rfl (by constructor)) ?_
                      refine aops_nil ?_
                      dsimp only [St.put]
                      refine hK28 _ ?_
                      refine aw_ret ?_
                      refine ends_1 rfl (by constructor) zN zS ?_
                      exact vb (by
                        have h1 : c.lines.all lineB = false := all_false_of hl (by simp_all [lineB])
                        have : t.all chapB = false := all_false_of hx (by simp [chapB, h1])
                        simp [textB, this])
                    · have hll : inB l.length 1 10 = true := by simpa using hc
                      refine aw_skip ?_
                      refine hK26 _ ?_
                      refine aw_seq_k fun K29 hK29 => ?_
                      refine aw_region ?_
                      refine aops_n rfl (n_as rfl (by constructor)) ?_
                      refine aops_nil ?_
                      dsimp only [St.put]
                      refine hK29 _ ?_
                      refine aw_block ?_
                      refine aw_wipe 8 ?_
                      simp only [firsts, getA, Nat.reduceAdd, List.getD_cons_zero, List.getD_cons_succ, List.getD_nil, natBeq, Nat.reduceBEq, cond_true, cond_false]
                      refine aw_forget (G) zX ?_
                      dsimp only
                      refine aw_loopD (X := Nat) (fun m => m ≤ l.length ∧ (l.take m).all wordB = true) (fun m => l.length - m) (fun m => [(7, .v (.int .i64 (m : Int)))]) (fun m G' => G') 0 rfl ?_ ?_ (fun _ _ h => h) ?_ ?_ ?_
                      · exact ⟨by simp, by simp⟩
                      · exact zF
                      · rintro m hI
                        exact zL
                      · exact fun _ _ _ _ h => .inl h
                      · rintro m hM
                        dsimp only at hM ⊢
                        refine aw_seq_k fun K30 hK30 => ?_
                        refine aw_seq_k fun K31 hK31 => ?_
                        refine aw_region ?_
                        refine aops_n rfl (n_mv rfl (by constructor)) ?_
                        refine aops_n rfl (n_fieldAddr' rfl rfl rfl) ?_
                        try dsimp only [St.put]
                        refine aops_s rfl (s_load rfl rfl) ?_
                        refine aops_n rfl (n_mv rfl (by constructor)) ?_
                        try dsimp only [St.put]
                        refine aops_n rfl (n_indexAddr rfl rfl rfl rfl (map_get (by assumption)) (Enc.len _)) ?_
                        try dsimp only [St.put]
                        refine aops_s rfl (s_load rfl rfl) ?_
                        refine aops_n rfl (n_len' rfl rfl (List.length_map _)) ?_
                        refine aops_n rfl (n_lss rfl rfl rfl) ?_
                        refine aops_nil ?_
                        dsimp only [St.put]
                        refine hK31 _ ?_
                        refine aw_cond rfl (fun hc => ?_) (fun hc => ?_)
                        · replace hc := of_decide_eq_true hc
                          obtain ⟨s, hs'⟩ : ∃ x, l[m]? = some x := some_of_lt (by omega)
                          refine aw_skip ?_
                          refine hK30 _ ?_
                          refine aw_seq_k fun K32 hK32 => ?_
                          refine aw_block ?_
                          refine aw_seq_k fun K33 hK33 => ?_
                          refine aw_region ?_
                          refine aops_n rfl (n_fieldAddr' rfl rfl rfl) ?_
                          try dsimp only [St.put]
                          refine aops_s rfl (s_load rfl rfl) ?_
                          refine aops_n rfl (n_mv rfl (by constructor)) ?_
                          try dsimp only [St.put]
                          refine aops_n rfl (n_indexAddr rfl rfl rfl rfl (map_get (by assumption)) (Enc.len _)) ?_
                          try dsimp only [St.put]
                          refine aops_s rfl (s_load rfl rfl) ?_
                          refine aops_n rfl (n_mv rfl (by constructor)) ?_
                          try dsimp only [St.put]
                          refine aops_n rfl (n_indexAddr rfl rfl rfl rfl (map_get (by assumption)) (Enc.len _)) ?_
                          try dsimp only [St.put]
                          refine aops_s rfl (s_load rfl rfl) ?_
                          try dsimp only [St.put]
                          refine aops_e rfl (e_call_pure rfl rfl rfl (Word_pure _) ?_)
                          refine aops_n rfl (n_not rfl rfl) ?_
                          refine aops_nil ?_
                          dsimp only [St.put]
                          refine hK33 _ ?_
                          refine aw_cond rfl (fun hc => ?_) (fun hc => ?_)
                          · skip
                            refine aw_seq_k fun K34 hK34 => ?_
                            refine aw_region ?_
                            refine aops_n rfl (n_as rfl (by constructor)) ?_
                            refine aops_nil ?_
                            dsimp only [St.put]
                            refine hK34 _ ?_
                            refine aw_ret ?_
                            refine ends_1 rfl (by constructor) zN zS ?_
                            exact vb (by
                              have h2 : l.all wordB = false := all_false_of hs' (by simpa using hc)
                              have h1 : c.lines.all lineB = false := all_false_of hl (by simp [lineB, h2])
                              have : t.all chapB = false := all_false_of hx (by simp [chapB, h1])
                              simp [textB, this])
                          · skip
                            refine aw_skip ?_
                            refine hK32 _ ?_
                            refine aw_region ?_
                            refine aops_n rfl (n_mv rfl (by constructor)) ?_
                            refine aops_n rfl (n_add rfl rfl rfl (by omega)) ?_
                            refine aops_n rfl (n_as rfl (by constructor)) ?_
                            refine aops_nil ?_
                            dsimp only [St.put]
                            exact ⟨m + 1, by omega, ⟨by omega, by rw [all_take hs', hM.2]; simpa using hc⟩, ⟨⟨rfl, rfl⟩, zF, zB, zN, zX⟩⟩
                        · try replace hc := of_decide_eq_false hc
                          refine aw_exit ?_
                          refine hK25 _ ?_
                          refine aw_region ?_
                          refine aops_n rfl (n_mv rfl (by constructor)) ?_
                          refine aops_n rfl (n_add rfl rfl rfl (by omega)) ?_
                          refine aops_n rfl (n_as rfl (by constructor)) ?_
                          refine aops_nil ?_
                          dsimp only [St.put]
                          exact ⟨n + 1, by omega, ⟨by omega, by
                              rw [all_take hl, hL.2]
                              have h1 := hM.2
                              rw [take_all (by omega)] at h1
                              simp [lineB, h1, hll]⟩, ⟨⟨rfl, rfl⟩, zF, zB, zN, zX⟩⟩
                  · try replace hc := of_decide_eq_false hc
                    refine aw_exit ?_
                    refine hK9 _ ?_
                    refine aw_region ?_
                    refine aops_n rfl (n_mv rfl (by constructor)) ?_
                    refine aops_n rfl (n_add rfl rfl rfl (by omega)) ?_
                    refine aops_n rfl (n_as rfl (by constructor)) ?_
                    refine aops_nil ?_
                    dsimp only [St.put]
                    exact ⟨i + 1, by omega, ⟨by omega, by
                        rw [all_take hx, hI.2.1]
                        have h1 := hL.2
                        rw [take_all (by omega)] at h1
                        simp [chapB, h1, hid, hln], by
                        rw [map_take_snoc hx]
                        exact nodup_snoc hI.2.2 (by have h1 := hJ.2; rw [List.take_take, show min k i = i by omega] at h1; exact not_mem_take h1)⟩, ⟨⟨rfl, rfl⟩, zF, zB, zN, zX⟩⟩
      · try replace hc := of_decide_eq_false hc
        refine aw_exit ?_
        refine hK5 _ ?_
        refine aw_seq_k fun K35 hK35 => ?_
        refine aw_region ?_
        refine aops_n rfl (n_as rfl (by constructor)) ?_
        refine aops_nil ?_
        dsimp only [St.put]
        refine hK35 _ ?_
        refine aw_ret ?_
        refine ends_1 rfl (by constructor) zN zS ?_
        exact vb (by
          have h1 := hI.2
          rw [take_all (by omega)] at h1
          simp [textB, hc0, h1.1, h1.2])

end Go.Proofs.YtjjklfgpffgnfaaDoor
