/-
  Contracts of the reference's functions of layer 1: comparisons, validity.
-/
import Derived.Test.YtjjklfgpffgnfaaDoorAcOne
import Derived.Test.YtjjklfgpffgnfaaDoorAcEq
namespace Go.Proofs.YtjjklfgpffgnfaaDoor
set_option maxRecDepth 10000
open Go.RowKit Go.AB
open Go.PB (Chap TextD PlaceD ReadingD CopyD WayD)



theorem Great_pure (t : TextD) : Pure Tryd.prog 39 [textC t] (.v (.bool (greatB t))) := by
  refine pure_of_body Tryd.func39 rfl (fun m => .v) fun G nx => ?_
  simp only [Tryd.ntmps39, List.length_cons, List.length_nil, Nat.reduceAdd, Nat.reduceSub]
  refine aw_lt fun hlt => ?_
  dsimp only at hlt
  refine aw_fit 0 (fun hf => ?_)
  replace hf := text_fit hf
  refine aw_seq_k fun K1 hK1 => ?_
  refine aw_region ?_
  try dsimp only [St.put]
  refine aops_e rfl (e_box rfl rfl (by simp) ?_)
  refine aops_n rfl (n_as rfl (by constructor)) ?_
  refine aops_nil ?_
  dsimp only [St.put]
  refine hK1 _ ?_
  refine aw_seq_k fun K2 hK2 => ?_
  refine aw_seq_k fun K3 hK3 => ?_
  refine aw_region ?_
  refine aops_n rfl (n_fieldAddr' rfl rfl rfl) ?_
  try dsimp only [St.put]
  refine aops_s rfl (s_load rfl rfl) ?_
  refine aops_n rfl (n_len' rfl rfl (List.length_map _)) ?_
  refine aops_n rfl (n_gtr rfl rfl rfl) ?_
  refine aops_nil ?_
  dsimp only [St.put]
  refine hK3 _ ?_
  refine aw_cond rfl (fun hc => ?_) (fun hc => ?_)
  · skip
    refine aw_seq_k fun K4 hK4 => ?_
    refine aw_region ?_
    refine aops_n rfl (n_as rfl (by constructor)) ?_
    refine aops_nil ?_
    dsimp only [St.put]
    refine hK4 _ ?_
    refine aw_ret ?_
    refine ends_1 rfl (by constructor) zN zS ?_
    exact vb (by have := of_decide_eq_true (hc : decide _ = true); simp [greatB]; omega)
  · replace hc := of_decide_eq_false hc
    refine aw_skip ?_
    refine hK2 _ ?_
    refine aw_seq_k fun K5 hK5 => ?_
    refine aw_seq_k fun K6 hK6 => ?_
    refine aw_region ?_
    refine aops_n rfl (n_as rfl (by constructor)) ?_
    refine aops_nil ?_
    dsimp only [St.put]
    refine hK6 _ ?_
    refine aw_block ?_
    refine aw_wipe 6 ?_
    simp only [firsts, getA, Nat.reduceAdd, List.getD_cons_zero, List.getD_cons_succ, List.getD_nil, natBeq, Nat.reduceBEq, cond_true, cond_false]
    refine aw_forget (G) zX ?_
    dsimp only
    refine aw_loopD (X := Nat) (fun k => k ≤ t.length ∧ (t.take k).any greatChap = false) (fun k => t.length - k) (fun k => [(3, .v (.int .i64 (k : Int))), (4, .any), (5, .any)]) (fun k G' => G') 0 rfl ?_ ?_ (fun _ _ h => h) ?_ ?_ ?_
    · exact ⟨by simp, by simp⟩
    · exact zF
    · rintro k hI
      exact zL
    · exact fun _ _ _ _ h => .inl h
    · rintro k hI
      dsimp only at hI ⊢
      refine aw_seq_k fun K7 hK7 => ?_
      refine aw_seq_k fun K8 hK8 => ?_
      refine aw_region ?_
      refine aops_n rfl (n_mv rfl (by constructor)) ?_
      refine aops_n rfl (n_fieldAddr' rfl rfl rfl) ?_
      try dsimp only [St.put]
      refine aops_s rfl (s_load rfl rfl) ?_
      refine aops_n rfl (n_len' rfl rfl (List.length_map _)) ?_
      refine aops_n rfl (n_lss rfl rfl rfl) ?_
      refine aops_nil ?_
      dsimp only [St.put]
      refine hK8 _ ?_
      refine aw_cond rfl (fun hc => ?_) (fun hc => ?_)
      · replace hc := of_decide_eq_true hc
        obtain ⟨c, hx⟩ : ∃ x, t[k]? = some x := some_of_lt (by omega)
        have hf1 := hf.lines c (mem_of_get hx)
        have hf0 := hf.len
        refine aw_skip ?_
        refine hK7 _ ?_
        refine aw_seq_k fun K9 hK9 => ?_
        refine aw_block ?_
        refine aw_seq_k fun K10 hK10 => ?_
        refine aw_seq_k fun K11 hK11 => ?_
        refine aw_region ?_
        refine aops_n rfl (n_fieldAddr' rfl rfl rfl) ?_
        try dsimp only [St.put]
        refine aops_s rfl (s_load rfl rfl) ?_
        refine aops_n rfl (n_mv rfl (by constructor)) ?_
        try dsimp only [St.put]
        refine aops_n rfl (n_indexAddr rfl rfl rfl rfl (map_get (by assumption)) (Enc.len _)) ?_
        refine aops_n rfl (n_fieldAddr' rfl rfl rfl) ?_
        try dsimp only [St.put]
        refine aops_s rfl (s_load rfl rfl) ?_
        refine aops_n rfl (n_len' rfl rfl (List.length_map _)) ?_
        refine aops_n rfl (n_gtr rfl rfl rfl) ?_
        refine aops_nil ?_
        dsimp only [St.put]
        refine hK11 _ ?_
        refine aw_cond rfl (fun hc => ?_) (fun hc => ?_)
        · skip
          refine aw_seq_k fun K12 hK12 => ?_
          refine aw_region ?_
          refine aops_n rfl (n_as rfl (by constructor)) ?_
          refine aops_nil ?_
          dsimp only [St.put]
          refine hK12 _ ?_
          refine aw_ret ?_
          refine ends_1 rfl (by constructor) zN zS ?_
          exact vb (by have h0 := of_decide_eq_true (hc : decide _ = true); have := any_of_take (p := greatChap) hx (by simp [greatChap]; omega); simp [greatB, this])
        · have h15 := of_decide_eq_false hc
          refine aw_skip ?_
          refine hK10 _ ?_
          refine aw_seq_k fun K13 hK13 => ?_
          refine aw_region ?_
          refine aops_n rfl (n_as rfl (by constructor)) ?_
          refine aops_nil ?_
          dsimp only [St.put]
          refine hK13 _ ?_
          refine aw_block ?_
          refine aw_wipe 6 ?_
          simp only [firsts, getA, Nat.reduceAdd, List.getD_cons_zero, List.getD_cons_succ, List.getD_nil, natBeq, Nat.reduceBEq, cond_true, cond_false]
          refine aw_forget (G) zX ?_
          dsimp only
          refine aw_loopD (X := Nat) (fun n => n ≤ c.lines.length ∧ (c.lines.take n).any greatLine = false) (fun n => c.lines.length - n) (fun n => [(4, .v (.int .i64 (n : Int))), (5, .any)]) (fun n G' => G') 0 rfl ?_ ?_ (fun _ _ h => h) ?_ ?_ ?_
          · exact ⟨by simp, by simp⟩
          · exact zF
          · rintro n hI
            exact zL
          · exact fun _ _ _ _ h => .inl h
          · rintro n hJ
            dsimp only at hJ ⊢
            refine aw_seq_k fun K14 hK14 => ?_
            refine aw_seq_k fun K15 hK15 => ?_
            refine aw_region ?_
            refine aops_n rfl (n_mv rfl (by constructor)) ?_
            refine aops_n rfl (n_fieldAddr' rfl rfl rfl) ?_
            try dsimp only [St.put]
            refine aops_s rfl (s_load rfl rfl) ?_
            refine aops_n rfl (n_mv rfl (by constructor)) ?_
            try dsimp only [St.put]
            refine aops_n rfl (n_indexAddr rfl rfl rfl rfl (map_get (by assumption)) (Enc.len _)) ?_
            refine aops_n rfl (n_fieldAddr' rfl rfl rfl) ?_
            try dsimp only [St.put]
            refine aops_s rfl (s_load rfl rfl) ?_
            refine aops_n rfl (n_len' rfl rfl (List.length_map _)) ?_
            refine aops_n rfl (n_lss rfl rfl rfl) ?_
            refine aops_nil ?_
            dsimp only [St.put]
            refine hK15 _ ?_
            refine aw_cond rfl (fun hc => ?_) (fun hc => ?_)
            · replace hc := of_decide_eq_true hc
              obtain ⟨l, hl⟩ : ∃ x, c.lines[n]? = some x := some_of_lt (by omega)
              have hf3 := hf.words c (mem_of_get hx) l (mem_of_get hl)
              refine aw_skip ?_
              refine hK14 _ ?_
              refine aw_seq_k fun K16 hK16 => ?_
              refine aw_block ?_
              refine aw_seq_k fun K17 hK17 => ?_
              refine aw_seq_k fun K18 hK18 => ?_
              refine aw_region ?_
              refine aops_n rfl (n_fieldAddr' rfl rfl rfl) ?_
              try dsimp only [St.put]
              refine aops_s rfl (s_load rfl rfl) ?_
              refine aops_n rfl (n_mv rfl (by constructor)) ?_
              try dsimp only [St.put]
              refine aops_n rfl (n_indexAddr rfl rfl rfl rfl (map_get (by assumption)) (Enc.len _)) ?_
              refine aops_n rfl (n_fieldAddr' rfl rfl rfl) ?_
              try dsimp only [St.put]
              refine aops_s rfl (s_load rfl rfl) ?_
              refine aops_n rfl (n_mv rfl (by constructor)) ?_
              try dsimp only [St.put]
              refine aops_n rfl (n_indexAddr rfl rfl rfl rfl (map_get (by assumption)) (Enc.len _)) ?_
              try dsimp only [St.put]
              refine aops_s rfl (s_load rfl rfl) ?_
              refine aops_n rfl (n_len' rfl rfl (List.length_map _)) ?_
              refine aops_n rfl (n_gtr rfl rfl rfl) ?_
              refine aops_nil ?_
              dsimp only [St.put]
              refine hK18 _ ?_
              refine aw_cond rfl (fun hc => ?_) (fun hc => ?_)
              · skip
                refine aw_seq_k fun K19 hK19 => ?_
                refine aw_region ?_
                refine aops_n rfl (n_as rfl (by constructor)) ?_
                refine aops_nil ?_
                dsimp only [St.put]
                refine hK19 _ ?_
                refine aw_ret ?_
                refine ends_1 rfl (by constructor) zN zS ?_
                exact vb (by have h0 := of_decide_eq_true (hc : decide _ = true); have h1 := any_of_take (p := greatLine) hl (by simp [greatLine]; omega); have := any_of_take (p := greatChap) hx (by simp [greatChap, h1]); simp [greatB, this])
              · have h16 := of_decide_eq_false hc
                refine aw_skip ?_
                refine hK17 _ ?_
                refine aw_seq_k fun K20 hK20 => ?_
                refine aw_region ?_
                refine aops_n rfl (n_as rfl (by constructor)) ?_
                refine aops_nil ?_
                dsimp only [St.put]
                refine hK20 _ ?_
                refine aw_block ?_
                refine aw_wipe 6 ?_
                simp only [firsts, getA, Nat.reduceAdd, List.getD_cons_zero, List.getD_cons_succ, List.getD_nil, natBeq, Nat.reduceBEq, cond_true, cond_false]
                refine aw_forget (G) zX ?_
                dsimp only
                refine aw_loopD (X := Nat) (fun m => m ≤ l.length ∧ (l.take m).any (fun s => decide (40 < s.size)) = false) (fun m => l.length - m) (fun m => [(5, .v (.int .i64 (m : Int)))]) (fun m G' => G') 0 rfl ?_ ?_ (fun _ _ h => h) ?_ ?_ ?_
                · exact ⟨by simp, by simp⟩
                · exact zF
                · rintro m hI
                  exact zL
                · exact fun _ _ _ _ h => .inl h
                · rintro m hL
                  dsimp only at hL ⊢
                  refine aw_seq_k fun K21 hK21 => ?_
                  refine aw_seq_k fun K22 hK22 => ?_
                  refine aw_region ?_
                  refine aops_n rfl (n_mv rfl (by constructor)) ?_
                  refine aops_n rfl (n_fieldAddr' rfl rfl rfl) ?_
                  try dsimp only [St.put]
                  refine aops_s rfl (s_load rfl rfl) ?_
                  refine aops_n rfl (n_mv rfl (by constructor)) ?_
                  try dsimp only [St.put]
                  refine aops_n rfl (n_indexAddr rfl rfl rfl rfl (map_get (by assumption)) (Enc.len _)) ?_
                  refine aops_n rfl (n_fieldAddr' rfl rfl rfl) ?_
                  try dsimp only [St.put]
                  refine aops_s rfl (s_load rfl rfl) ?_
                  refine aops_n rfl (n_mv rfl (by constructor)) ?_
                  try dsimp only [St.put]
                  refine aops_n rfl (n_indexAddr rfl rfl rfl rfl (map_get (by assumption)) (Enc.len _)) ?_
                  try dsimp only [St.put]
                  refine aops_s rfl (s_load rfl rfl) ?_
                  refine aops_n rfl (n_len' rfl rfl (List.length_map _)) ?_
                  refine aops_n rfl (n_lss rfl rfl rfl) ?_
                  refine aops_nil ?_
                  dsimp only [St.put]
                  refine hK22 _ ?_
                  refine aw_cond rfl (fun hc => ?_) (fun hc => ?_)
                  · replace hc := of_decide_eq_true hc
                    obtain ⟨s, hs⟩ : ∃ x, l[m]? = some x := some_of_lt (by omega)
                    refine aw_skip ?_
                    refine hK21 _ ?_
                    refine aw_seq_k fun K23 hK23 => ?_
                    refine aw_block ?_
                    refine aw_seq_k fun K24 hK24 => ?_
                    refine aw_region ?_
                    refine aops_n rfl (n_fieldAddr' rfl rfl rfl) ?_
                    try dsimp only [St.put]
                    refine aops_s rfl (s_load rfl rfl) ?_
                    refine aops_n rfl (n_mv rfl (by constructor)) ?_
                    try dsimp only [St.put]
                    refine aops_n rfl (n_indexAddr rfl rfl rfl rfl (map_get (by assumption)) (Enc.len _)) ?_
                    refine aops_n rfl (n_fieldAddr' rfl rfl rfl) ?_
                    try dsimp only [St.put]
                    refine aops_s rfl (s_load rfl rfl) ?_
                    refine aops_n rfl (n_mv rfl (by constructor)) ?_
                    try dsimp only [St.put]
                    refine aops_n rfl (n_indexAddr rfl rfl rfl rfl (map_get (by assumption)) (Enc.len _)) ?_
                    try dsimp only [St.put]
                    refine aops_s rfl (s_load rfl rfl) ?_
                    refine aops_n rfl (n_mv rfl (by constructor)) ?_
                    try dsimp only [St.put]
                    refine aops_n rfl (n_indexAddr rfl rfl rfl rfl (map_get (by assumption)) (Enc.len _)) ?_
                    try dsimp only [St.put]
                    refine aops_s rfl (s_load rfl rfl) ?_
                    refine aops_n rfl (n_lenstr' rfl rfl) ?_
                    refine aops_n rfl (n_gtr rfl rfl rfl) ?_
                    refine aops_nil ?_
                    dsimp only [St.put]
                    refine hK24 _ ?_
                    refine aw_cond rfl (fun hc => ?_) (fun hc => ?_)
                    · skip
                      refine aw_seq_k fun K25 hK25 => ?_
                      refine aw_region ?_
                      refine aops_n rfl (n_as rfl (by constructor)) ?_
                      refine aops_nil ?_
                      dsimp only [St.put]
                      refine hK25 _ ?_
                      refine aw_ret ?_
                      refine ends_1 rfl (by constructor) zN zS ?_
                      exact vb (by have h0 := of_decide_eq_true (hc : decide _ = true); have h2 : l.any (fun s => decide (40 < s.size)) = true := any_of_take hs (by simp; omega); have h1 := any_of_take (p := greatLine) hl (by simp [greatLine, h2]); have := any_of_take (p := greatChap) hx (by simp [greatChap, h1]); simp [greatB, this])
                    · skip
                      refine aw_skip ?_
                      refine hK23 _ ?_
                      refine aw_region ?_
                      refine aops_n rfl (n_mv rfl (by constructor)) ?_
                      refine aops_n rfl (n_add rfl rfl rfl (by omega)) ?_
                      refine aops_n rfl (n_as rfl (by constructor)) ?_
                      refine aops_nil ?_
                      dsimp only [St.put]
                      exact ⟨m + 1, by omega, ⟨by omega, by rw [any_take hs, hL.2]; have := of_decide_eq_false hc; simp; omega⟩, ⟨⟨rfl, rfl⟩, zF, zB, zN, zX⟩⟩
                  · try replace hc := of_decide_eq_false hc
                    refine aw_exit ?_
                    refine hK16 _ ?_
                    refine aw_region ?_
                    refine aops_n rfl (n_mv rfl (by constructor)) ?_
                    refine aops_n rfl (n_add rfl rfl rfl (by omega)) ?_
                    refine aops_n rfl (n_as rfl (by constructor)) ?_
                    refine aops_nil ?_
                    dsimp only [St.put]
                    exact ⟨n + 1, by omega, ⟨by omega, by rw [any_take hl, hJ.2]; have h1 := hL.2; rw [take_all (by omega)] at h1; simp [greatLine, h1]; omega⟩, ⟨⟨rfl, rfl⟩, zF, zB, zN, zX⟩⟩
            · try replace hc := of_decide_eq_false hc
              refine aw_exit ?_
              refine hK9 _ ?_
              refine aw_region ?_
              refine aops_n rfl (n_mv rfl (by constructor)) ?_
              refine aops_n rfl (n_add rfl rfl rfl (by omega)) ?_
              refine aops_n rfl (n_as rfl (by constructor)) ?_
              refine aops_nil ?_
              dsimp only [St.put]
              exact ⟨k + 1, by omega, ⟨by omega, by rw [any_take hx, hI.2]; have h1 := hJ.2; rw [take_all (by omega)] at h1; simp [greatChap, h1]; omega⟩, ⟨⟨rfl, rfl⟩, zF, zB, zN, zX⟩⟩
      · try replace hc := of_decide_eq_false hc
        refine aw_exit ?_
        refine hK5 _ ?_
        refine aw_seq_k fun K26 hK26 => ?_
        refine aw_region ?_
        refine aops_n rfl (n_as rfl (by constructor)) ?_
        refine aops_nil ?_
        dsimp only [St.put]
        refine hK26 _ ?_
        refine aw_ret ?_
        refine ends_1 rfl (by constructor) zN zS ?_
        exact vb (by have h1 := hI.2; rw [take_all (by omega)] at h1; simp [greatB, h1]; omega)
structure Small (t : TextD) : Prop where
  len : t.length ≤ 10
  lines : ∀ c ∈ t, c.lines.length ≤ 15
  words : ∀ c ∈ t, ∀ l ∈ c.lines, l.length ≤ 15
  size : ∀ c ∈ t, ∀ l ∈ c.lines, ∀ s ∈ l, s.size ≤ 40
theorem small_of {t : TextD} (h : greatB t = false) : Small t := by
  simp only [greatB, greatChap, greatLine, Bool.or_eq_false_iff, decide_eq_false_iff_not, List.any_eq_false, Bool.not_eq_true, Bool.or_eq_true, decide_eq_true_eq, not_or] at h
  refine ⟨by omega, fun c hc => ?_, fun c hc l hl => ?_, fun c hc l hl s hs => ?_⟩
  · have := (h.2 c hc).1; omega
  · have := ((h.2 c hc).2 l hl).1; omega
  · have := ((h.2 c hc).2 l hl).2 s hs; omega
end Go.Proofs.YtjjklfgpffgnfaaDoor
