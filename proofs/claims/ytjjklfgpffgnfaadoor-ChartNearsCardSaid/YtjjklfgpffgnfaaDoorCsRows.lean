/-
  Contracts of the reference's functions of charts: what clashes, rows, gaps, sound editions, plain ones.
-/
import Derived.Test.YtjjklfgpffgnfaaDoorCrOne
import Derived.Test.YtjjklfgpffgnfaaDoorCePlain
namespace Go.AB
open Go Go.RowKit
open Go.PB (Chap TextD PlaceD)
theorem clV {ss : List StretchD} {a b : Nat} (h : firstC ss = some (a, b)) : clA ss = a ∧ clB ss = b := by simp [clA, clB, h]
theorem clN {ss : List StretchD} (h : firstC ss = none) : clA ss = 0 ∧ clB ss = 0 := by simp [clA, clB, h]
theorem checkEr_text {t : TextD} {e : EditionD} (h : checkEr t e = 0) : textB t = true ∧ e.ss.length ≤ 12 ∧ ∀ s ∈ e.ss, SOk s := by
  obtain ⟨h1, h2⟩ := checkEr_ok h
  exact ⟨h1, edition_ok h1 h2⟩
end Go.AB
namespace Go.Proofs.YtjjklfgpffgnfaaDoor
set_option maxRecDepth 10000
open Go.RowKit Go.AB
open Go.AB.Enc (cells)
open Go.PB (Chap TextD PlaceD ReadingD CopyD WayD)

theorem clash_pure (e : EditionD) (hl : e.ss.length ≤ 12) (he : ∀ s ∈ e.ss, SOk s) : Pure Tryd.prog 41 [val e] (.tup [.v (.int .i64 (clA e.ss)), .v (.int .i64 (clB e.ss)), .v (.bool (firstC e.ss).isSome)]) := by
  refine pure_of_body Tryd.func41 rfl (fun m => .tup (low_cons .v (low_cons .v (low_cons .v low_nil)))) fun G nx => ?_
  simp only [Tryd.ntmps41, List.length_cons, List.length_nil, Nat.reduceAdd, Nat.reduceSub]
  refine aw_lt fun hlt => ?_
  dsimp only at hlt
  refine aw_seq_k fun K1 hK1 => ?_
  refine aw_region ?_
  try dsimp only [St.put]
  refine aops_e rfl (e_box rfl rfl (by simp) ?_)
  refine aops_n rfl (n_as rfl (by constructor)) ?_
  refine aops_n rfl (n_as rfl (by constructor)) ?_
  refine aops_n rfl (n_as rfl (by constructor)) ?_
  refine aops_nil ?_
  dsimp only [St.put]
  refine hK1 _ ?_
  refine aw_seq_k fun K2 hK2 => ?_
  refine aw_seq_k fun K3 hK3 => ?_
  refine aw_region ?_
  refine aops_n rfl (n_as rfl (by constructor)) ?_
  refine aops_nil ?_
  dsimp only [St.put]
  refine hK3 _ ?_
  refine aw_block ?_
  refine aw_wipe 7 ?_
  simp only [firsts, getA, Nat.reduceAdd, List.getD_cons_zero, List.getD_cons_succ, List.getD_nil, natBeq, Nat.reduceBEq, cond_true, cond_false]
  refine aw_forget (G) zX ?_
  dsimp only
  refine aw_loopD (X := Nat) (fun k => k ≤ e.ss.length ∧ ∀ a b, isClash e.ss a b → k ≤ a) (fun k => e.ss.length - k) (fun k => [(5, .v (.int .i64 (k : Int))), (6, .any)]) (fun k G' => G') 0 rfl ?_ ?_ (fun _ _ h => h) ?_ ?_ ?_
  · exact ⟨by simp, fun a b _ => Nat.zero_le _⟩
  · exact zF
  · rintro k hI
    exact zL
  · exact fun _ _ _ _ h => .inl h
  · rintro k hI
    dsimp only at hI ⊢
    refine aw_seq_k fun K4 hK4 => ?_
    refine aw_seq_k fun K5 hK5 => ?_
    refine aw_region ?_
    refine aops_n rfl (n_mv rfl (by constructor)) ?_
    refine aops_n rfl (n_fieldAddr' rfl rfl rfl) ?_
    try dsimp only [St.put]
    refine aops_s rfl (s_load rfl rfl) ?_
    refine aops_n rfl (n_len' rfl rfl (List.length_map _)) ?_
    refine aops_n rfl (n_lss rfl rfl rfl) ?_
    refine aops_nil ?_
    dsimp only [St.put]
    refine hK5 _ ?_
    refine aw_cond rfl (fun hc => ?_) (fun hc => ?_)
    · replace hc := of_decide_eq_true hc
      obtain ⟨x, hx⟩ : ∃ x, e.ss[k]? = some x := some_of_lt (by omega)
      refine aw_skip ?_
      refine hK4 _ ?_
      refine aw_seq_k fun K6 hK6 => ?_
      refine aw_block ?_
      refine aw_seq_k fun K7 hK7 => ?_
      refine aw_region ?_
      refine aops_n rfl (n_mv rfl (by constructor)) ?_
      refine aops_n rfl (n_add rfl rfl rfl (by omega)) ?_
      refine aops_n rfl (n_as rfl (by constructor)) ?_
      refine aops_nil ?_
      dsimp only [St.put]
      refine hK7 _ ?_
      refine aw_block ?_
      refine aw_wipe 7 ?_
      simp only [firsts, getA, Nat.reduceAdd, List.getD_cons_zero, List.getD_cons_succ, List.getD_nil, natBeq, Nat.reduceBEq, cond_true, cond_false]
      refine aw_forget (G) zX ?_
      dsimp only
      refine aw_loopD (X := Nat) (fun j => k + 1 ≤ j ∧ j ≤ e.ss.length ∧ ∀ b, isClash e.ss k b → j ≤ b) (fun j => e.ss.length - j) (fun j => [(6, .v (.int .i64 (j : Int)))]) (fun j G' => G') (k + 1) rfl ?_ ?_ (fun _ _ h => h) ?_ ?_ ?_
      · exact ⟨by omega, by omega, fun b h => h.1⟩
      · exact zF
      · rintro j hI
        exact zL
      · exact fun _ _ _ _ h => .inl h
      · rintro j hJ
        dsimp only at hJ ⊢
        refine aw_seq_k fun K8 hK8 => ?_
        refine aw_seq_k fun K9 hK9 => ?_
        refine aw_region ?_
        refine aops_n rfl (n_mv rfl (by constructor)) ?_
        refine aops_n rfl (n_fieldAddr' rfl rfl rfl) ?_
        try dsimp only [St.put]
        refine aops_s rfl (s_load rfl rfl) ?_
        refine aops_n rfl (n_len' rfl rfl (List.length_map _)) ?_
        refine aops_n rfl (n_lss rfl rfl rfl) ?_
        refine aops_nil ?_
        dsimp only [St.put]
        refine hK9 _ ?_
        refine aw_cond rfl (fun hc => ?_) (fun hc => ?_)
        · replace hc := of_decide_eq_true hc
          obtain ⟨y, hy⟩ : ∃ x, e.ss[j]? = some x := some_of_lt (by omega)
          refine aw_skip ?_
          refine hK8 _ ?_
          refine aw_seq_k fun K10 hK10 => ?_
          refine aw_block ?_
          refine aw_seq_k fun K11 hK11 => ?_
          refine aw_draw [(0, none), (1, none), (2, none), (3, none), (4, none), (5, none), (6, none), (7, none), (8, none), (9, none), (10, none)] (fun i => [10].contains i) (fun i => [10].contains i) (fun i => [0, 2, 3, 5, 7, 8].contains i) [] (by kernel_rfl) (by kernel_rfl) ?_
          refine acan1_n rfl rfl rfl rfl (n_fieldAddr' rfl rfl rfl) ?_
          try dsimp only [St.put]
          refine acan1_s rfl rfl rfl rfl (s_load rfl rfl) ?_
          refine acan1_n rfl rfl rfl rfl (n_mv rfl (by constructor)) ?_
          try dsimp only [St.put]
          refine acan1_n rfl rfl rfl rfl (n_indexAddr rfl rfl rfl rfl (map_get (by assumption)) (Enc.len _)) ?_
          try dsimp only [St.put]
          refine acan1_s rfl rfl rfl rfl (s_load_agg' rfl rfl (Enc.len _)) ?_
          refine acan1_n rfl rfl rfl rfl (n_fieldAddr' rfl rfl rfl) ?_
          try dsimp only [St.put]
          refine acan1_s rfl rfl rfl rfl (s_load rfl rfl) ?_
          refine acan1_n rfl rfl rfl rfl (n_mv rfl (by constructor)) ?_
          try dsimp only [St.put]
          refine acan1_n rfl rfl rfl rfl (n_indexAddr rfl rfl rfl rfl (map_get (by assumption)) (Enc.len _)) ?_
          try dsimp only [St.put]
          refine acan1_s rfl rfl rfl rfl (s_load_agg' rfl rfl (Enc.len _)) ?_
          refine acan1_two ?_
          try dsimp only [St.put]
          refine acan2_late rfl rfl rfl rfl (e_call_pure rfl rfl rfl (Clashes_pure x y (he x (mem_of_get hx)) (he y (mem_of_get hy))) ?_)
          refine acan2_nil ?_
          dsimp only [St.put]
          refine hK11 _ ?_
          refine aw_cond rfl (fun hc => ?_) (fun hc => ?_)
          · have hf : firstC e.ss = some (k, j) := firstC_eq ⟨(clash_iff (by omega) hx hy).2 hc, fun c d h => by
                have h1 := hI.2 c d h
                rcases Nat.eq_or_lt_of_le h1 with h2 | h2
                · subst h2; exact .inr ⟨rfl, hJ.2.2 d h⟩
                · exact .inl h2⟩
            refine aw_seq_k fun K12 hK12 => ?_
            refine aw_region ?_
            refine aops_n rfl (n_mv rfl (by constructor)) ?_
            refine aops_n rfl (n_mv rfl (by constructor)) ?_
            refine aops_n rfl (n_as rfl (by constructor)) ?_
            refine aops_n rfl (n_as rfl (by constructor)) ?_
            refine aops_n rfl (n_as rfl (by constructor)) ?_
            refine aops_nil ?_
            dsimp only [St.put]
            refine hK12 _ ?_
            refine aw_ret ?_
            refine ends_3 rfl (by constructor) (by constructor) (by constructor) zN zS ?_ ?_ ?_
            · exact vi (clV hf).1.symm
            · exact vi (clV hf).2.symm
            · exact vb (by rw [hf]; rfl)
          · skip
            refine aw_skip ?_
            refine hK10 _ ?_
            refine aw_region ?_
            refine aops_n rfl (n_mv rfl (by constructor)) ?_
            refine aops_n rfl (n_add rfl rfl rfl (by omega)) ?_
            refine aops_n rfl (n_as rfl (by constructor)) ?_
            refine aops_nil ?_
            dsimp only [St.put]
            exact ⟨j + 1, by omega, ⟨by omega, by omega, fun b h => by
                have h1 := hJ.2.2 b h
                rcases Nat.eq_or_lt_of_le h1 with h2 | h2
                · subst h2
                  rw [clash_iff (by omega) hx hy, hc] at h
                  cases h
                · omega⟩, ⟨⟨rfl, rfl⟩, zF, zB, zN, zX⟩⟩
        · try replace hc := of_decide_eq_false hc
          refine aw_exit ?_
          refine hK6 _ ?_
          refine aw_region ?_
          refine aops_n rfl (n_mv rfl (by constructor)) ?_
          refine aops_n rfl (n_add rfl rfl rfl (by omega)) ?_
          refine aops_n rfl (n_as rfl (by constructor)) ?_
          refine aops_nil ?_
          dsimp only [St.put]
          exact ⟨k + 1, by omega, ⟨by omega, fun a b h => by
              have h1 := hI.2 a b h
              rcases Nat.eq_or_lt_of_le h1 with h2 | h2
              · subst h2
                have h3 := hJ.2.2 b h
                obtain ⟨_, x, y, _, hy, _⟩ := h
                have := lt_of_some hy
                omega
              · omega⟩, ⟨⟨rfl, rfl⟩, zF, zB, zN, zX⟩⟩
    · try replace hc := of_decide_eq_false hc
      refine aw_exit ?_
      refine hK2 _ ?_
      refine aw_seq_k fun K13 hK13 => ?_
      refine aw_region ?_
      refine aops_n rfl (n_as rfl (by constructor)) ?_
      refine aops_n rfl (n_as rfl (by constructor)) ?_
      refine aops_n rfl (n_as rfl (by constructor)) ?_
      refine aops_nil ?_
      dsimp only [St.put]
      have hf : firstC e.ss = none := firstC_eq fun a b h => by
          have h1 := hI.2 a b h
          obtain ⟨h2, x, y, _, hy, _⟩ := h
          have := lt_of_some hy
          omega
      refine hK13 _ ?_
      refine aw_ret ?_
      refine ends_3 rfl (by constructor) (by constructor) (by constructor) zN zS ?_ ?_ ?_
      · exact vi (clN hf).1.symm
      · exact vi (clN hf).2.symm
      · exact vb (by rw [hf]; rfl)
theorem sound2_pure (t : TextD) (e : EditionD) : Pure Tryd.prog 46 [textC t, val e] (.v (.int .i64 (soundEr t e))) := by
  refine pure_of_body Tryd.func46 rfl (fun m => .v) fun G nx => ?_
  simp only [Tryd.ntmps46, List.length_cons, List.length_nil, Nat.reduceAdd, Nat.reduceSub]
  refine aw_lt fun hlt => ?_
  dsimp only at hlt
  refine aw_seq_k fun K1 hK1 => ?_
  refine aw_region ?_
  try dsimp only [St.put]
  refine aops_e rfl (e_box rfl rfl (by simp) ?_)
  try dsimp only [St.put]
  refine aops_e rfl (e_box rfl rfl (by simp) ?_)
  refine aops_n rfl (n_as rfl (by constructor)) ?_
  refine aops_nil ?_
  dsimp only [St.put]
  refine hK1 _ ?_
  refine aw_seq_k fun K2 hK2 => ?_
  refine aw_seq_k fun K3 hK3 => ?_
  refine aw_region ?_
  try dsimp only [St.put]
  refine aops_s rfl (s_load_agg' rfl rfl rfl) ?_
  try dsimp only [St.put]
  refine aops_s rfl (s_load_agg' rfl rfl (Enc.len _)) ?_
  try dsimp only [St.put]
  refine aops_e rfl (e_call_pure rfl rfl rfl (Check2_pure t e) ?_)
  refine aops_n rfl (n_as rfl (by constructor)) ?_
  refine aops_nil ?_
  dsimp only [St.put]
  refine hK3 _ ?_
  refine aw_seq_k fun K4 hK4 => ?_
  refine aw_region ?_
  refine aops_n rfl (n_mv rfl (by constructor)) ?_
  refine aops_n rfl (n_neq rfl rfl rfl) ?_
  refine aops_nil ?_
  dsimp only [St.put]
  refine hK4 _ ?_
  refine aw_cond rfl (fun hc => ?_) (fun hc => ?_)
  · have h0 : ¬ checkEr t e = 0 := nd_t hc
    refine aw_seq_k fun K5 hK5 => ?_
    refine aw_region ?_
    refine aops_n rfl (n_mv rfl (by constructor)) ?_
    refine aops_n rfl (n_as rfl (by constructor)) ?_
    refine aops_nil ?_
    dsimp only [St.put]
    refine hK5 _ ?_
    refine aw_ret ?_
    refine ends_1 rfl (by constructor) zN zS ?_
    exact vi (by simp [soundEr, h0])
  · have h0 : checkEr t e = 0 := nd_f hc
    obtain ⟨ht, hl, he⟩ := checkEr_text h0
    refine aw_skip ?_
    refine hK2 _ ?_
    refine aw_seq_k fun K6 hK6 => ?_
    refine aw_seq_k fun K7 hK7 => ?_
    refine aw_region ?_
    try dsimp only [St.put]
    refine aops_s rfl (s_load_agg' rfl rfl (Enc.len _)) ?_
    try dsimp only [St.put]
    refine aops_e rfl (e_call_pure rfl rfl rfl (clash_pure e hl he) ?_)
    refine aops_n rfl (n_mv rfl (by constructor)) ?_
    refine aops_n rfl (n_extract rfl rfl rfl) ?_
    refine aops_n rfl (n_extract rfl rfl rfl) ?_
    refine aops_n rfl (n_extract rfl rfl rfl) ?_
    refine aops_n rfl (n_as rfl (by constructor)) ?_
    refine aops_n rfl (n_as rfl (by constructor)) ?_
    refine aops_n rfl (n_as rfl (by constructor)) ?_
    refine aops_nil ?_
    dsimp only [St.put]
    refine hK7 _ ?_
    refine aw_seq_k fun K8 hK8 => ?_
    refine aw_region ?_
    refine aops_n rfl (n_mv rfl (by constructor)) ?_
    refine aops_nil ?_
    dsimp only [St.put]
    refine hK8 _ ?_
    refine aw_cond rfl (fun hc => ?_) (fun hc => ?_)
    · skip
      refine aw_seq_k fun K9 hK9 => ?_
      refine aw_region ?_
      refine aops_n rfl (n_as rfl (by constructor)) ?_
      refine aops_nil ?_
      dsimp only [St.put]
      refine hK9 _ ?_
      refine aw_ret ?_
      refine ends_1 rfl (by constructor) zN zS ?_
      exact vi (by simp [soundEr, h0, hc])
    · skip
      refine aw_skip ?_
      refine hK6 _ ?_
      refine aw_seq_k fun K10 hK10 => ?_
      refine aw_region ?_
      refine aops_n rfl (n_as rfl (by constructor)) ?_
      refine aops_nil ?_
      dsimp only [St.put]
      refine hK10 _ ?_
      refine aw_ret ?_
      refine ends_1 rfl (by constructor) zN zS ?_
      exact vi (by simp [soundEr, h0, hc])
theorem rows_pure (t : TextD) (e : EditionD) (ht : textB t = true) (hl : e.ss.length ≤ 12) (he : ∀ s ∈ e.ss, SOk s) : Pure Tryd.prog 43 [textC t, val e] (lst (rowsT t e.ss)) := by
  refine pure_of_body Tryd.func43 rfl (fun m => (lst_low _ _)) fun G nx => ?_
  simp only [Tryd.ntmps43, List.length_cons, List.length_nil, Nat.reduceAdd, Nat.reduceSub]
  refine aw_lt fun hlt => ?_
  dsimp only at hlt
  obtain ⟨hl1, hl2, hl3⟩ := text_ok ht
  have hall := rowsT_len ht e.ss
  refine aw_seq_k fun K1 hK1 => ?_
  refine aw_region ?_
  try dsimp only [St.put]
  refine aops_e rfl (e_box rfl rfl (by simp) ?_)
  try dsimp only [St.put]
  refine aops_e rfl (e_box rfl rfl (by simp) ?_)
  refine aops_n rfl (n_as rfl (by constructor)) ?_
  refine aops_nil ?_
  dsimp only [St.put]
  refine hK1 _ ?_
  refine aw_seq_k fun K2 hK2 => ?_
  refine aw_region ?_
  refine aops_n rfl (n_as rfl (by constructor)) ?_
  refine aops_nil ?_
  dsimp only [St.put]
  refine hK2 _ ?_
  refine aw_adopt 5 107 5 rfl (by decide) ?_
  dsimp only [List.set_cons_zero, List.set_cons_succ]
  refine aw_seq_k fun K3 hK3 => ?_
  refine aw_seq_k fun K4 hK4 => ?_
  refine aw_region ?_
  refine aops_n rfl (n_as rfl (by constructor)) ?_
  refine aops_nil ?_
  dsimp only [St.put]
  refine hK4 _ ?_
  refine aw_block ?_
  refine aw_wipe 11 ?_
  simp only [firsts, getA, Nat.reduceAdd, List.getD_cons_zero, List.getD_cons_succ, List.getD_nil, natBeq, Nat.reduceBEq, cond_true, cond_false]
  refine aw_forget (setG G nx (.tip 0 107 5)) zX ?_
  dsimp only
  refine aw_loopD (X := Nat) (fun k => k ≤ t.length) (fun k => t.length - k) (fun k => [(5, .list ((rowsT (t.take k) e.ss).map cells) (.tip nx)), (6, .v (.int .i64 (k : Int))), (7, .any), (8, .any), (9, .any), (10, .any)]) (fun k G' => (setG G nx (.tip ((rowsT (t.take k) e.ss)).length 107 5))) 0 rfl ?_ ?_ ?_ ?_ ?_ ?_
  · exact Nat.zero_le _
  · exact zF
  · exact zX
  · rintro k hI
    exact zL
  · rintro k hI
    exact zH
  · rintro k hI
    dsimp only at hI ⊢
    refine aw_seq_k fun K5 hK5 => ?_
    refine aw_seq_k fun K6 hK6 => ?_
    refine aw_region ?_
    refine aops_n rfl (n_mv rfl (by constructor)) ?_
    refine aops_n rfl (n_fieldAddr' rfl rfl rfl) ?_
    try dsimp only [St.put]
    refine aops_s rfl (s_load rfl rfl) ?_
    refine aops_n rfl (n_len' rfl rfl (List.length_map _)) ?_
    refine aops_n rfl (n_lss rfl rfl rfl) ?_
    refine aops_nil ?_
    dsimp only [St.put]
    refine hK6 _ ?_
    refine aw_cond rfl (fun hc => ?_) (fun hc => ?_)
    · replace hc := of_decide_eq_true hc
      obtain ⟨c, hk⟩ : ∃ x, t[k]? = some x := some_of_lt (by omega)
      have hcl := hl3 c (mem_of_get hk)
      refine aw_skip ?_
      refine hK5 _ ?_
      refine aw_seq_k fun K7 hK7 => ?_
      refine aw_block ?_
      refine aw_seq_k fun K8 hK8 => ?_
      refine aw_region ?_
      refine aops_n rfl (n_as rfl (by constructor)) ?_
      refine aops_nil ?_
      dsimp only [St.put]
      rw [show rowsT (t.take k) e.ss = rowsT (t.take k) e.ss ++ rowL e.ss k (c.lines.take 0) from (List.append_nil _).symm]
      refine hK8 _ ?_
      refine aw_block ?_
      refine aw_wipe 11 ?_
      simp only [firsts, getA, Nat.reduceAdd, List.getD_cons_zero, List.getD_cons_succ, List.getD_nil, natBeq, Nat.reduceBEq, cond_true, cond_false]
      refine aw_forget ((setG G nx (.tip ((rowsT (t.take k) e.ss ++ rowL e.ss k (c.lines.take 0))).length 107 5))) zX ?_
      dsimp only
      refine aw_loopD (X := Nat) (fun n => n ≤ c.lines.length) (fun n => c.lines.length - n) (fun n => [(5, .list ((rowsT (t.take k) e.ss ++ rowL e.ss k (c.lines.take n)).map cells) (.tip nx)), (7, .v (.int .i64 (n : Int))), (8, .any), (9, .any), (10, .any)]) (fun n G' => (setG G nx (.tip ((rowsT (t.take k) e.ss ++ rowL e.ss k (c.lines.take n))).length 107 5))) 0 rfl ?_ ?_ ?_ ?_ ?_ ?_
      · exact Nat.zero_le _
      · exact zF
      · exact zX
      · rintro n hI
        exact zL
      · rintro n hI
        exact zH
      · rintro n hJ
        dsimp only at hJ ⊢
        refine aw_seq_k fun K9 hK9 => ?_
        refine aw_seq_k fun K10 hK10 => ?_
        refine aw_region ?_
        refine aops_n rfl (n_mv rfl (by constructor)) ?_
        refine aops_n rfl (n_fieldAddr' rfl rfl rfl) ?_
        try dsimp only [St.put]
        refine aops_s rfl (s_load rfl rfl) ?_
        refine aops_n rfl (n_mv rfl (by constructor)) ?_
        try dsimp only [St.put]
        refine aops_n rfl (n_indexAddr rfl rfl rfl rfl (map_get (by assumption)) (Enc.len _)) ?_
        refine aops_n rfl (n_fieldAddr' rfl rfl rfl) ?_
        try dsimp only [St.put]
        refine aops_s rfl (s_load rfl rfl) ?_
        refine aops_n rfl (n_len' rfl rfl (List.length_map _)) ?_
        refine aops_n rfl (n_lss rfl rfl rfl) ?_
        refine aops_nil ?_
        dsimp only [St.put]
        refine hK10 _ ?_
        refine aw_cond rfl (fun hc => ?_) (fun hc => ?_)
        · replace hc := of_decide_eq_true hc
          obtain ⟨l, hn⟩ : ∃ x, c.lines[n]? = some x := some_of_lt (by omega)
          have hll := hcl.2.2 l (mem_of_get hn)
          have hr1 := hall k
          have hr2 : (rowL e.ss k (c.lines.take n)).length ≤ n := by rw [rowL_len, List.length_take]; omega
          refine aw_skip ?_
          refine hK9 _ ?_
          refine aw_seq_k fun K11 hK11 => ?_
          refine aw_block ?_
          refine aw_seq_k fun K12 hK12 => ?_
          refine aw_region ?_
          refine aops_n rfl (n_mv rfl (by constructor)) ?_
          refine aops_n rfl (n_mv rfl (by constructor)) ?_
          refine aops_n rfl (n_fieldAddr' rfl rfl rfl) ?_
          try dsimp only [St.put]
          refine aops_s rfl (s_load rfl rfl) ?_
          refine aops_n rfl (n_mv rfl (by constructor)) ?_
          try dsimp only [St.put]
          refine aops_n rfl (n_indexAddr rfl rfl rfl rfl (map_get (by assumption)) (Enc.len _)) ?_
          refine aops_n rfl (n_fieldAddr' rfl rfl rfl) ?_
          try dsimp only [St.put]
          refine aops_s rfl (s_load rfl rfl) ?_
          refine aops_n rfl (n_mv rfl (by constructor)) ?_
          try dsimp only [St.put]
          refine aops_n rfl (n_indexAddr rfl rfl rfl rfl (map_get (by assumption)) (Enc.len _)) ?_
          try dsimp only [St.put]
          refine aops_s rfl (s_load rfl rfl) ?_
          refine aops_n rfl (n_len' rfl rfl (List.length_map _)) ?_
          refine aops_n rfl (n_build rfl rfl) ?_
          try dsimp only [St.put]
          refine aops_e rfl (e_allocC rfl ?_)
          try dsimp only [St.put]
          refine aops_e rfl (e_store_all rfl rfl rfl zG rfl rfl (by rfl) ?_)
          refine aops_nil ?_
          dsimp only [St.put]
          refine hK12 _ ?_
          refine aw_seq_k fun K13 hK13 => ?_
          refine aw_seq_k fun K14 hK14 => ?_
          refine aw_region ?_
          refine aops_n rfl (n_as rfl (by constructor)) ?_
          refine aops_nil ?_
          dsimp only [St.put]
          refine hK14 _ ?_
          refine aw_block ?_
          refine aw_wipe 11 ?_
          simp only [firsts, getA, Nat.reduceAdd, List.getD_cons_zero, List.getD_cons_succ, List.getD_nil, natBeq, Nat.reduceBEq, cond_true, cond_false]
          refine aw_forget (setG (setG G nx (.tip ((rowsT (t.take k) e.ss ++ rowL e.ss k (c.lines.take n))).length 107 5)) (nx + 1) (.box 1 [.v (.int .i64 (k : Int)), .v (.int .i64 (n : Int)), .v (.int .i64 0), .v (.int .i64 0), .v (.int .i64 (l.length : Int))])) zX ?_
          dsimp only
          refine aw_loopD (X := Nat × Nat × Int × Int) (fun x => x.1 ≤ e.ss.length ∧ rowI e.ss ((k : Int), (n : Int)) x.1 x.2.2.1 x.2.2.2) (fun x => e.ss.length - x.1) (fun x => [(9, .v (.int .i64 (x.1 : Int))), (10, .any)]) (fun x G' => setG (setG G nx (.tip ((rowsT (t.take k) e.ss ++ rowL e.ss k (c.lines.take n))).length 107 5)) (nx + 1) (.box x.2.1 [.v (.int .i64 (k : Int)), .v (.int .i64 (n : Int)), .v (.int .i64 x.2.2.1), .v (.int .i64 x.2.2.2), .v (.int .i64 (l.length : Int))])) (0, 1, 0, 0) rfl ?_ ?_ ?_ ?_ ?_ ?_
          · exact ⟨Nat.zero_le _, rowI_start _ _⟩
          · exact zF
          · exact zX
          · rintro ⟨i, v, au, nu⟩ hI
            exact zL
          · rintro ⟨i, v, au, nu⟩ hI
            exact zH
          · rintro ⟨i, v, au, nu⟩ hK
            dsimp only at hK ⊢
            refine aw_seq_k fun K15 hK15 => ?_
            refine aw_seq_k fun K16 hK16 => ?_
            refine aw_region ?_
            refine aops_n rfl (n_mv rfl (by constructor)) ?_
            refine aops_n rfl (n_fieldAddr' rfl rfl rfl) ?_
            try dsimp only [St.put]
            refine aops_s rfl (s_load rfl rfl) ?_
            refine aops_n rfl (n_len' rfl rfl (List.length_map _)) ?_
            refine aops_n rfl (n_lss rfl rfl rfl) ?_
            refine aops_nil ?_
            dsimp only [St.put]
            refine hK16 _ ?_
            refine aw_cond rfl (fun hc => ?_) (fun hc => ?_)
            · replace hc := of_decide_eq_true hc
              obtain ⟨s, hs⟩ : ∃ x, e.ss[i]? = some x := some_of_lt (by omega)
              have hso := he s (mem_of_get hs)
              obtain ⟨o1, o2, o3, o4, o5, o6⟩ := hso
              refine aw_skip ?_
              refine hK15 _ ?_
              refine aw_seq_k fun K17 hK17 => ?_
              refine aw_block ?_
              refine aw_seq_k fun K18 hK18 => ?_
              refine aw_region ?_
              refine aops_n rfl (n_fieldAddr' rfl rfl rfl) ?_
              try dsimp only [St.put]
              refine aops_s rfl (s_load rfl rfl) ?_
              refine aops_n rfl (n_mv rfl (by constructor)) ?_
              try dsimp only [St.put]
              refine aops_n rfl (n_indexAddr rfl rfl rfl rfl (map_get (by assumption)) (Enc.len _)) ?_
              try dsimp only [St.put]
              refine aops_s rfl (s_load_agg' rfl rfl (Enc.len _)) ?_
              try dsimp only [St.put]
              refine aops_e rfl (e_allocC rfl ?_)
              try dsimp only [St.put]
              refine aops_e rfl (e_store_all rfl rfl rfl zG rfl rfl (by rfl) ?_)
              refine aops_nil ?_
              dsimp only [St.put]
              refine hK18 _ ?_
              refine aw_commitD (i := 10) rfl zG (by first | exact List.cons_ne_nil _ _ | (simp; done) | (simp [putAt]; done)) ?_
              dsimp only
              refine aw_wipe 11 ?_
              simp only [firsts, getA, Nat.reduceAdd, List.getD_cons_zero, List.getD_cons_succ, List.getD_nil, natBeq, Nat.reduceBEq, cond_true, cond_false]
              refine aw_cutD (X := Bool) (fun b => (decide (au = 0) && hasB s ((k : Int), (n : Int))) = b) (fun b => [(71, .v (.bool b))]) (fun b G' => G') rfl ?_ (fun _ _ _ _ h => .inl h) ?_ ?_
              · rintro b hI
                exact zL
              · refine aw_region ?_
                refine aops_n rfl (n_fieldAddr_box rfl rfl) ?_
                try dsimp only [St.put]
                refine aops_s rfl (s_load_box rfl rfl zG trivial (by first | rfl | assumption)) ?_
                refine aops_n rfl (n_eql rfl rfl rfl) ?_
                refine aops_n rfl (n_mv rfl (by constructor)) ?_
                refine aops_split (fun hs => ?_) (fun hs => ?_)
                · have hs3 := of_decide_eq_true hs
                  refine aops_n rfl (n_fieldAddr' rfl rfl rfl) ?_
                  try dsimp only [St.put]
                  refine aops_s rfl (s_load rfl rfl) ?_
                  refine aops_n rfl (n_mv rfl (by constructor)) ?_
                  refine aops_n rfl (n_eql rfl rfl rfl) ?_
                  refine aops_n rfl (n_pt rfl rfl (by constructor)) ?_
                  refine aops_n rfl (n_mv rfl (by constructor)) ?_
                  refine aops_split (fun hs => ?_) (fun hs => ?_)
                  · have hs9 := of_decide_eq_true hs
                    refine aops_n rfl (n_mv rfl (by constructor)) ?_
                    refine aops_n rfl (n_fieldAddr' rfl rfl rfl) ?_
                    try dsimp only [St.put]
                    refine aops_s rfl (s_load rfl rfl) ?_
                    refine aops_n rfl (n_fieldAddr' rfl rfl rfl) ?_
                    try dsimp only [St.put]
                    refine aops_s rfl (s_load rfl rfl) ?_
                    refine aops_n rfl (n_sub rfl rfl rfl (by omega)) ?_
                    try dsimp only [St.put]
                    refine aops_e rfl (e_call_pure rfl rfl rfl (within2_pure _ _ _) ?_)
                    refine aops_n rfl (n_pt rfl rfl (by constructor)) ?_
                    refine aops_nil ?_
                    dsimp only [St.put]
                    refine ⟨_, ?_, ⟨⟨rfl, rfl⟩, zF, zB, zN, zX⟩⟩
                    (rw [← hasB_in]; simp [hs3, hs9])
                  · have hs9 := of_decide_eq_false hs
                    refine aops_skip rfl ?_
                    refine aops_skip rfl ?_
                    refine aops_skip rfl ?_
                    refine aops_skip rfl ?_
                    refine aops_skip rfl ?_
                    refine aops_skip rfl ?_
                    refine aops_skip rfl ?_
                    refine aops_n rfl (n_pf rfl rfl (by constructor)) ?_
                    refine aops_nil ?_
                    dsimp only [St.put]
                    refine ⟨_, ?_, ⟨⟨rfl, rfl⟩, zF, zB, zN, zX⟩⟩
                    (simp [hs3, hasB, hs9]; done)
                · have hs3 := of_decide_eq_false hs
                  refine aops_skip rfl ?_
                  refine aops_skip rfl ?_
                  refine aops_skip rfl ?_
                  refine aops_skip rfl ?_
                  refine aops_n rfl (n_pf rfl rfl (by constructor)) ?_
                  refine aops_n rfl (n_mv rfl (by constructor)) ?_
                  refine aops_skip rfl ?_
                  refine aops_skip rfl ?_
                  refine aops_skip rfl ?_
                  refine aops_skip rfl ?_
                  refine aops_skip rfl ?_
                  refine aops_skip rfl ?_
                  refine aops_skip rfl ?_
                  refine aops_n rfl (n_pf rfl rfl (by constructor)) ?_
                  refine aops_nil ?_
                  dsimp only [St.put]
                  refine ⟨_, ?_, ⟨⟨rfl, rfl⟩, zF, zB, zN, zX⟩⟩
                  (simp [hs3]; done)
              · rintro b hst
                dsimp only at hst ⊢
                refine aw_cond rfl (fun hc => ?_) (fun hc => ?_)
                · rw [hc] at hst
                  refine aw_draw [(0, none), (1, none), (2, none), (3, none), (4, none), (5, none), (6, none), (7, none), (8, none), (9, none), (10, none), (11, none), (12, none)] (fun i => [12].contains i) (fun i => [10, 12].contains i) (fun i => [0, 2, 4, 5, 6, 8, 9, 11].contains i) [] (by kernel_rfl) (by kernel_rfl) ?_
                  refine acan1_n rfl rfl rfl rfl (n_fieldAddr' rfl rfl rfl) ?_
                  try dsimp only [St.put]
                  refine acan1_s rfl rfl rfl rfl (s_load rfl rfl) ?_
                  refine acan1_n rfl rfl rfl rfl (n_fieldAddr' rfl rfl rfl) ?_
                  try dsimp only [St.put]
                  refine acan1_s rfl rfl rfl rfl (s_load rfl rfl) ?_
                  refine acan1_n rfl rfl rfl rfl (n_mv rfl (by constructor)) ?_
                  refine acan1_n rfl rfl rfl rfl (n_add rfl rfl rfl (by omega)) ?_
                  refine acan1_n rfl rfl rfl rfl (n_fieldAddr' rfl rfl rfl) ?_
                  try dsimp only [St.put]
                  refine acan1_s rfl rfl rfl rfl (s_load rfl rfl) ?_
                  refine acan1_n rfl rfl rfl rfl (n_sub rfl rfl rfl (by omega)) ?_
                  refine acan1_n rfl rfl rfl rfl (n_fieldAddr_box rfl rfl) ?_
                  refine acan1_two ?_
                  try dsimp only [St.put]
                  refine acan2_e rfl rfl rfl (e_store_one rfl rfl rfl zG (by constructor) rfl (by first | (simp; done) | (simp; omega) | exact Nat.lt_of_lt_of_eq (by decide) (Enc.len _).symm) ⟨zD, ?_⟩)
                  refine acan2_n rfl rfl rfl rfl (n_fieldAddr_box rfl rfl) ?_
                  try dsimp only [St.put]
                  refine acan2_late rfl rfl rfl rfl (e_store_one rfl rfl rfl zG (by constructor) rfl (by first | (simp; done) | (simp; omega) | exact Nat.lt_of_lt_of_eq (by decide) (Enc.len _).symm) ?_)
                  refine acan2_nil ?_
                  dsimp only [St.put]
                  refine hK17 _ ?_
                  refine aw_region ?_
                  refine aops_n rfl (n_mv rfl (by constructor)) ?_
                  refine aops_n rfl (n_add rfl rfl rfl (by omega)) ?_
                  refine aops_n rfl (n_as rfl (by constructor)) ?_
                  refine aops_nil ?_
                  dsimp only [St.put]
                  first
                    | exact ⟨(i + 1, v + 1 + 1, s.au, s.fi + n - s.fr), by (dsimp only; omega), ⟨by (dsimp only; omega), rowI_yes he hK.2 hs hst⟩, ⟨⟨rfl, rfl⟩, zF, zB, zN, zX⟩⟩
                    | exact ⟨(i + 1, v, au, nu), by (dsimp only; omega), ⟨by (dsimp only; omega), rowI_no he hK.2 hs hst⟩, ⟨⟨rfl, rfl⟩, zF, zB, zN, zX⟩⟩
                · rw [hc] at hst
                  refine aw_skip ?_
                  refine hK17 _ ?_
                  refine aw_region ?_
                  refine aops_n rfl (n_mv rfl (by constructor)) ?_
                  refine aops_n rfl (n_add rfl rfl rfl (by omega)) ?_
                  refine aops_n rfl (n_as rfl (by constructor)) ?_
                  refine aops_nil ?_
                  dsimp only [St.put]
                  first
                    | exact ⟨(i + 1, v + 1 + 1, s.au, s.fi + n - s.fr), by (dsimp only; omega), ⟨by (dsimp only; omega), rowI_yes he hK.2 hs hst⟩, ⟨⟨rfl, rfl⟩, zF, zB, zN, zX⟩⟩
                    | exact ⟨(i + 1, v, au, nu), by (dsimp only; omega), ⟨by (dsimp only; omega), rowI_no he hK.2 hs hst⟩, ⟨⟨rfl, rfl⟩, zF, zB, zN, zX⟩⟩
            · try replace hc := of_decide_eq_false hc
              refine aw_exit ?_
              refine hK13 _ ?_
              refine aw_region ?_
              refine aops_n rfl (n_mv rfl (by constructor)) ?_
              try dsimp only [St.put]
              refine aops_s rfl (s_load_box_all rfl rfl zG trivial (by rfl)) ?_
              try dsimp only [St.put]
              refine aops_e rfl (e_buildSlice rfl rfl rfl (by decide) (by decide) zR (by decide) ?_)
              try dsimp only [St.put]
              refine aops_e rfl (e_append ([(⟨k, n, au, nu, l.length⟩ : RowD)]) rfl rfl zG (by first | rfl | simp) rfl rfl zA ?_ zA)
              refine aops_n rfl (n_as rfl (by constructor)) ?_
              refine aops_nil ?_
              dsimp only [St.put]
              refine hK11 _ ?_
              refine aw_region ?_
              refine aops_n rfl (n_mv rfl (by constructor)) ?_
              refine aops_n rfl (n_add rfl rfl rfl (by omega)) ?_
              refine aops_n rfl (n_as rfl (by constructor)) ?_
              refine aops_nil ?_
              dsimp only [St.put]
              rw [rowI_end (w := (l.length : Int)) hK.2 (by omega), List.append_assoc, ← rowL_succ e.ss k hn]
              exact ⟨n + 1, by omega, by omega, ⟨⟨rfl, rfl⟩, zF, zB, zN, zX⟩⟩
        · try replace hc := of_decide_eq_false hc
          refine aw_exit ?_
          refine hK7 _ ?_
          refine aw_region ?_
          refine aops_n rfl (n_mv rfl (by constructor)) ?_
          refine aops_n rfl (n_add rfl rfl rfl (by omega)) ?_
          refine aops_n rfl (n_as rfl (by constructor)) ?_
          refine aops_nil ?_
          dsimp only [St.put]
          rw [take_all (show c.lines.length ≤ n by omega), ← rowsT_succ e.ss hk]
          exact ⟨k + 1, by omega, by omega, ⟨⟨rfl, rfl⟩, zF, zB, zN, zX⟩⟩
    · try replace hc := of_decide_eq_false hc
      refine aw_exit ?_
      refine hK3 _ ?_
      refine aw_seq_k fun K20 hK20 => ?_
      refine aw_region ?_
      refine aops_n rfl (n_mv rfl (by constructor)) ?_
      refine aops_n rfl (n_as rfl (by constructor)) ?_
      refine aops_nil ?_
      dsimp only [St.put]
      refine hK20 _ ?_
      refine aw_ret ?_
      refine ends_v1 rfl (rv_tmp (by constructor)) zN zS ?_
      rw [take_all (show t.length ≤ k by omega)]
      exact zW
end Go.Proofs.YtjjklfgpffgnfaaDoor
