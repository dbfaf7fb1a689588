/-
  The law ChartChanges: its walk.
-/
import Derived.Test.YtolcenpmgmpmkaaDoorDbMove
import Derived.Test.YtolcenpmgmpmkaaDoorCzLaw
namespace Go.Proofs.YtolcenpmgmpmkaaDoor
set_option maxRecDepth 10000
open Go.RowKit Go.AB
open Go.AB.Enc (cells)
open Go.PB (Chap TextD PlaceD ReadingD CopyD WayD)
theorem madeEr_len {L : List StretchD} (h : madeEr L = 0) : L.length ≤ 12 := by
  unfold madeEr at h
  by_cases hl : 12 < L.length
  · rw [decide_eq_true hl] at h; cases h
  · omega
theorem splitA_len (t : TextD) (e : EditionD) (cp l to : Int) : (edIf e (splitEr t e cp l to) (splitL t e cp l to)).ss.length ≤ 12 := by
  by_cases h : splitEr t e cp l to = 0
  · rw [h]
    refine madeEr_len (L := splitL t e cp l to) ?_
    unfold splitEr at h
    by_cases h1 : soundEr t e = 0
    · rw [decide_eq_true h1, cond_true] at h
      cases h2 : inAll 1 999 [cp, l, to] with
      | false => rw [h2] at h; cases h
      | true =>
        rw [h2, cond_true] at h
        cases h3 : decide (lastC t e.ss cp < l) with
        | true => rw [h3] at h; cases h
        | false =>
          rw [h3, cond_false] at h
          cases h4 : decide (cp = to) || decide (0 < lastC t e.ss to) with
          | true => rw [h4] at h; cases h
          | false => rw [h4, cond_false] at h; exact h
    · rw [decide_eq_false h1, cond_false] at h
      exact absurd h h1
  · unfold edIf
    rw [decide_eq_false h]
    exact Nat.zero_le _
theorem joinA_len (t : TextD) (e : EditionD) (cp to : Int) : (edIf e (joinEr t e cp to) (joinL t e cp to)).ss.length ≤ 12 := by
  by_cases h : joinEr t e cp to = 0
  · rw [h]
    refine madeEr_len (L := joinL t e cp to) ?_
    unfold joinEr at h
    by_cases h1 : soundEr t e = 0
    · rw [decide_eq_true h1, cond_true] at h
      cases h2 : inAll 1 999 [cp, to] with
      | false => rw [h2] at h; cases h
      | true =>
        rw [h2, cond_true] at h
        cases h3 : decide (lastC t e.ss cp = 0) with
        | true => rw [h3] at h; cases h
        | false =>
          rw [h3, cond_false] at h
          cases h4 : decide (cp = to) || decide (999 < lastC t e.ss cp + lastC t e.ss to) with
          | true => rw [h4] at h; cases h
          | false => rw [h4, cond_false] at h; exact h
    · rw [decide_eq_false h1, cond_false] at h
      exact absurd h h1
  · unfold edIf
    rw [decide_eq_false h]
    exact Nat.zero_le _
set_option maxHeartbeats 2000000 in
theorem changes_pureF (t : TextD) (e : EditionD) (cp l to : Int) : PureF chkF Tryd.prog 4 [textC t, val e, .v (.int .i64 cp), .v (.int .i64 l), .v (.int .i64 to)] (.v (.bool true)) := by
  refine pureF_of_body Tryd.func4 rfl (fun m => .v) fun G nx hF => ?_
  simp only [Tryd.ntmps4, List.length_cons, List.length_nil, Nat.reduceAdd, Nat.reduceSub]
  refine aw_lt fun hlt => ?_
  dsimp only at hlt
  have hnx := hlt 0 _ hF
  obtain ⟨A, hA⟩ : ∃ A, edIf e (splitEr t e cp l to) (splitL t e cp l to) = A := ⟨_, rfl⟩
  obtain ⟨D, hC⟩ : ∃ D, edIf e (joinEr t e cp to) (joinL t e cp to) = D := ⟨_, rfl⟩
  have hAl : A.ss.length ≤ 12 := hA ▸ splitA_len t e cp l to
  have hDl : D.ss.length ≤ 12 := hC ▸ joinA_len t e cp to
  refine aw_seq_k fun K1 hK1 => ?_
  refine aw_region ?_
  try dsimp only [St.put]
  refine aops_e rfl (e_box rfl rfl (by simp) ?_)
  try dsimp only [St.put]
  refine aops_e rfl (e_box rfl rfl (by simp) ?_)
  refine aops_n rfl (n_as rfl (by constructor)) ?_
  refine aops_nil ?_
  dsimp only [St.put]
  refine hK1 _ ?_
  refine aw_seq_k fun K2 hK2 => ?_
  refine aw_seq_k fun K3 hK3 => ?_
  refine aw_region ?_
  try dsimp only [St.put]
  refine aops_s rfl (s_load_agg' rfl rfl rfl) ?_
  try dsimp only [St.put]
  refine aops_s rfl (s_load_agg' rfl rfl (Enc.len _)) ?_
  try dsimp only [St.put]
  refine aops_e rfl (e_buildSlice rfl rfl rfl (by decide) (by decide) zR (by decide) ?_)
  try dsimp only [St.put]
  refine aops_e rfl (e_call_pure rfl rfl rfl (great2_pure t [e]) ?_)
  refine aops_nil ?_
  dsimp only [St.put]
  refine hK3 _ ?_
  refine aw_cond rfl (fun hc => ?_) (fun hc => ?_)
  · skip
    refine aw_seq_k fun K4 hK4 => ?_
    refine aw_region ?_
    refine aops_n rfl (n_as rfl (by constructor)) ?_
    refine aops_nil ?_
    dsimp only [St.put]
    refine hK4 _ ?_
    refine aw_ret ?_
    refine ends_1 rfl (by constructor) zN zS ?_
    rfl
  · have hgt : greatB t = false := by simp at hc; exact hc.2
    have hle : e.ss.length ≤ 20 := by simp at hc; omega
    refine aw_skip ?_
    refine hK2 _ ?_
    refine aw_wipe 13 ?_
    simp only [firsts, getA, Nat.reduceAdd, List.getD_cons_zero, List.getD_cons_succ, List.getD_nil, natBeq, Nat.reduceBEq, cond_true, cond_false]
    refine aw_cutD (X := Unit) (fun _ => True) (fun _ => [(11, .elem [lst t]), (12, .elem (cells e))]) (fun _ G' => G') rfl ?_ (fun _ _ _ _ h => .inl h) ?_ ?_
    · rintro _ hI
      exact zL
    · refine aw_drawT [(0, none), (2, none)] (fun _ => false) (fun i => [].contains i) 6 [true, false, true, false, false, false, false, false] (by kernel_rfl) (by kernel_rfl) ?_
      try dsimp only [St.put]
      refine acan1_s rfl rfl rfl rfl (s_load_agg' rfl rfl rfl) ?_
      try dsimp only [St.put]
      refine acan1_s rfl rfl rfl rfl (s_load_agg' rfl rfl (Enc.len _)) ?_
      refine acan1_nil ?_
      refine aany_step [1, 4, 5] (by kernel_rfl) (by simp) ?_
      refine aeach_cons ?_ ?_
      · try dsimp only [St.put]
        refine aone_e rfl rfl rfl (e_call_pure rfl rfl rfl (Twin_pure t hgt) ?_)
        refine aany_step [3, 4, 5] (by kernel_rfl) (by simp) ?_
        refine aeach_cons ?_ ?_
        · try dsimp only [St.put]
          refine aone_e rfl rfl rfl (e_call_pure rfl rfl rfl (Twin2_pure e (by omega)) ?_)
          refine aany_step [4, 5] (by kernel_rfl) (by simp) ?_
          refine aeach_cons ?_ ?_
          · try dsimp only [St.put]
            refine aone_e rfl rfl rfl (e_allocC rfl ?_)
            refine aany_step [5] (by kernel_rfl) (by simp) ?_
            refine aeach_cons ?_ ?_
            · try dsimp only [St.put]
              refine aone_e rfl rfl rfl (e_allocC rfl ?_)
              refine aany_step [6] (by kernel_rfl) (by simp) ?_
              refine aeach_cons ?_ ?_
              · try dsimp only [St.put]
                refine aone_e rfl rfl rfl (e_store_all rfl rfl rfl zG rfl rfl (by rfl) ?_)
                refine aany_step [7] (by kernel_rfl) (by simp) ?_
                refine aeach_cons ?_ ?_
                · try dsimp only [St.put]
                  refine aone_e rfl rfl rfl (e_store_all rfl rfl rfl zG rfl rfl (by rfl) ?_)
                  dsimp only [St.put]
                  refine aany_of_tr (tr_commit (i := 11) rfl zG (by first | exact List.cons_ne_nil _ _ | (simp; done) | (simp [putAt]; done))) ?_
                  refine aany_of_tr (tr_commit (i := 12) rfl zG (by first | exact List.cons_ne_nil _ _ | (simp; done) | (simp [putAt]; done))) ?_
                  dsimp only
                  refine aany_nil (by kernel_rfl) ?_
                  exact ⟨(), trivial, ⟨⟨rfl, rfl⟩, zF, zB, zN, zX⟩⟩
                exact aeach_nil
              exact aeach_nil
            exact aeach_nil
          refine aeach_cons ?_ ?_
          · try dsimp only [St.put]
            refine aone_e rfl rfl rfl (e_allocC rfl ?_)
            refine aany_step [4] (by kernel_rfl) (by simp) ?_
            refine aeach_cons ?_ ?_
            · try dsimp only [St.put]
              refine aone_e rfl rfl rfl (e_allocC rfl ?_)
              refine aany_step [6] (by kernel_rfl) (by simp) ?_
              refine aeach_cons ?_ ?_
              · try dsimp only [St.put]
                refine aone_e rfl rfl rfl (e_store_all rfl rfl rfl zG rfl rfl (by rfl) ?_)
                refine aany_step [7] (by kernel_rfl) (by simp) ?_
                refine aeach_cons ?_ ?_
                · try dsimp only [St.put]
                  refine aone_e rfl rfl rfl (e_store_all rfl rfl rfl zG rfl rfl (by rfl) ?_)
                  dsimp only [St.put]
                  refine aany_of_tr (tr_commit (i := 11) rfl zG (by first | exact List.cons_ne_nil _ _ | (simp; done) | (simp [putAt]; done))) ?_
                  refine aany_of_tr (tr_commit (i := 12) rfl zG (by first | exact List.cons_ne_nil _ _ | (simp; done) | (simp [putAt]; done))) ?_
                  dsimp only
                  refine aany_nil (by kernel_rfl) ?_
                  exact ⟨(), trivial, ⟨⟨rfl, rfl⟩, zF, zB, zN, zX⟩⟩
                exact aeach_nil
              exact aeach_nil
            exact aeach_nil
          exact aeach_nil
        refine aeach_cons ?_ ?_
        · try dsimp only [St.put]
          refine aone_e rfl rfl rfl (e_allocC rfl ?_)
          refine aany_step [3, 5] (by kernel_rfl) (by simp) ?_
          refine aeach_cons ?_ ?_
          · try dsimp only [St.put]
            refine aone_e rfl rfl rfl (e_call_pure rfl rfl rfl (Twin2_pure e (by omega)) ?_)
            refine aany_step [5] (by kernel_rfl) (by simp) ?_
            refine aeach_cons ?_ ?_
            · try dsimp only [St.put]
              refine aone_e rfl rfl rfl (e_allocC rfl ?_)
              refine aany_step [6] (by kernel_rfl) (by simp) ?_
              refine aeach_cons ?_ ?_
              · try dsimp only [St.put]
                refine aone_e rfl rfl rfl (e_store_all rfl rfl rfl zG rfl rfl (by rfl) ?_)
                refine aany_step [7] (by kernel_rfl) (by simp) ?_
                refine aeach_cons ?_ ?_
                · try dsimp only [St.put]
                  refine aone_e rfl rfl rfl (e_store_all rfl rfl rfl zG rfl rfl (by rfl) ?_)
                  dsimp only [St.put]
                  refine aany_of_tr (tr_commit (i := 11) rfl zG (by first | exact List.cons_ne_nil _ _ | (simp; done) | (simp [putAt]; done))) ?_
                  refine aany_of_tr (tr_commit (i := 12) rfl zG (by first | exact List.cons_ne_nil _ _ | (simp; done) | (simp [putAt]; done))) ?_
                  dsimp only
                  refine aany_nil (by kernel_rfl) ?_
                  exact ⟨(), trivial, ⟨⟨rfl, rfl⟩, zF, zB, zN, zX⟩⟩
                exact aeach_nil
              exact aeach_nil
            exact aeach_nil
          refine aeach_cons ?_ ?_
          · try dsimp only [St.put]
            refine aone_e rfl rfl rfl (e_allocC rfl ?_)
            refine aany_step [3] (by kernel_rfl) (by simp) ?_
            refine aeach_cons ?_ ?_
            · try dsimp only [St.put]
              refine aone_e rfl rfl rfl (e_call_pure rfl rfl rfl (Twin2_pure e (by omega)) ?_)
              refine aany_step [6] (by kernel_rfl) (by simp) ?_
              refine aeach_cons ?_ ?_
              · try dsimp only [St.put]
                refine aone_e rfl rfl rfl (e_store_all rfl rfl rfl zG rfl rfl (by rfl) ?_)
                refine aany_step [7] (by kernel_rfl) (by simp) ?_
                refine aeach_cons ?_ ?_
                · try dsimp only [St.put]
                  refine aone_e rfl rfl rfl (e_store_all rfl rfl rfl zG rfl rfl (by rfl) ?_)
                  dsimp only [St.put]
                  refine aany_of_tr (tr_commit (i := 11) rfl zG (by first | exact List.cons_ne_nil _ _ | (simp; done) | (simp [putAt]; done))) ?_
                  refine aany_of_tr (tr_commit (i := 12) rfl zG (by first | exact List.cons_ne_nil _ _ | (simp; done) | (simp [putAt]; done))) ?_
                  dsimp only
                  refine aany_nil (by kernel_rfl) ?_
                  exact ⟨(), trivial, ⟨⟨rfl, rfl⟩, zF, zB, zN, zX⟩⟩
                exact aeach_nil
              exact aeach_nil
            exact aeach_nil
          exact aeach_nil
        refine aeach_cons ?_ ?_
        · try dsimp only [St.put]
          refine aone_e rfl rfl rfl (e_allocC rfl ?_)
          refine aany_step [3, 4] (by kernel_rfl) (by simp) ?_
          refine aeach_cons ?_ ?_
          · try dsimp only [St.put]
            refine aone_e rfl rfl rfl (e_call_pure rfl rfl rfl (Twin2_pure e (by omega)) ?_)
            refine aany_step [4] (by kernel_rfl) (by simp) ?_
            refine aeach_cons ?_ ?_
            · try dsimp only [St.put]
              refine aone_e rfl rfl rfl (e_allocC rfl ?_)
              refine aany_step [6] (by kernel_rfl) (by simp) ?_
              refine aeach_cons ?_ ?_
              · try dsimp only [St.put]
                refine aone_e rfl rfl rfl (e_store_all rfl rfl rfl zG rfl rfl (by rfl) ?_)
                refine aany_step [7] (by kernel_rfl) (by simp) ?_
                refine aeach_cons ?_ ?_
                · try dsimp only [St.put]
                  refine aone_e rfl rfl rfl (e_store_all rfl rfl rfl zG rfl rfl (by rfl) ?_)
                  dsimp only [St.put]
                  refine aany_of_tr (tr_commit (i := 11) rfl zG (by first | exact List.cons_ne_nil _ _ | (simp; done) | (simp [putAt]; done))) ?_
                  refine aany_of_tr (tr_commit (i := 12) rfl zG (by first | exact List.cons_ne_nil _ _ | (simp; done) | (simp [putAt]; done))) ?_
                  dsimp only
                  refine aany_nil (by kernel_rfl) ?_
                  exact ⟨(), trivial, ⟨⟨rfl, rfl⟩, zF, zB, zN, zX⟩⟩
                exact aeach_nil
              exact aeach_nil
            exact aeach_nil
          refine aeach_cons ?_ ?_
          · try dsimp only [St.put]
            refine aone_e rfl rfl rfl (e_allocC rfl ?_)
            refine aany_step [3] (by kernel_rfl) (by simp) ?_
            refine aeach_cons ?_ ?_
            · try dsimp only [St.put]
              refine aone_e rfl rfl rfl (e_call_pure rfl rfl rfl (Twin2_pure e (by omega)) ?_)
              refine aany_step [6] (by kernel_rfl) (by simp) ?_
              refine aeach_cons ?_ ?_
              · try dsimp only [St.put]
                refine aone_e rfl rfl rfl (e_store_all rfl rfl rfl zG rfl rfl (by rfl) ?_)
                refine aany_step [7] (by kernel_rfl) (by simp) ?_
                refine aeach_cons ?_ ?_
                · try dsimp only [St.put]
                  refine aone_e rfl rfl rfl (e_store_all rfl rfl rfl zG rfl rfl (by rfl) ?_)
                  dsimp only [St.put]
                  refine aany_of_tr (tr_commit (i := 11) rfl zG (by first | exact List.cons_ne_nil _ _ | (simp; done) | (simp [putAt]; done))) ?_
                  refine aany_of_tr (tr_commit (i := 12) rfl zG (by first | exact List.cons_ne_nil _ _ | (simp; done) | (simp [putAt]; done))) ?_
                  dsimp only
                  refine aany_nil (by kernel_rfl) ?_
                  exact ⟨(), trivial, ⟨⟨rfl, rfl⟩, zF, zB, zN, zX⟩⟩
                exact aeach_nil
              exact aeach_nil
            exact aeach_nil
          exact aeach_nil
        exact aeach_nil
      refine aeach_cons ?_ ?_
      · try dsimp only [St.put]
        refine aone_e rfl rfl rfl (e_allocC rfl ?_)
        refine aany_step [1, 5] (by kernel_rfl) (by simp) ?_
        refine aeach_cons ?_ ?_
        · try dsimp only [St.put]
          refine aone_e rfl rfl rfl (e_call_pure rfl rfl rfl (Twin_pure t hgt) ?_)
          refine aany_step [3, 5] (by kernel_rfl) (by simp) ?_
          refine aeach_cons ?_ ?_
          · try dsimp only [St.put]
            refine aone_e rfl rfl rfl (e_call_pure rfl rfl rfl (Twin2_pure e (by omega)) ?_)
            refine aany_step [5] (by kernel_rfl) (by simp) ?_
            refine aeach_cons ?_ ?_
            · try dsimp only [St.put]
              refine aone_e rfl rfl rfl (e_allocC rfl ?_)
              refine aany_step [6] (by kernel_rfl) (by simp) ?_
              refine aeach_cons ?_ ?_
              · try dsimp only [St.put]
                refine aone_e rfl rfl rfl (e_store_all rfl rfl rfl zG rfl rfl (by rfl) ?_)
                refine aany_step [7] (by kernel_rfl) (by simp) ?_
                refine aeach_cons ?_ ?_
                · try dsimp only [St.put]
                  refine aone_e rfl rfl rfl (e_store_all rfl rfl rfl zG rfl rfl (by rfl) ?_)
                  dsimp only [St.put]
                  refine aany_of_tr (tr_commit (i := 11) rfl zG (by first | exact List.cons_ne_nil _ _ | (simp; done) | (simp [putAt]; done))) ?_
                  refine aany_of_tr (tr_commit (i := 12) rfl zG (by first | exact List.cons_ne_nil _ _ | (simp; done) | (simp [putAt]; done))) ?_
                  dsimp only
                  refine aany_nil (by kernel_rfl) ?_
                  exact ⟨(), trivial, ⟨⟨rfl, rfl⟩, zF, zB, zN, zX⟩⟩
                exact aeach_nil
              exact aeach_nil
            exact aeach_nil
          refine aeach_cons ?_ ?_
          · try dsimp only [St.put]
            refine aone_e rfl rfl rfl (e_allocC rfl ?_)
            refine aany_step [3] (by kernel_rfl) (by simp) ?_
            refine aeach_cons ?_ ?_
            · try dsimp only [St.put]
              refine aone_e rfl rfl rfl (e_call_pure rfl rfl rfl (Twin2_pure e (by omega)) ?_)
              refine aany_step [6] (by kernel_rfl) (by simp) ?_
              refine aeach_cons ?_ ?_
              · try dsimp only [St.put]
                refine aone_e rfl rfl rfl (e_store_all rfl rfl rfl zG rfl rfl (by rfl) ?_)
                refine aany_step [7] (by kernel_rfl) (by simp) ?_
                refine aeach_cons ?_ ?_
                · try dsimp only [St.put]
                  refine aone_e rfl rfl rfl (e_store_all rfl rfl rfl zG rfl rfl (by rfl) ?_)
                  dsimp only [St.put]
                  refine aany_of_tr (tr_commit (i := 11) rfl zG (by first | exact List.cons_ne_nil _ _ | (simp; done) | (simp [putAt]; done))) ?_
                  refine aany_of_tr (tr_commit (i := 12) rfl zG (by first | exact List.cons_ne_nil _ _ | (simp; done) | (simp [putAt]; done))) ?_
                  dsimp only
                  refine aany_nil (by kernel_rfl) ?_
                  exact ⟨(), trivial, ⟨⟨rfl, rfl⟩, zF, zB, zN, zX⟩⟩
                exact aeach_nil
              exact aeach_nil
            exact aeach_nil
          exact aeach_nil
        refine aeach_cons ?_ ?_
        · try dsimp only [St.put]
          refine aone_e rfl rfl rfl (e_allocC rfl ?_)
          refine aany_step [1] (by kernel_rfl) (by simp) ?_
          refine aeach_cons ?_ ?_
          · try dsimp only [St.put]
            refine aone_e rfl rfl rfl (e_call_pure rfl rfl rfl (Twin_pure t hgt) ?_)
            refine aany_step [3] (by kernel_rfl) (by simp) ?_
            refine aeach_cons ?_ ?_
            · try dsimp only [St.put]
              refine aone_e rfl rfl rfl (e_call_pure rfl rfl rfl (Twin2_pure e (by omega)) ?_)
              refine aany_step [6] (by kernel_rfl) (by simp) ?_
              refine aeach_cons ?_ ?_
              · try dsimp only [St.put]
                refine aone_e rfl rfl rfl (e_store_all rfl rfl rfl zG rfl rfl (by rfl) ?_)
                refine aany_step [7] (by kernel_rfl) (by simp) ?_
                refine aeach_cons ?_ ?_
                · try dsimp only [St.put]
                  refine aone_e rfl rfl rfl (e_store_all rfl rfl rfl zG rfl rfl (by rfl) ?_)
                  dsimp only [St.put]
                  refine aany_of_tr (tr_commit (i := 11) rfl zG (by first | exact List.cons_ne_nil _ _ | (simp; done) | (simp [putAt]; done))) ?_
                  refine aany_of_tr (tr_commit (i := 12) rfl zG (by first | exact List.cons_ne_nil _ _ | (simp; done) | (simp [putAt]; done))) ?_
                  dsimp only
                  refine aany_nil (by kernel_rfl) ?_
                  exact ⟨(), trivial, ⟨⟨rfl, rfl⟩, zF, zB, zN, zX⟩⟩
                exact aeach_nil
              exact aeach_nil
            exact aeach_nil
          exact aeach_nil
        exact aeach_nil
      refine aeach_cons ?_ ?_
      · try dsimp only [St.put]
        refine aone_e rfl rfl rfl (e_allocC rfl ?_)
        refine aany_step [1, 4] (by kernel_rfl) (by simp) ?_
        refine aeach_cons ?_ ?_
        · try dsimp only [St.put]
          refine aone_e rfl rfl rfl (e_call_pure rfl rfl rfl (Twin_pure t hgt) ?_)
          refine aany_step [3, 4] (by kernel_rfl) (by simp) ?_
          refine aeach_cons ?_ ?_
          · try dsimp only [St.put]
            refine aone_e rfl rfl rfl (e_call_pure rfl rfl rfl (Twin2_pure e (by omega)) ?_)
            refine aany_step [4] (by kernel_rfl) (by simp) ?_
            refine aeach_cons ?_ ?_
            · try dsimp only [St.put]
              refine aone_e rfl rfl rfl (e_allocC rfl ?_)
              refine aany_step [6] (by kernel_rfl) (by simp) ?_
              refine aeach_cons ?_ ?_
              · try dsimp only [St.put]
                refine aone_e rfl rfl rfl (e_store_all rfl rfl rfl zG rfl rfl (by rfl) ?_)
                refine aany_step [7] (by kernel_rfl) (by simp) ?_
                refine aeach_cons ?_ ?_
                · try dsimp only [St.put]
                  refine aone_e rfl rfl rfl (e_store_all rfl rfl rfl zG rfl rfl (by rfl) ?_)
                  dsimp only [St.put]
                  refine aany_of_tr (tr_commit (i := 11) rfl zG (by first | exact List.cons_ne_nil _ _ | (simp; done) | (simp [putAt]; done))) ?_
                  refine aany_of_tr (tr_commit (i := 12) rfl zG (by first | exact List.cons_ne_nil _ _ | (simp; done) | (simp [putAt]; done))) ?_
                  dsimp only
                  refine aany_nil (by kernel_rfl) ?_
                  exact ⟨(), trivial, ⟨⟨rfl, rfl⟩, zF, zB, zN, zX⟩⟩
                exact aeach_nil
              exact aeach_nil
            exact aeach_nil
          refine aeach_cons ?_ ?_
          · try dsimp only [St.put]
            refine aone_e rfl rfl rfl (e_allocC rfl ?_)
            refine aany_step [3] (by kernel_rfl) (by simp) ?_
            refine aeach_cons ?_ ?_
            · try dsimp only [St.put]
              refine aone_e rfl rfl rfl (e_call_pure rfl rfl rfl (Twin2_pure e (by omega)) ?_)
              refine aany_step [6] (by kernel_rfl) (by simp) ?_
              refine aeach_cons ?_ ?_
              · try dsimp only [St.put]
                refine aone_e rfl rfl rfl (e_store_all rfl rfl rfl zG rfl rfl (by rfl) ?_)
                refine aany_step [7] (by kernel_rfl) (by simp) ?_
                refine aeach_cons ?_ ?_
                · try dsimp only [St.put]
                  refine aone_e rfl rfl rfl (e_store_all rfl rfl rfl zG rfl rfl (by rfl) ?_)
                  dsimp only [St.put]
                  refine aany_of_tr (tr_commit (i := 11) rfl zG (by first | exact List.cons_ne_nil _ _ | (simp; done) | (simp [putAt]; done))) ?_
                  refine aany_of_tr (tr_commit (i := 12) rfl zG (by first | exact List.cons_ne_nil _ _ | (simp; done) | (simp [putAt]; done))) ?_
                  dsimp only
                  refine aany_nil (by kernel_rfl) ?_
                  exact ⟨(), trivial, ⟨⟨rfl, rfl⟩, zF, zB, zN, zX⟩⟩
                exact aeach_nil
              exact aeach_nil
            exact aeach_nil
          exact aeach_nil
        refine aeach_cons ?_ ?_
        · try dsimp only [St.put]
          refine aone_e rfl rfl rfl (e_allocC rfl ?_)
          refine aany_step [1] (by kernel_rfl) (by simp) ?_
          refine aeach_cons ?_ ?_
          · try dsimp only [St.put]
            refine aone_e rfl rfl rfl (e_call_pure rfl rfl rfl (Twin_pure t hgt) ?_)
            refine aany_step [3] (by kernel_rfl) (by simp) ?_
            refine aeach_cons ?_ ?_
            · try dsimp only [St.put]
              refine aone_e rfl rfl rfl (e_call_pure rfl rfl rfl (Twin2_pure e (by omega)) ?_)
              refine aany_step [6] (by kernel_rfl) (by simp) ?_
              refine aeach_cons ?_ ?_
              · try dsimp only [St.put]
                refine aone_e rfl rfl rfl (e_store_all rfl rfl rfl zG rfl rfl (by rfl) ?_)
                refine aany_step [7] (by kernel_rfl) (by simp) ?_
                refine aeach_cons ?_ ?_
                · try dsimp only [St.put]
                  refine aone_e rfl rfl rfl (e_store_all rfl rfl rfl zG rfl rfl (by rfl) ?_)
                  dsimp only [St.put]
                  refine aany_of_tr (tr_commit (i := 11) rfl zG (by first | exact List.cons_ne_nil _ _ | (simp; done) | (simp [putAt]; done))) ?_
                  refine aany_of_tr (tr_commit (i := 12) rfl zG (by first | exact List.cons_ne_nil _ _ | (simp; done) | (simp [putAt]; done))) ?_
                  dsimp only
                  refine aany_nil (by kernel_rfl) ?_
                  exact ⟨(), trivial, ⟨⟨rfl, rfl⟩, zF, zB, zN, zX⟩⟩
                exact aeach_nil
              exact aeach_nil
            exact aeach_nil
          exact aeach_nil
        exact aeach_nil
      exact aeach_nil
    · rintro _ hI
      dsimp only at hI ⊢
      refine aw_seq_k fun K6 hK6 => ?_
      refine aw_region ?_
      try dsimp only [St.put]
      refine aops_s rfl (s_load_agg' rfl rfl rfl) ?_
      try dsimp only [St.put]
      refine aops_s rfl (s_load_agg' rfl rfl (Enc.len _)) ?_
      refine aops_n rfl (n_mv rfl (by constructor)) ?_
      refine aops_n rfl (n_mv rfl (by constructor)) ?_
      refine aops_n rfl (n_mv rfl (by constructor)) ?_
      try dsimp only [St.put]
      refine aops_e rfl (e_call_namedY rfl rfl rfl (split_pc t e cp l to hle _ _ zG) (fun ya hya => ?_))
      dsimp only [St.put] at hya
      refine aops_n rfl (n_mv rfl (by constructor)) ?_
      refine aops_n rfl (n_extract rfl rfl rfl) ?_
      refine aops_n rfl (n_extract rfl rfl rfl) ?_
      try dsimp only [St.put]
      refine aops_e rfl (e_allocC rfl ?_)
      try dsimp only [St.put]
      refine aops_e rfl (e_store_all rfl rfl rfl zG rfl rfl (by rfl) ?_)
      refine aops_n rfl (n_as rfl (by constructor)) ?_
      refine aops_nil ?_
      dsimp only [St.put]
      rw [hA]
      refine hK6 _ ?_
      refine aw_seq_k fun K7 hK7 => ?_
      refine aw_region ?_
      try dsimp only [St.put]
      refine aops_s rfl (s_load_agg' rfl rfl rfl) ?_
      try dsimp only [St.put]
      refine aops_s rfl (s_load_agg' rfl rfl (Enc.len _)) ?_
      refine aops_n rfl (n_mv rfl (by constructor)) ?_
      refine aops_n rfl (n_mv rfl (by constructor)) ?_
      refine aops_n rfl (n_mv rfl (by constructor)) ?_
      try dsimp only [St.put]
      refine aops_e rfl (e_call_pure rfl rfl rfl (Split_pure t e cp l to) ?_)
      refine aops_n rfl (n_mv rfl (by constructor)) ?_
      refine aops_n rfl (n_extract rfl rfl rfl) ?_
      refine aops_n rfl (n_extract rfl rfl rfl) ?_
      try dsimp only [St.put]
      refine aops_e rfl (e_allocC rfl ?_)
      try dsimp only [St.put]
      refine aops_e rfl (e_store_all rfl rfl rfl zG rfl rfl (by rfl) ?_)
      refine aops_n rfl (n_as rfl (by constructor)) ?_
      refine aops_nil ?_
      dsimp only [St.put]
      rw [hA]
      refine hK7 _ ?_
      refine aw_commitD (i := 15) rfl zG (by first | exact List.cons_ne_nil _ _ | (simp; done) | (simp [putAt]; done)) ?_
      dsimp only
      refine aw_seq_k fun K8 hK8 => ?_
      refine aw_region ?_
      try dsimp only [St.put]
      refine aops_s rfl (s_load_agg' rfl rfl rfl) ?_
      try dsimp only [St.put]
      refine aops_s rfl (s_load_agg' rfl rfl (Enc.len _)) ?_
      refine aops_n rfl (n_mv rfl (by constructor)) ?_
      refine aops_n rfl (n_mv rfl (by constructor)) ?_
      try dsimp only [St.put]
      refine aops_e rfl (e_call_namedY rfl rfl rfl (join_pc t e cp to hle _ _ zG) (fun yc hyc => ?_))
      dsimp only [St.put] at hyc
      refine aops_n rfl (n_mv rfl (by constructor)) ?_
      refine aops_n rfl (n_extract rfl rfl rfl) ?_
      refine aops_n rfl (n_extract rfl rfl rfl) ?_
      try dsimp only [St.put]
      refine aops_e rfl (e_allocC rfl ?_)
      try dsimp only [St.put]
      refine aops_e rfl (e_store_all rfl rfl rfl zG rfl rfl (by rfl) ?_)
      refine aops_n rfl (n_as rfl (by constructor)) ?_
      refine aops_nil ?_
      dsimp only [St.put]
      rw [hC]
      refine hK8 _ ?_
      refine aw_seq_k fun K9 hK9 => ?_
      refine aw_region ?_
      try dsimp only [St.put]
      refine aops_s rfl (s_load_agg' rfl rfl rfl) ?_
      try dsimp only [St.put]
      refine aops_s rfl (s_load_agg' rfl rfl (Enc.len _)) ?_
      refine aops_n rfl (n_mv rfl (by constructor)) ?_
      refine aops_n rfl (n_mv rfl (by constructor)) ?_
      try dsimp only [St.put]
      refine aops_e rfl (e_call_pure rfl rfl rfl (Join_pure t e cp to) ?_)
      refine aops_n rfl (n_mv rfl (by constructor)) ?_
      refine aops_n rfl (n_extract rfl rfl rfl) ?_
      refine aops_n rfl (n_extract rfl rfl rfl) ?_
      try dsimp only [St.put]
      refine aops_e rfl (e_allocC rfl ?_)
      try dsimp only [St.put]
      refine aops_e rfl (e_store_all rfl rfl rfl zG rfl rfl (by rfl) ?_)
      refine aops_n rfl (n_as rfl (by constructor)) ?_
      refine aops_nil ?_
      dsimp only [St.put]
      rw [hC]
      refine hK9 _ ?_
      refine aw_commitD (i := 19) rfl zG (by first | exact List.cons_ne_nil _ _ | (simp; done) | (simp [putAt]; done)) ?_
      dsimp only
      refine aw_seq_k fun K10 hK10 => ?_
      refine aw_region ?_
      try dsimp only [St.put]
      refine aops_s rfl (s_load_box_all rfl rfl zG trivial (by rfl)) ?_
      try dsimp only [St.put]
      refine aops_s rfl (s_load_agg' rfl rfl (Enc.len _)) ?_
      try dsimp only [St.put]
      refine aops_e rfl (e_call_read (as' := [val A, val A]) rfl rfl rfl (Same2_self A) ⟨rdg_ed zG, .low (val_low _ _), trivial⟩ (flat_v _) ?_)
      refine aops_n rfl (n_mv rfl (by constructor)) ?_
      refine aops_n rfl (n_mv rfl (by constructor)) ?_
      refine aops_n rfl (n_mv rfl (by constructor)) ?_
      refine aops_n rfl (n_bool (n_eql rfl rfl rfl) (decide_eq_true (by omega))) ?_
      refine aops_n rfl (n_pt rfl rfl (by constructor)) ?_
      refine aops_n rfl (n_mv rfl (by constructor)) ?_
      try dsimp only [St.put]
      refine aops_s rfl (s_load_box_all rfl rfl zG trivial (by rfl)) ?_
      try dsimp only [St.put]
      refine aops_s rfl (s_load_agg' rfl rfl (Enc.len _)) ?_
      try dsimp only [St.put]
      refine aops_e rfl (e_call_read (as' := [val D, val D]) rfl rfl rfl (Same2_self D) ⟨rdg_ed zG, .low (val_low _ _), trivial⟩ (flat_v _) ?_)
      refine aops_n rfl (n_pt rfl rfl (by constructor)) ?_
      refine aops_n rfl (n_mv rfl (by constructor)) ?_
      refine aops_n rfl (n_mv rfl (by constructor)) ?_
      refine aops_n rfl (n_mv rfl (by constructor)) ?_
      refine aops_n rfl (n_bool (n_eql rfl rfl rfl) (decide_eq_true (by omega))) ?_
      refine aops_n rfl (n_pt rfl rfl (by constructor)) ?_
      refine aops_n rfl (n_as rfl (by constructor)) ?_
      refine aops_nil ?_
      dsimp only [St.put]
      refine hK10 _ ?_
      refine aw_seq_k fun K11 hK11 => ?_
      refine aw_seq_k fun K12 hK12 => ?_
      refine aw_region ?_
      refine aops_n rfl (n_fieldAddr_box rfl rfl) ?_
      try dsimp only [St.put]
      refine aops_s rfl (s_load_box rfl rfl zG trivial (by first | rfl | assumption)) ?_
      refine aops_n rfl (n_len_own rfl rfl) ?_
      refine aops_n rfl (n_mv rfl (by constructor)) ?_
      refine aops_nil ?_
      dsimp only [St.put]
      refine hK12 _ ?_
      refine aw_block ?_
      refine aw_wipe 88 ?_
      simp only [firsts, getA, Nat.reduceAdd, List.getD_cons_zero, List.getD_cons_succ, List.getD_nil, natBeq, Nat.reduceBEq, cond_true, cond_false]
      refine aw_forget ((setG (setG (setG (setG G ya.1 (.arr A.ss.length ya.2 50 5 A.ss.length (flatC A.ss))) (ya.1 + 1) (.box 1 [.v (.int .i64 A.id), .own ya.1 A.ss.length A.ss.length])) yc.1 (.arr D.ss.length yc.2 50 5 D.ss.length (flatC D.ss))) (yc.1 + 1) (.box 1 [.v (.int .i64 D.id), .own yc.1 D.ss.length D.ss.length]))) zX ?_
      dsimp only
      refine aw_loopD (X := Nat × Nat × List StretchD) (fun x => x.1 ≤ A.ss.length ∧ x.2.2.length = A.ss.length) (fun x => A.ss.length - x.1) (fun x => [(22, .any), (87, .v (.int .i64 (x.1 : Int)))]) (fun x G' => (setG (setG (setG (setG G ya.1 (.arr A.ss.length x.2.1 50 5 A.ss.length (flatC x.2.2))) (ya.1 + 1) (.box 1 [.v (.int .i64 A.id), .own ya.1 A.ss.length A.ss.length])) yc.1 (.arr D.ss.length yc.2 50 5 D.ss.length (flatC D.ss))) (yc.1 + 1) (.box 1 [.v (.int .i64 D.id), .own yc.1 D.ss.length D.ss.length]))) (0, ya.2, A.ss) rfl ?_ ?_ ?_ ?_ ?_ ?_
      · exact ⟨Nat.zero_le _, rfl⟩
      · exact zF
      · exact zX
      · rintro ⟨k, w, zs⟩ hI
        exact zL
      · rintro ⟨k, w, zs⟩ hI
        exact zH
      · rintro ⟨k, w, zs⟩ hI
        dsimp only at hI ⊢
        refine aw_seq_k fun K13 hK13 => ?_
        refine aw_region ?_
        refine aops_n rfl (n_lss rfl rfl rfl) ?_
        refine aops_nil ?_
        dsimp only [St.put]
        refine hK13 _ ?_
        refine aw_seq_k fun K14 hK14 => ?_
        refine aw_cond rfl (fun hc => ?_) (fun hc => ?_)
        · replace hc := of_decide_eq_true hc
          obtain ⟨z, hz⟩ : ∃ x, zs[k]? = some x := some_of_lt (by omega)
          refine aw_skip ?_
          refine hK14 _ ?_
          refine aw_seq_k fun K15 hK15 => ?_
          refine aw_block ?_
          refine aw_seq_k fun K16 hK16 => ?_
          refine aw_region ?_
          refine aops_n rfl (n_mv rfl (by constructor)) ?_
          refine aops_n rfl (n_as rfl (by constructor)) ?_
          refine aops_nil ?_
          dsimp only [St.put]
          refine hK16 _ ?_
          refine aw_region ?_
          refine aops_n rfl (n_fieldAddr_box rfl rfl) ?_
          try dsimp only [St.put]
          refine aops_s rfl (s_load_box rfl rfl zG trivial (by first | rfl | assumption)) ?_
          refine aops_n rfl (n_mv rfl (by constructor)) ?_
          try dsimp only [St.put]
          refine aops_n rfl (n_indexAddr_own (k := k) rfl rfl zG rfl (by first | exact rfl | omega) (by first | omega | (simp; omega))) ?_
          refine aops_n rfl (n_fieldAddr_box rfl rfl) ?_
          try dsimp only [St.put]
          refine aops_e rfl (e_store_own1 (k := k) (j := 3) (z := z) (z' := { z with au := 0 }) rfl rfl rfl zG rfl rfl hz rfl (by decide) rfl ?_)
          refine aops_nil ?_
          dsimp only [St.put]
          refine hK15 _ ?_
          refine aw_region ?_
          refine aops_n rfl (n_add rfl rfl rfl (by omega)) ?_
          refine aops_n rfl (n_mv rfl (by constructor)) ?_
          refine aops_nil ?_
          dsimp only [St.put]
          exact ⟨(k + 1, w + 1, zs.set k { z with au := 0 }), by (dsimp only; omega), ⟨by (dsimp only; omega), by (dsimp only; rw [List.length_set]; exact hI.2)⟩, ⟨⟨rfl, rfl⟩, zF, zB, zN, zX⟩⟩
        · try replace hc := of_decide_eq_false hc
          refine aw_exit ?_
          refine hK11 _ ?_
          refine aw_seq_k fun K17 hK17 => ?_
          refine aw_seq_k fun K18 hK18 => ?_
          refine aw_region ?_
          refine aops_n rfl (n_fieldAddr_box rfl rfl) ?_
          try dsimp only [St.put]
          refine aops_s rfl (s_load_box rfl rfl zG trivial (by first | rfl | assumption)) ?_
          refine aops_n rfl (n_len_own rfl rfl) ?_
          refine aops_n rfl (n_mv rfl (by constructor)) ?_
          refine aops_nil ?_
          dsimp only [St.put]
          refine hK18 _ ?_
          refine aw_block ?_
          refine aw_wipe 100 ?_
          simp only [firsts, getA, Nat.reduceAdd, List.getD_cons_zero, List.getD_cons_succ, List.getD_nil, natBeq, Nat.reduceBEq, cond_true, cond_false]
          refine aw_forget ((setG (setG (setG (setG G ya.1 (.arr A.ss.length w 50 5 A.ss.length (flatC zs))) (ya.1 + 1) (.box 1 [.v (.int .i64 A.id), .own ya.1 A.ss.length A.ss.length])) yc.1 (.arr D.ss.length yc.2 50 5 D.ss.length (flatC D.ss))) (yc.1 + 1) (.box 1 [.v (.int .i64 D.id), .own yc.1 D.ss.length D.ss.length]))) zX ?_
          dsimp only
          refine aw_loopD (X := Nat × Nat × List StretchD) (fun x => x.1 ≤ D.ss.length ∧ x.2.2.length = D.ss.length) (fun x => D.ss.length - x.1) (fun x => [(23, .any), (99, .v (.int .i64 (x.1 : Int)))]) (fun x G' => (setG (setG (setG (setG G ya.1 (.arr A.ss.length w 50 5 A.ss.length (flatC zs))) (ya.1 + 1) (.box 1 [.v (.int .i64 A.id), .own ya.1 A.ss.length A.ss.length])) yc.1 (.arr D.ss.length x.2.1 50 5 D.ss.length (flatC x.2.2))) (yc.1 + 1) (.box 1 [.v (.int .i64 D.id), .own yc.1 D.ss.length D.ss.length]))) (0, yc.2, D.ss) rfl ?_ ?_ ?_ ?_ ?_ ?_
          · exact ⟨Nat.zero_le _, rfl⟩
          · exact zF
          · exact zX
          · rintro ⟨k2, w2, zs2⟩ hI
            exact zL
          · rintro ⟨k2, w2, zs2⟩ hI
            exact zH
          · rintro ⟨k2, w2, zs2⟩ hJ
            dsimp only at hJ ⊢
            refine aw_seq_k fun K19 hK19 => ?_
            refine aw_region ?_
            refine aops_n rfl (n_lss rfl rfl rfl) ?_
            refine aops_nil ?_
            dsimp only [St.put]
            refine hK19 _ ?_
            refine aw_seq_k fun K20 hK20 => ?_
            refine aw_cond rfl (fun hc => ?_) (fun hc => ?_)
            · replace hc := of_decide_eq_true hc
              obtain ⟨z2, hz2⟩ : ∃ x, zs2[k2]? = some x := some_of_lt (by omega)
              refine aw_skip ?_
              refine hK20 _ ?_
              refine aw_seq_k fun K21 hK21 => ?_
              refine aw_block ?_
              refine aw_seq_k fun K22 hK22 => ?_
              refine aw_region ?_
              refine aops_n rfl (n_mv rfl (by constructor)) ?_
              refine aops_n rfl (n_as rfl (by constructor)) ?_
              refine aops_nil ?_
              dsimp only [St.put]
              refine hK22 _ ?_
              refine aw_region ?_
              refine aops_n rfl (n_fieldAddr_box rfl rfl) ?_
              try dsimp only [St.put]
              refine aops_s rfl (s_load_box rfl rfl zG trivial (by first | rfl | assumption)) ?_
              refine aops_n rfl (n_mv rfl (by constructor)) ?_
              try dsimp only [St.put]
              refine aops_n rfl (n_indexAddr_own (k := k2) rfl rfl zG rfl (by first | exact rfl | omega) (by first | omega | (simp; omega))) ?_
              refine aops_n rfl (n_fieldAddr_box rfl rfl) ?_
              try dsimp only [St.put]
              refine aops_e rfl (e_store_own1 (k := k2) (j := 3) (z := z2) (z' := { z2 with au := 0 }) rfl rfl rfl zG rfl rfl hz2 rfl (by decide) rfl ?_)
              refine aops_nil ?_
              dsimp only [St.put]
              refine hK21 _ ?_
              refine aw_region ?_
              refine aops_n rfl (n_add rfl rfl rfl (by omega)) ?_
              refine aops_n rfl (n_mv rfl (by constructor)) ?_
              refine aops_nil ?_
              dsimp only [St.put]
              exact ⟨(k2 + 1, w2 + 1, zs2.set k2 { z2 with au := 0 }), by (dsimp only; omega), ⟨by (dsimp only; omega), by (dsimp only; rw [List.length_set]; exact hJ.2)⟩, ⟨⟨rfl, rfl⟩, zF, zB, zN, zX⟩⟩
            · try replace hc := of_decide_eq_false hc
              refine aw_exit ?_
              refine hK17 _ ?_
              refine aw_seq_k fun K23 hK23 => ?_
              refine aw_region ?_
              refine aops_n rfl (n_mv rfl (by constructor)) ?_
              refine aops_n rfl (n_mv rfl (by constructor)) ?_
              try dsimp only [St.put]
              refine aops_s rfl (s_load_agg' rfl rfl rfl) ?_
              try dsimp only [St.put]
              refine aops_s rfl (s_load_agg' rfl rfl rfl) ?_
              try dsimp only [St.put]
              refine aops_e rfl (e_call_pure rfl rfl rfl (Same_self _) ?_)
              refine aops_n rfl (n_pt rfl rfl (by constructor)) ?_
              refine aops_n rfl (n_mv rfl (by constructor)) ?_
              try dsimp only [St.put]
              refine aops_s rfl (s_load_agg' rfl rfl (Enc.len _)) ?_
              try dsimp only [St.put]
              refine aops_s rfl (s_load_agg' rfl rfl (Enc.len _)) ?_
              try dsimp only [St.put]
              refine aops_e rfl (e_call_pure rfl rfl rfl (Same2_self _) ?_)
              refine aops_n rfl (n_pt rfl rfl (by constructor)) ?_
              refine aops_n rfl (n_as rfl (by constructor)) ?_
              refine aops_nil ?_
              dsimp only [St.put]
              refine hK23 _ ?_
              refine aw_ret ?_
              refine ends_1 rfl (by constructor) zN zS ?_
              rfl
end Go.Proofs.YtolcenpmgmpmkaaDoor
