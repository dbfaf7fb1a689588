/-
  The law ChartTells: its walk.
-/
import Derived.Test.YtolcenpmgmpmkaaDoorCyPlain
namespace Go.Proofs.YtolcenpmgmpmkaaDoor
set_option maxRecDepth 10000
open Go.RowKit Go.AB
open Go.AB.Enc (cells)
open Go.PB (Chap TextD PlaceD ReadingD CopyD WayD)
theorem chartPlain_ok (t : TextD) (e : EditionD) (hl : e.ss.length ≤ 20) (h : soundEr t e = 0) (G : Nat → Option GObj) (nx : Nat) (hF : G 0 = some chkF) :
    PC Tryd.prog 17 [textC t, val e] G nx fun r G' nx' => ∃ y : Nat, r = .tup [.agg [.v (.int .i64 e.id), .own (nx + 1 + 1 + 1 + 1 + 1 + 1 + 1) (plainS (asOf e.ss) (linesT t)).length (plainS (asOf e.ss) (linesT t)).length], .v (.int .i64 0)] ∧ G' = setG G (nx + 1 + 1 + 1 + 1 + 1 + 1 + 1) (.arr (plainS (asOf e.ss) (linesT t)).length y 50 5 (plainS (asOf e.ss) (linesT t)).length (flatC (plainS (asOf e.ss) (linesT t)))) ∧ nx' = (nx + 1 + 1 + 1 + 1 + 1 + 1 + 1) + 1 := by
  refine pc_namedX_of_body (fun (y : Nat) => setG G (nx + 1 + 1 + 1 + 1 + 1 + 1 + 1) (.arr (plainS (asOf e.ss) (linesT t)).length y 50 5 (plainS (asOf e.ss) (linesT t)).length (flatC (plainS (asOf e.ss) (linesT t))))) ((nx + 1 + 1 + 1 + 1 + 1 + 1 + 1) + 1) Tryd.func17 rfl (.tup (low_cons (.agg (low_cons .v (low_cons (.own (show (nx + 1 + 1 + 1 + 1 + 1 + 1 + 1) < (nx + 1 + 1 + 1 + 1 + 1 + 1 + 1) + 1 by omega)) low_nil))) (low_cons .v low_nil))) zN (fun hlt y => zH) ?_
  simp only [Tryd.ntmps17, List.length_cons, List.length_nil, Nat.reduceAdd, Nat.reduceSub]
  refine aw_lt fun hlt => ?_
  dsimp only at hlt
  have hnx := hlt 0 _ hF
  obtain ⟨h0, hfc⟩ := soundEr_check h
  obtain ⟨ht, hl12, he⟩ := checkEr_text h0
  have hb : ∀ p v, asOf e.ss p = some v → -100000 ≤ v.2 ∧ v.2 ≤ 100000 := fun p v hv => by
    have := asOf_pos he hv
    omega
  refine aw_seq_k fun K1 hK1 => ?_
  refine aw_region ?_
  try dsimp only [St.put]
  refine aops_e rfl (e_box rfl rfl (by simp) ?_)
  try dsimp only [St.put]
  refine aops_e rfl (e_box rfl rfl (by simp) ?_)
  try dsimp only [St.put]
  refine aops_e rfl (e_allocC rfl ?_)
  refine aops_n rfl (n_as rfl (by constructor)) ?_
  refine aops_nil ?_
  dsimp only [St.put]
  refine hK1 _ ?_
  refine aw_seq_k fun K2 hK2 => ?_
  refine aw_region ?_
  try dsimp only [St.put]
  refine aops_s rfl (s_load_agg' rfl rfl rfl) ?_
  try dsimp only [St.put]
  refine aops_s rfl (s_load_agg' rfl rfl (Enc.len _)) ?_
  try dsimp only [St.put]
  refine aops_e rfl (e_buildSlice rfl rfl rfl (by decide) (by decide) zR (by decide) ?_)
  try dsimp only [St.put]
  refine aops_e rfl (e_call_namedX rfl rfl rfl (sound1_ok t e hl h _ _ zG) (fun y => ?_))
  refine aops_n rfl (n_mv rfl (by constructor)) ?_
  refine aops_n rfl (n_extract rfl rfl rfl) ?_
  refine aops_n rfl (n_extract rfl rfl rfl) ?_
  refine aops_n rfl (n_as rfl (by constructor)) ?_
  refine aops_n rfl (n_as rfl (by constructor)) ?_
  refine aops_nil ?_
  dsimp only [St.put]
  refine hK2 _ ?_
  refine aw_seq_k fun K3 hK3 => ?_
  refine aw_seq_k fun K4 hK4 => ?_
  refine aw_region ?_
  refine aops_n rfl (n_mv rfl (by constructor)) ?_
  refine aops_n rfl (n_bool (c := false) (n_neq rfl rfl rfl) (by rfl)) ?_
  refine aops_nil ?_
  dsimp only [St.put]
  refine hK4 _ ?_
  refine aw_cond rfl (fun h => by cases h) (fun _ => ?_)
  refine aw_skip ?_
  refine hK3 _ ?_
  refine aw_seq_k fun K5 hK5 => ?_
  refine aw_region ?_
  refine aops_n rfl (n_mv rfl (by constructor)) ?_
  try dsimp only [St.put]
  refine aops_n rfl (n_indexAddr (k := 0) rfl rfl rfl (by first | rfl | omega) rfl rfl) ?_
  try dsimp only [St.put]
  refine aops_s rfl (s_load rfl rfl) ?_
  try dsimp only [St.put]
  refine aops_e rfl (e_call_namedX rfl rfl rfl (bookPlain_pc t e (asOf e.ss) _ _ _ ht hb _ _ (by dsimp only [St.put]; omega) (by dsimp only [St.put]; omega) zG) (fun y2 => ?_))
  try dsimp only [St.put]
  refine aops_e rfl (e_store_all rfl rfl rfl zG rfl rfl (by rfl) ?_)
  refine aops_n rfl (n_as rfl (by constructor)) ?_
  refine aops_nil ?_
  dsimp only [St.put]
  refine hK5 _ ?_
  refine aw_ret ?_
  refine ⟨y2, ?_⟩
  refine ends_v2 rfl (rv_box rfl zG (by rfl) (by first | exact List.cons_ne_nil _ _ | (simp; done) | (simp [putAt]; done)) rfl) (rv_tmp (by constructor)) zN zX ?_ ?_
  · exact zW
  · exact zW
theorem chartPlain_no (t : TextD) (e : EditionD) (hl : e.ss.length ≤ 20) (h : soundEr t e ≠ 0) : PureF chkF Tryd.prog 17 [textC t, val e] (.tup [val (⟨0, []⟩ : EditionD), .v (.int .i64 (soundEr t e))]) := by
  refine pureF_of_body Tryd.func17 rfl (fun m => .tup (low_cons (val_low _ _) (low_cons .v low_nil))) fun G nx hF => ?_
  simp only [Tryd.ntmps17, List.length_cons, List.length_nil, Nat.reduceAdd, Nat.reduceSub]
  refine aw_lt fun hlt => ?_
  dsimp only at hlt
  have hnx := hlt 0 _ hF
  refine aw_seq_k fun K1 hK1 => ?_
  refine aw_region ?_
  try dsimp only [St.put]
  refine aops_e rfl (e_box rfl rfl (by simp) ?_)
  try dsimp only [St.put]
  refine aops_e rfl (e_box rfl rfl (by simp) ?_)
  try dsimp only [St.put]
  refine aops_e rfl (e_allocC rfl ?_)
  refine aops_n rfl (n_as rfl (by constructor)) ?_
  refine aops_nil ?_
  dsimp only [St.put]
  refine hK1 _ ?_
  refine aw_seq_k fun K2 hK2 => ?_
  refine aw_region ?_
  try dsimp only [St.put]
  refine aops_s rfl (s_load_agg' rfl rfl rfl) ?_
  try dsimp only [St.put]
  refine aops_s rfl (s_load_agg' rfl rfl (Enc.len _)) ?_
  try dsimp only [St.put]
  refine aops_e rfl (e_buildSlice rfl rfl rfl (by decide) (by decide) zR (by decide) ?_)
  try dsimp only [St.put]
  refine aops_e rfl (e_call_f rfl rfl rfl (sound1_no t e hl h) zG ?_)
  refine aops_n rfl (n_mv rfl (by constructor)) ?_
  refine aops_n rfl (n_extract rfl rfl rfl) ?_
  refine aops_n rfl (n_extract rfl rfl rfl) ?_
  refine aops_n rfl (n_as rfl (by constructor)) ?_
  refine aops_n rfl (n_as rfl (by constructor)) ?_
  refine aops_nil ?_
  dsimp only [St.put]
  refine hK2 _ ?_
  refine aw_seq_k fun K3 hK3 => ?_
  refine aw_seq_k fun K4 hK4 => ?_
  refine aw_region ?_
  refine aops_n rfl (n_mv rfl (by constructor)) ?_
  refine aops_n rfl (n_bool (c := true) (n_neq rfl rfl rfl) (not_dec_t h)) ?_
  refine aops_nil ?_
  dsimp only [St.put]
  refine hK4 _ ?_
  refine aw_cond rfl (fun _ => ?_) (fun h => by cases h)
  refine aw_seq_k fun K5 hK5 => ?_
  refine aw_region ?_
  refine aops_n rfl (n_build rfl rfl) ?_
  refine aops_n rfl (n_mv rfl (by constructor)) ?_
  try dsimp only [St.put]
  refine aops_e rfl (e_store_all rfl rfl rfl zG rfl rfl (by rfl) ?_)
  refine aops_n rfl (n_as rfl (by constructor)) ?_
  refine aops_nil ?_
  dsimp only [St.put]
  refine hK5 _ ?_
  refine aw_ret ?_
  refine ends_v2 rfl (rv_box rfl zG (by rfl) (by first | exact List.cons_ne_nil _ _ | (simp; done) | (simp [putAt]; done)) rfl) (rv_tmp (by constructor)) zN zS ?_ ?_
  · exact zW
  · exact zW
/-! ### The law -/
theorem SamePlaces_self (a : List PlaceD) : Pure Tryd.prog 21 [lst a, lst a] (.v (.bool true)) := by
  have := SamePlaces_pure a a
  rwa [decide_eq_true rfl] at this
theorem Same2_self (a : EditionD) : Pure Tryd.prog 22 [val a, val a] (.v (.bool true)) := by
  have := Same2_pure a a
  rwa [decide_eq_true rfl] at this
theorem Same_self (a : TextD) : Pure Tryd.prog 23 [textC a, textC a] (.v (.bool true)) := by
  have := Same_pure a a
  rwa [decide_eq_true rfl] at this
theorem rdg_ed {G : Nat → Option GObj} {n wv ver : Nat} {id : Int} {tt : TypeId} {L : List StretchD} (h : G n = some (.arr ver wv tt 5 L.length (flatC L))) : Rdg G (.agg [.v (.int .i64 id), .own n ver L.length]) (val (⟨id, L⟩ : EditionD)) :=
  .agg rfl (fun j c d hc hd => by
    match j, hc, hd with
    | 0, hc, hd => cases hc; cases hd; exact .low .v
    | 1, hc, hd => cases hc; cases hd; exact .own L h rfl rfl rfl
    | j + 2, hc, _ => cases hc) (fun d hd => Enc.one (⟨id, L⟩ : EditionD) d hd)
theorem law_ok (t : TextD) (e : EditionD) (h : soundEr t e = 0) : PureF chkF Tryd.prog 3 [textC t, val e] (.v (.bool true)) := by
  refine pureF_of_body Tryd.func3 rfl (fun m => .v) fun G nx hF => ?_
  simp only [Tryd.ntmps3, List.length_cons, List.length_nil, Nat.reduceAdd, Nat.reduceSub]
  refine aw_lt fun hlt => ?_
  dsimp only at hlt
  have hnx := hlt 0 _ hF
  obtain ⟨h0, hfc⟩ := soundEr_check h
  obtain ⟨ht, hl12, he⟩ := checkEr_text h0
  have hL : plainE t e = ⟨e.id, (plainS (asOf e.ss) (linesT t))⟩ := by rw [plain_same he]; simp [plainE, h]
  obtain ⟨L, hLL⟩ : ∃ L, (plainS (asOf e.ss) (linesT t)) = L := ⟨_, rfl⟩
  have hLn : L.length ≤ 60 := hLL ▸ Nat.le_trans (plainS_len _ _) (linesT_len ht)
  -- not used: D 10
  refine aw_seq_k fun K1 hK1 => ?_
  refine aw_region ?_
  try dsimp only [St.put]
  refine aops_e rfl (e_box rfl rfl (by simp) ?_)
  try dsimp only [St.put]
  refine aops_e rfl (e_box rfl rfl (by simp) ?_)
  refine aops_n rfl (n_as rfl (by constructor)) ?_
  refine aops_nil ?_
  dsimp only [St.put]
  refine hK1 _ ?_
  refine aw_seq_k fun K2 hK2 => ?_
  refine aw_seq_k fun K3 hK3 => ?_
  refine aw_region ?_
  try dsimp only [St.put]
  refine aops_s rfl (s_load_agg' rfl rfl rfl) ?_
  try dsimp only [St.put]
  refine aops_s rfl (s_load_agg' rfl rfl (Enc.len _)) ?_
  try dsimp only [St.put]
  refine aops_e rfl (e_buildSlice rfl rfl rfl (by decide) (by decide) zR (by decide) ?_)
  try dsimp only [St.put]
  refine aops_e rfl (e_call_pure rfl rfl rfl (great2_pure t [e]) ?_)
  refine aops_nil ?_
  dsimp only [St.put]
  refine hK3 _ ?_
  refine aw_cond rfl (fun hc => ?_) (fun hc => ?_)
  · skip
    refine aw_seq_k fun K4 hK4 => ?_
    refine aw_region ?_
    refine aops_n rfl (n_as rfl (by constructor)) ?_
    refine aops_nil ?_
    dsimp only [St.put]
    refine hK4 _ ?_
    refine aw_ret ?_
    refine ends_1 rfl (by constructor) zN zS ?_
    rfl
  · have hgt : greatB t = false := by simp at hc; exact hc.2
    refine aw_skip ?_
    refine hK2 _ ?_
    refine aw_wipe 7 ?_
    simp only [firsts, getA, Nat.reduceAdd, List.getD_cons_zero, List.getD_cons_succ, List.getD_nil, natBeq, Nat.reduceBEq, cond_true, cond_false]
    refine aw_cutD (X := Unit) (fun _ => True) (fun _ => [(5, .elem [lst t]), (6, .elem (cells e))]) (fun _ G' => G') rfl ?_ (fun _ _ _ _ h => .inl h) ?_ ?_
    · rintro _ hI
      exact zL
    · refine aw_drawT [(0, none), (2, none)] (fun _ => false) (fun i => [].contains i) 6 [true, false, true, false, false, false, false, false] (by kernel_rfl) (by kernel_rfl) ?_
      try dsimp only [St.put]
      refine acan1_s rfl rfl rfl rfl (s_load_agg' rfl rfl rfl) ?_
      try dsimp only [St.put]
      refine acan1_s rfl rfl rfl rfl (s_load_agg' rfl rfl (Enc.len _)) ?_
      refine acan1_nil ?_
      refine aany_step [1, 4, 5] (by kernel_rfl) (by simp) ?_
      refine aeach_cons ?_ ?_
      · try dsimp only [St.put]
        refine aone_e rfl rfl rfl (e_call_pure rfl rfl rfl (Twin_pure t hgt) ?_)
        refine aany_step [3, 4, 5] (by kernel_rfl) (by simp) ?_
        refine aeach_cons ?_ ?_
        · try dsimp only [St.put]
          refine aone_e rfl rfl rfl (e_call_pure rfl rfl rfl (Twin2_pure e (by omega)) ?_)
          refine aany_step [4, 5] (by kernel_rfl) (by simp) ?_
          refine aeach_cons ?_ ?_
          · try dsimp only [St.put]
            refine aone_e rfl rfl rfl (e_allocC rfl ?_)
            refine aany_step [5] (by kernel_rfl) (by simp) ?_
            refine aeach_cons ?_ ?_
            · try dsimp only [St.put]
              refine aone_e rfl rfl rfl (e_allocC rfl ?_)
              refine aany_step [6] (by kernel_rfl) (by simp) ?_
              refine aeach_cons ?_ ?_
              · try dsimp only [St.put]
                refine aone_e rfl rfl rfl (e_store_all rfl rfl rfl zG rfl rfl (by rfl) ?_)
                refine aany_step [7] (by kernel_rfl) (by simp) ?_
                refine aeach_cons ?_ ?_
                · try dsimp only [St.put]
                  refine aone_e rfl rfl rfl (e_store_all rfl rfl rfl zG rfl rfl (by rfl) ?_)
                  dsimp only [St.put]
                  refine aany_of_tr (tr_commit (i := 5) rfl zG (by first | exact List.cons_ne_nil _ _ | (simp; done) | (simp [putAt]; done))) ?_
                  refine aany_of_tr (tr_commit (i := 6) rfl zG (by first | exact List.cons_ne_nil _ _ | (simp; done) | (simp [putAt]; done))) ?_
                  dsimp only
                  refine aany_nil (by kernel_rfl) ?_
                  exact ⟨(), trivial, ⟨⟨rfl, rfl⟩, zF, zB, zN, zX⟩⟩
                exact aeach_nil
              exact aeach_nil
            exact aeach_nil
          refine aeach_cons ?_ ?_
          · try dsimp only [St.put]
            refine aone_e rfl rfl rfl (e_allocC rfl ?_)
            refine aany_step [4] (by kernel_rfl) (by simp) ?_
            refine aeach_cons ?_ ?_
            · try dsimp only [St.put]
              refine aone_e rfl rfl rfl (e_allocC rfl ?_)
              refine aany_step [6] (by kernel_rfl) (by simp) ?_
              refine aeach_cons ?_ ?_
              · try dsimp only [St.put]
                refine aone_e rfl rfl rfl (e_store_all rfl rfl rfl zG rfl rfl (by rfl) ?_)
                refine aany_step [7] (by kernel_rfl) (by simp) ?_
                refine aeach_cons ?_ ?_
                · try dsimp only [St.put]
                  refine aone_e rfl rfl rfl (e_store_all rfl rfl rfl zG rfl rfl (by rfl) ?_)
                  dsimp only [St.put]
                  refine aany_of_tr (tr_commit (i := 5) rfl zG (by first | exact List.cons_ne_nil _ _ | (simp; done) | (simp [putAt]; done))) ?_
                  refine aany_of_tr (tr_commit (i := 6) rfl zG (by first | exact List.cons_ne_nil _ _ | (simp; done) | (simp [putAt]; done))) ?_
                  dsimp only
                  refine aany_nil (by kernel_rfl) ?_
                  exact ⟨(), trivial, ⟨⟨rfl, rfl⟩, zF, zB, zN, zX⟩⟩
                exact aeach_nil
              exact aeach_nil
            exact aeach_nil
          exact aeach_nil
        refine aeach_cons ?_ ?_
        · try dsimp only [St.put]
          refine aone_e rfl rfl rfl (e_allocC rfl ?_)
          refine aany_step [3, 5] (by kernel_rfl) (by simp) ?_
          refine aeach_cons ?_ ?_
          · try dsimp only [St.put]
            refine aone_e rfl rfl rfl (e_call_pure rfl rfl rfl (Twin2_pure e (by omega)) ?_)
            refine aany_step [5] (by kernel_rfl) (by simp) ?_
            refine aeach_cons ?_ ?_
            · try dsimp only [St.put]
              refine aone_e rfl rfl rfl (e_allocC rfl ?_)
              refine aany_step [6] (by kernel_rfl) (by simp) ?_
              refine aeach_cons ?_ ?_
              · try dsimp only [St.put]
                refine aone_e rfl rfl rfl (e_store_all rfl rfl rfl zG rfl rfl (by rfl) ?_)
                refine aany_step [7] (by kernel_rfl) (by simp) ?_
                refine aeach_cons ?_ ?_
                · try dsimp only [St.put]
                  refine aone_e rfl rfl rfl (e_store_all rfl rfl rfl zG rfl rfl (by rfl) ?_)
                  dsimp only [St.put]
                  refine aany_of_tr (tr_commit (i := 5) rfl zG (by first | exact List.cons_ne_nil _ _ | (simp; done) | (simp [putAt]; done))) ?_
                  refine aany_of_tr (tr_commit (i := 6) rfl zG (by first | exact List.cons_ne_nil _ _ | (simp; done) | (simp [putAt]; done))) ?_
                  dsimp only
                  refine aany_nil (by kernel_rfl) ?_
                  exact ⟨(), trivial, ⟨⟨rfl, rfl⟩, zF, zB, zN, zX⟩⟩
                exact aeach_nil
              exact aeach_nil
            exact aeach_nil
          refine aeach_cons ?_ ?_
          · try dsimp only [St.put]
            refine aone_e rfl rfl rfl (e_allocC rfl ?_)
            refine aany_step [3] (by kernel_rfl) (by simp) ?_
            refine aeach_cons ?_ ?_
            · try dsimp only [St.put]
              refine aone_e rfl rfl rfl (e_call_pure rfl rfl rfl (Twin2_pure e (by omega)) ?_)
              refine aany_step [6] (by kernel_rfl) (by simp) ?_
              refine aeach_cons ?_ ?_
              · try dsimp only [St.put]
                refine aone_e rfl rfl rfl (e_store_all rfl rfl rfl zG rfl rfl (by rfl) ?_)
                refine aany_step [7] (by kernel_rfl) (by simp) ?_
                refine aeach_cons ?_ ?_
                · try dsimp only [St.put]
                  refine aone_e rfl rfl rfl (e_store_all rfl rfl rfl zG rfl rfl (by rfl) ?_)
                  dsimp only [St.put]
                  refine aany_of_tr (tr_commit (i := 5) rfl zG (by first | exact List.cons_ne_nil _ _ | (simp; done) | (simp [putAt]; done))) ?_
                  refine aany_of_tr (tr_commit (i := 6) rfl zG (by first | exact List.cons_ne_nil _ _ | (simp; done) | (simp [putAt]; done))) ?_
                  dsimp only
                  refine aany_nil (by kernel_rfl) ?_
                  exact ⟨(), trivial, ⟨⟨rfl, rfl⟩, zF, zB, zN, zX⟩⟩
                exact aeach_nil
              exact aeach_nil
            exact aeach_nil
          exact aeach_nil
        refine aeach_cons ?_ ?_
        · try dsimp only [St.put]
          refine aone_e rfl rfl rfl (e_allocC rfl ?_)
          refine aany_step [3, 4] (by kernel_rfl) (by simp) ?_
          refine aeach_cons ?_ ?_
          · try dsimp only [St.put]
            refine aone_e rfl rfl rfl (e_call_pure rfl rfl rfl (Twin2_pure e (by omega)) ?_)
            refine aany_step [4] (by kernel_rfl) (by simp) ?_
            refine aeach_cons ?_ ?_
            · try dsimp only [St.put]
              refine aone_e rfl rfl rfl (e_allocC rfl ?_)
              refine aany_step [6] (by kernel_rfl) (by simp) ?_
              refine aeach_cons ?_ ?_
              · try dsimp only [St.put]
                refine aone_e rfl rfl rfl (e_store_all rfl rfl rfl zG rfl rfl (by rfl) ?_)
                refine aany_step [7] (by kernel_rfl) (by simp) ?_
                refine aeach_cons ?_ ?_
                · try dsimp only [St.put]
                  refine aone_e rfl rfl rfl (e_store_all rfl rfl rfl zG rfl rfl (by rfl) ?_)
                  dsimp only [St.put]
                  refine aany_of_tr (tr_commit (i := 5) rfl zG (by first | exact List.cons_ne_nil _ _ | (simp; done) | (simp [putAt]; done))) ?_
                  refine aany_of_tr (tr_commit (i := 6) rfl zG (by first | exact List.cons_ne_nil _ _ | (simp; done) | (simp [putAt]; done))) ?_
                  dsimp only
                  refine aany_nil (by kernel_rfl) ?_
                  exact ⟨(), trivial, ⟨⟨rfl, rfl⟩, zF, zB, zN, zX⟩⟩
                exact aeach_nil
              exact aeach_nil
            exact aeach_nil
          refine aeach_cons ?_ ?_
          · try dsimp only [St.put]
            refine aone_e rfl rfl rfl (e_allocC rfl ?_)
            refine aany_step [3] (by kernel_rfl) (by simp) ?_
            refine aeach_cons ?_ ?_
            · try dsimp only [St.put]
              refine aone_e rfl rfl rfl (e_call_pure rfl rfl rfl (Twin2_pure e (by omega)) ?_)
              refine aany_step [6] (by kernel_rfl) (by simp) ?_
              refine aeach_cons ?_ ?_
              · try dsimp only [St.put]
                refine aone_e rfl rfl rfl (e_store_all rfl rfl rfl zG rfl rfl (by rfl) ?_)
                refine aany_step [7] (by kernel_rfl) (by simp) ?_
                refine aeach_cons ?_ ?_
                · try dsimp only [St.put]
                  refine aone_e rfl rfl rfl (e_store_all rfl rfl rfl zG rfl rfl (by rfl) ?_)
                  dsimp only [St.put]
                  refine aany_of_tr (tr_commit (i := 5) rfl zG (by first | exact List.cons_ne_nil _ _ | (simp; done) | (simp [putAt]; done))) ?_
                  refine aany_of_tr (tr_commit (i := 6) rfl zG (by first | exact List.cons_ne_nil _ _ | (simp; done) | (simp [putAt]; done))) ?_
                  dsimp only
                  refine aany_nil (by kernel_rfl) ?_
                  exact ⟨(), trivial, ⟨⟨rfl, rfl⟩, zF, zB, zN, zX⟩⟩
                exact aeach_nil
              exact aeach_nil
            exact aeach_nil
          exact aeach_nil
        exact aeach_nil
      refine aeach_cons ?_ ?_
      · try dsimp only [St.put]
        refine aone_e rfl rfl rfl (e_allocC rfl ?_)
        refine aany_step [1, 5] (by kernel_rfl) (by simp) ?_
        refine aeach_cons ?_ ?_
        · try dsimp only [St.put]
          refine aone_e rfl rfl rfl (e_call_pure rfl rfl rfl (Twin_pure t hgt) ?_)
          refine aany_step [3, 5] (by kernel_rfl) (by simp) ?_
          refine aeach_cons ?_ ?_
          · try dsimp only [St.put]
            refine aone_e rfl rfl rfl (e_call_pure rfl rfl rfl (Twin2_pure e (by omega)) ?_)
            refine aany_step [5] (by kernel_rfl) (by simp) ?_
            refine aeach_cons ?_ ?_
            · try dsimp only [St.put]
              refine aone_e rfl rfl rfl (e_allocC rfl ?_)
              refine aany_step [6] (by kernel_rfl) (by simp) ?_
              refine aeach_cons ?_ ?_
              · try dsimp only [St.put]
                refine aone_e rfl rfl rfl (e_store_all rfl rfl rfl zG rfl rfl (by rfl) ?_)
                refine aany_step [7] (by kernel_rfl) (by simp) ?_
                refine aeach_cons ?_ ?_
                · try dsimp only [St.put]
                  refine aone_e rfl rfl rfl (e_store_all rfl rfl rfl zG rfl rfl (by rfl) ?_)
                  dsimp only [St.put]
                  refine aany_of_tr (tr_commit (i := 5) rfl zG (by first | exact List.cons_ne_nil _ _ | (simp; done) | (simp [putAt]; done))) ?_
                  refine aany_of_tr (tr_commit (i := 6) rfl zG (by first | exact List.cons_ne_nil _ _ | (simp; done) | (simp [putAt]; done))) ?_
                  dsimp only
                  refine aany_nil (by kernel_rfl) ?_
                  exact ⟨(), trivial, ⟨⟨rfl, rfl⟩, zF, zB, zN, zX⟩⟩
                exact aeach_nil
              exact aeach_nil
            exact aeach_nil
          refine aeach_cons ?_ ?_
          · try dsimp only [St.put]
            refine aone_e rfl rfl rfl (e_allocC rfl ?_)
            refine aany_step [3] (by kernel_rfl) (by simp) ?_
            refine aeach_cons ?_ ?_
            · try dsimp only [St.put]
              refine aone_e rfl rfl rfl (e_call_pure rfl rfl rfl (Twin2_pure e (by omega)) ?_)
              refine aany_step [6] (by kernel_rfl) (by simp) ?_
              refine aeach_cons ?_ ?_
              · try dsimp only [St.put]
                refine aone_e rfl rfl rfl (e_store_all rfl rfl rfl zG rfl rfl (by rfl) ?_)
                refine aany_step [7] (by kernel_rfl) (by simp) ?_
                refine aeach_cons ?_ ?_
                · try dsimp only [St.put]
                  refine aone_e rfl rfl rfl (e_store_all rfl rfl rfl zG rfl rfl (by rfl) ?_)
                  dsimp only [St.put]
                  refine aany_of_tr (tr_commit (i := 5) rfl zG (by first | exact List.cons_ne_nil _ _ | (simp; done) | (simp [putAt]; done))) ?_
                  refine aany_of_tr (tr_commit (i := 6) rfl zG (by first | exact List.cons_ne_nil _ _ | (simp; done) | (simp [putAt]; done))) ?_
                  dsimp only
                  refine aany_nil (by kernel_rfl) ?_
                  exact ⟨(), trivial, ⟨⟨rfl, rfl⟩, zF, zB, zN, zX⟩⟩
                exact aeach_nil
              exact aeach_nil
            exact aeach_nil
          exact aeach_nil
        refine aeach_cons ?_ ?_
        · try dsimp only [St.put]
          refine aone_e rfl rfl rfl (e_allocC rfl ?_)
          refine aany_step [1] (by kernel_rfl) (by simp) ?_
          refine aeach_cons ?_ ?_
          · try dsimp only [St.put]
            refine aone_e rfl rfl rfl (e_call_pure rfl rfl rfl (Twin_pure t hgt) ?_)
            refine aany_step [3] (by kernel_rfl) (by simp) ?_
            refine aeach_cons ?_ ?_
            · try dsimp only [St.put]
              refine aone_e rfl rfl rfl (e_call_pure rfl rfl rfl (Twin2_pure e (by omega)) ?_)
              refine aany_step [6] (by kernel_rfl) (by simp) ?_
              refine aeach_cons ?_ ?_
              · try dsimp only [St.put]
                refine aone_e rfl rfl rfl (e_store_all rfl rfl rfl zG rfl rfl (by rfl) ?_)
                refine aany_step [7] (by kernel_rfl) (by simp) ?_
                refine aeach_cons ?_ ?_
                · try dsimp only [St.put]
                  refine aone_e rfl rfl rfl (e_store_all rfl rfl rfl zG rfl rfl (by rfl) ?_)
                  dsimp only [St.put]
                  refine aany_of_tr (tr_commit (i := 5) rfl zG (by first | exact List.cons_ne_nil _ _ | (simp; done) | (simp [putAt]; done))) ?_
                  refine aany_of_tr (tr_commit (i := 6) rfl zG (by first | exact List.cons_ne_nil _ _ | (simp; done) | (simp [putAt]; done))) ?_
                  dsimp only
                  refine aany_nil (by kernel_rfl) ?_
                  exact ⟨(), trivial, ⟨⟨rfl, rfl⟩, zF, zB, zN, zX⟩⟩
                exact aeach_nil
              exact aeach_nil
            exact aeach_nil
          exact aeach_nil
        exact aeach_nil
      refine aeach_cons ?_ ?_
      · try dsimp only [St.put]
        refine aone_e rfl rfl rfl (e_allocC rfl ?_)
        refine aany_step [1, 4] (by kernel_rfl) (by simp) ?_
        refine aeach_cons ?_ ?_
        · try dsimp only [St.put]
          refine aone_e rfl rfl rfl (e_call_pure rfl rfl rfl (Twin_pure t hgt) ?_)
          refine aany_step [3, 4] (by kernel_rfl) (by simp) ?_
          refine aeach_cons ?_ ?_
          · try dsimp only [St.put]
            refine aone_e rfl rfl rfl (e_call_pure rfl rfl rfl (Twin2_pure e (by omega)) ?_)
            refine aany_step [4] (by kernel_rfl) (by simp) ?_
            refine aeach_cons ?_ ?_
            · try dsimp only [St.put]
              refine aone_e rfl rfl rfl (e_allocC rfl ?_)
              refine aany_step [6] (by kernel_rfl) (by simp) ?_
              refine aeach_cons ?_ ?_
              · try dsimp only [St.put]
                refine aone_e rfl rfl rfl (e_store_all rfl rfl rfl zG rfl rfl (by rfl) ?_)
                refine aany_step [7] (by kernel_rfl) (by simp) ?_
                refine aeach_cons ?_ ?_
                · try dsimp only [St.put]
                  refine aone_e rfl rfl rfl (e_store_all rfl rfl rfl zG rfl rfl (by rfl) ?_)
                  dsimp only [St.put]
                  refine aany_of_tr (tr_commit (i := 5) rfl zG (by first | exact List.cons_ne_nil _ _ | (simp; done) | (simp [putAt]; done))) ?_
                  refine aany_of_tr (tr_commit (i := 6) rfl zG (by first | exact List.cons_ne_nil _ _ | (simp; done) | (simp [putAt]; done))) ?_
                  dsimp only
                  refine aany_nil (by kernel_rfl) ?_
                  exact ⟨(), trivial, ⟨⟨rfl, rfl⟩, zF, zB, zN, zX⟩⟩
                exact aeach_nil
              exact aeach_nil
            exact aeach_nil
          refine aeach_cons ?_ ?_
          · try dsimp only [St.put]
            refine aone_e rfl rfl rfl (e_allocC rfl ?_)
            refine aany_step [3] (by kernel_rfl) (by simp) ?_
            refine aeach_cons ?_ ?_
            · try dsimp only [St.put]
              refine aone_e rfl rfl rfl (e_call_pure rfl rfl rfl (Twin2_pure e (by omega)) ?_)
              refine aany_step [6] (by kernel_rfl) (by simp) ?_
              refine aeach_cons ?_ ?_
              · try dsimp only [St.put]
                refine aone_e rfl rfl rfl (e_store_all rfl rfl rfl zG rfl rfl (by rfl) ?_)
                refine aany_step [7] (by kernel_rfl) (by simp) ?_
                refine aeach_cons ?_ ?_
                · try dsimp only [St.put]
                  refine aone_e rfl rfl rfl (e_store_all rfl rfl rfl zG rfl rfl (by rfl) ?_)
                  dsimp only [St.put]
                  refine aany_of_tr (tr_commit (i := 5) rfl zG (by first | exact List.cons_ne_nil _ _ | (simp; done) | (simp [putAt]; done))) ?_
                  refine aany_of_tr (tr_commit (i := 6) rfl zG (by first | exact List.cons_ne_nil _ _ | (simp; done) | (simp [putAt]; done))) ?_
                  dsimp only
                  refine aany_nil (by kernel_rfl) ?_
                  exact ⟨(), trivial, ⟨⟨rfl, rfl⟩, zF, zB, zN, zX⟩⟩
                exact aeach_nil
              exact aeach_nil
            exact aeach_nil
          exact aeach_nil
        refine aeach_cons ?_ ?_
        · try dsimp only [St.put]
          refine aone_e rfl rfl rfl (e_allocC rfl ?_)
          refine aany_step [1] (by kernel_rfl) (by simp) ?_
          refine aeach_cons ?_ ?_
          · try dsimp only [St.put]
            refine aone_e rfl rfl rfl (e_call_pure rfl rfl rfl (Twin_pure t hgt) ?_)
            refine aany_step [3] (by kernel_rfl) (by simp) ?_
            refine aeach_cons ?_ ?_
            · try dsimp only [St.put]
              refine aone_e rfl rfl rfl (e_call_pure rfl rfl rfl (Twin2_pure e (by omega)) ?_)
              refine aany_step [6] (by kernel_rfl) (by simp) ?_
              refine aeach_cons ?_ ?_
              · try dsimp only [St.put]
                refine aone_e rfl rfl rfl (e_store_all rfl rfl rfl zG rfl rfl (by rfl) ?_)
                refine aany_step [7] (by kernel_rfl) (by simp) ?_
                refine aeach_cons ?_ ?_
                · try dsimp only [St.put]
                  refine aone_e rfl rfl rfl (e_store_all rfl rfl rfl zG rfl rfl (by rfl) ?_)
                  dsimp only [St.put]
                  refine aany_of_tr (tr_commit (i := 5) rfl zG (by first | exact List.cons_ne_nil _ _ | (simp; done) | (simp [putAt]; done))) ?_
                  refine aany_of_tr (tr_commit (i := 6) rfl zG (by first | exact List.cons_ne_nil _ _ | (simp; done) | (simp [putAt]; done))) ?_
                  dsimp only
                  refine aany_nil (by kernel_rfl) ?_
                  exact ⟨(), trivial, ⟨⟨rfl, rfl⟩, zF, zB, zN, zX⟩⟩
                exact aeach_nil
              exact aeach_nil
            exact aeach_nil
          exact aeach_nil
        exact aeach_nil
      exact aeach_nil
    · rintro _ hI
      dsimp only at hI ⊢
      refine aw_seq_k fun K6 hK6 => ?_
      refine aw_region ?_
      try dsimp only [St.put]
      refine aops_s rfl (s_load_agg' rfl rfl rfl) ?_
      try dsimp only [St.put]
      refine aops_s rfl (s_load_agg' rfl rfl (Enc.len _)) ?_
      try dsimp only [St.put]
      refine aops_e rfl (e_call_f rfl rfl rfl (chartClash_pureF t e (by omega)) zG ?_)
      refine aops_n rfl (n_mv rfl (by constructor)) ?_
      refine aops_n rfl (n_extract rfl rfl rfl) ?_
      refine aops_n rfl (n_extract rfl rfl rfl) ?_
      refine aops_n rfl (n_extract rfl rfl rfl) ?_
      refine aops_n rfl (n_as rfl (by constructor)) ?_
      refine aops_n rfl (n_as rfl (by constructor)) ?_
      refine aops_n rfl (n_as rfl (by constructor)) ?_
      refine aops_nil ?_
      dsimp only [St.put]
      refine hK6 _ ?_
      refine aw_seq_k fun K7 hK7 => ?_
      refine aw_region ?_
      try dsimp only [St.put]
      refine aops_s rfl (s_load_agg' rfl rfl rfl) ?_
      try dsimp only [St.put]
      refine aops_s rfl (s_load_agg' rfl rfl (Enc.len _)) ?_
      try dsimp only [St.put]
      refine aops_e rfl (e_call_pure rfl rfl rfl (Clash_pure t e) ?_)
      refine aops_n rfl (n_mv rfl (by constructor)) ?_
      refine aops_n rfl (n_extract rfl rfl rfl) ?_
      refine aops_n rfl (n_extract rfl rfl rfl) ?_
      refine aops_n rfl (n_extract rfl rfl rfl) ?_
      refine aops_n rfl (n_as rfl (by constructor)) ?_
      refine aops_n rfl (n_as rfl (by constructor)) ?_
      refine aops_n rfl (n_as rfl (by constructor)) ?_
      refine aops_nil ?_
      dsimp only [St.put]
      refine hK7 _ ?_
      refine aw_seq_k fun K8 hK8 => ?_
      refine aw_region ?_
      try dsimp only [St.put]
      refine aops_s rfl (s_load_agg' rfl rfl rfl) ?_
      try dsimp only [St.put]
      refine aops_s rfl (s_load_agg' rfl rfl (Enc.len _)) ?_
      try dsimp only [St.put]
      refine aops_e rfl (e_call_f rfl rfl rfl (chartGaps_pureF t e (by omega)) zG ?_)
      refine aops_n rfl (n_mv rfl (by constructor)) ?_
      refine aops_n rfl (n_extract rfl rfl rfl) ?_
      refine aops_n rfl (n_extract rfl rfl rfl) ?_
      refine aops_n rfl (n_as rfl (by constructor)) ?_
      refine aops_n rfl (n_as rfl (by constructor)) ?_
      refine aops_nil ?_
      dsimp only [St.put]
      refine hK8 _ ?_
      refine aw_seq_k fun K9 hK9 => ?_
      refine aw_region ?_
      try dsimp only [St.put]
      refine aops_s rfl (s_load_agg' rfl rfl rfl) ?_
      try dsimp only [St.put]
      refine aops_s rfl (s_load_agg' rfl rfl (Enc.len _)) ?_
      try dsimp only [St.put]
      refine aops_e rfl (e_call_pure rfl rfl rfl (Gaps_pure t e) ?_)
      refine aops_n rfl (n_mv rfl (by constructor)) ?_
      refine aops_n rfl (n_extract rfl rfl rfl) ?_
      refine aops_n rfl (n_extract rfl rfl rfl) ?_
      refine aops_n rfl (n_as rfl (by constructor)) ?_
      refine aops_n rfl (n_as rfl (by constructor)) ?_
      refine aops_nil ?_
      dsimp only [St.put]
      refine hK9 _ ?_
      refine aw_seq_k fun K10 hK10 => ?_
      refine aw_region ?_
      try dsimp only [St.put]
      refine aops_s rfl (s_load_agg' rfl rfl rfl) ?_
      try dsimp only [St.put]
      refine aops_s rfl (s_load_agg' rfl rfl (Enc.len _)) ?_
      try dsimp only [St.put]
      refine aops_e rfl (e_call_namedX rfl rfl rfl (chartPlain_ok t e (by omega) h _ _ zG) (fun y => ?_))
      refine aops_n rfl (n_mv rfl (by constructor)) ?_
      refine aops_n rfl (n_extract rfl rfl rfl) ?_
      refine aops_n rfl (n_extract rfl rfl rfl) ?_
      try dsimp only [St.put]
      refine aops_e rfl (e_allocC rfl ?_)
      try dsimp only [St.put]
      refine aops_e rfl (e_store_all rfl rfl rfl zG rfl rfl (by rfl) ?_)
      refine aops_n rfl (n_as rfl (by constructor)) ?_
      refine aops_nil ?_
      dsimp only [St.put]
      rw [hLL]
      refine hK10 _ ?_
      refine aw_seq_k fun K11 hK11 => ?_
      refine aw_region ?_
      try dsimp only [St.put]
      refine aops_s rfl (s_load_agg' rfl rfl rfl) ?_
      try dsimp only [St.put]
      refine aops_s rfl (s_load_agg' rfl rfl (Enc.len _)) ?_
      try dsimp only [St.put]
      refine aops_e rfl (e_call_pure rfl rfl rfl (Plain_pure t e) ?_)
      refine aops_n rfl (n_mv rfl (by constructor)) ?_
      refine aops_n rfl (n_extract rfl rfl rfl) ?_
      refine aops_n rfl (n_extract rfl rfl rfl) ?_
      try dsimp only [St.put]
      refine aops_e rfl (e_allocC rfl ?_)
      try dsimp only [St.put]
      refine aops_e rfl (e_store_all rfl rfl rfl zG rfl rfl (by rfl) ?_)
      refine aops_n rfl (n_as rfl (by constructor)) ?_
      refine aops_nil ?_
      dsimp only [St.put]
      rw [hL, hLL]
      refine hK11 _ ?_
      refine aw_commitD (i := 19) rfl zG (by first | exact List.cons_ne_nil _ _ | (simp; done) | (simp [putAt]; done)) ?_
      dsimp only
      refine aw_wipe 22 ?_
      simp only [firsts, getA, Nat.reduceAdd, List.getD_cons_zero, List.getD_cons_succ, List.getD_nil, natBeq, Nat.reduceBEq, cond_true, cond_false]
      refine aw_cutD (X := Unit) (fun _ => True) (fun _ => [(21, .v (.bool true))]) (fun _ G' => G') rfl ?_ (fun _ _ _ _ h => .inl h) ?_ ?_
      · rintro _ hI
        exact zL
      · refine aw_drawT [(0, none), (1, none), (3, none), (4, none)] (fun _ => false) (fun i => [].contains i) 39 [true, true, false, true, true, false, false, false, false, false, false, false, false, false, false, false, false, false, false, false, false, false, false, false, false, false, false, false, false, false, false, false, false, false, false, false, false, false, false, false, false, false, false] (by kernel_rfl) (by kernel_rfl) ?_
        try dsimp only [St.put]
        refine acan1_s rfl rfl rfl rfl (s_load_agg' rfl rfl rfl) ?_
        try dsimp only [St.put]
        refine acan1_s rfl rfl rfl rfl (s_load_agg' rfl rfl (Enc.len _)) ?_
        try dsimp only [St.put]
        refine acan1_s rfl rfl rfl rfl (s_load_agg' rfl rfl rfl) ?_
        try dsimp only [St.put]
        refine acan1_s rfl rfl rfl rfl (s_load_agg' rfl rfl (Enc.len _)) ?_
        refine acan1_nil ?_
        refine aany_step [2] (by kernel_rfl) (by simp) ?_
        refine aeach_cons ?_ ?_
        · try dsimp only [St.put]
          refine aone_e rfl rfl rfl (e_call_f rfl rfl rfl (chartCheck_pureF t e (by omega)) zG ?_)
          refine aany_step [5] (by kernel_rfl) (by simp) ?_
          refine aeach_cons ?_ ?_
          · try dsimp only [St.put]
            refine aone_e rfl rfl rfl (e_call_pure rfl rfl rfl (Check2_pure t e) ?_)
            refine aany_quiet [(6, none), (7, none), (8, none), (9, none), (10, none), (11, none), (12, none), (13, none), (14, none), (15, none), (16, none), (17, none), (18, none), (19, none), (20, none), (21, none), (22, none), (23, none), (24, none)] (fun i => [6, 7, 8, 9, 10, 11, 12, 13, 14, 15, 16, 17, 18, 19, 20, 21, 22, 23, 24].contains i) 18 [true, true, true, true, true, true, true, true, true, true, true, true, true, true, true, true, true, true, true, true, true, true, true, true, true, false, false, false, false, false, false, false, false, false, false, false, false, false, false, false, false, false, false] (by kernel_rfl) ?_
            refine acan1_n rfl rfl rfl rfl (n_bool (n_eql rfl rfl rfl) (decide_eq_true (by omega))) ?_
            refine acan1_n rfl rfl rfl rfl (n_mv rfl (by constructor)) ?_
            refine acan1_n rfl rfl rfl rfl (n_mv rfl (by constructor)) ?_
            refine acan1_n rfl rfl rfl rfl (n_mv rfl (by constructor)) ?_
            refine acan1_n rfl rfl rfl rfl (n_bool (n_eql rfl rfl rfl) (decide_eq_true (by omega))) ?_
            refine acan1_n rfl rfl rfl rfl (n_pt rfl rfl (by constructor)) ?_
            refine acan1_n rfl rfl rfl rfl (n_mv rfl (by constructor)) ?_
            refine acan1_n rfl rfl rfl rfl (n_mv rfl (by constructor)) ?_
            refine acan1_n rfl rfl rfl rfl (n_mv rfl (by constructor)) ?_
            refine acan1_n rfl rfl rfl rfl (n_bool (n_eql rfl rfl rfl) (decide_eq_true (by omega))) ?_
            refine acan1_n rfl rfl rfl rfl (n_pt rfl rfl (by constructor)) ?_
            refine acan1_n rfl rfl rfl rfl (n_mv rfl (by constructor)) ?_
            refine acan1_n rfl rfl rfl rfl (n_mv rfl (by constructor)) ?_
            refine acan1_n rfl rfl rfl rfl (n_mv rfl (by constructor)) ?_
            refine acan1_n rfl rfl rfl rfl (n_bool (n_eql rfl rfl rfl) (decide_eq_true (by omega))) ?_
            refine acan1_n rfl rfl rfl rfl (n_pt rfl rfl (by constructor)) ?_
            refine acan1_n rfl rfl rfl rfl (n_mv rfl (by constructor)) ?_
            refine acan1_n rfl rfl rfl rfl (n_mv rfl (by constructor)) ?_
            refine acan1_n rfl rfl rfl rfl (n_mv rfl (by constructor)) ?_
            refine acan1_nil ?_
            refine aany_step [25] (by kernel_rfl) (by simp) ?_
            refine aeach_cons ?_ ?_
            · try dsimp only [St.put]
              refine aone_e rfl rfl rfl (e_call_pure rfl rfl rfl (SamePlaces_self _) ?_)
              refine aany_quiet [(26, none), (27, none), (28, none), (29, none), (30, none), (31, none), (32, none), (34, none)] (fun i => [26, 27, 28, 29, 30, 31, 32].contains i) 9 [true, true, true, true, true, true, true, true, true, true, true, true, true, true, true, true, true, true, true, true, true, true, true, true, true, true, true, true, true, true, true, true, true, false, true, false, false, false, false, false, false, false, false] (by kernel_rfl) ?_
              refine acan1_n rfl rfl rfl rfl (n_pt rfl rfl (by constructor)) ?_
              refine acan1_n rfl rfl rfl rfl (n_mv rfl (by constructor)) ?_
              refine acan1_n rfl rfl rfl rfl (n_mv rfl (by constructor)) ?_
              refine acan1_n rfl rfl rfl rfl (n_mv rfl (by constructor)) ?_
              refine acan1_n rfl rfl rfl rfl (n_bool (n_eql rfl rfl rfl) (decide_eq_true (by omega))) ?_
              refine acan1_n rfl rfl rfl rfl (n_pt rfl rfl (by constructor)) ?_
              refine acan1_n rfl rfl rfl rfl (n_mv rfl (by constructor)) ?_
              try dsimp only [St.put]
              refine acan1_s rfl rfl rfl rfl (s_load_agg' rfl rfl (Enc.len _)) ?_
              refine acan1_nil ?_
              refine aany_step [33] (by kernel_rfl) (by simp) ?_
              refine aeach_cons ?_ ?_
              · try dsimp only [St.put]
                refine aone_s rfl rfl rfl (s_load_box_all rfl rfl zG trivial (by rfl)) ?_
                refine aany_step [35] (by kernel_rfl) (by simp) ?_
                refine aeach_cons ?_ ?_
                · try dsimp only [St.put]
                  refine aone_e rfl rfl rfl (e_call_read (as' := [val (⟨e.id, L⟩ : EditionD), val (⟨e.id, L⟩ : EditionD)]) rfl rfl rfl (Same2_self _) ⟨rdg_ed zG, .low (val_low _ _), trivial⟩ (flat_v _) ?_)
                  refine aany_quiet [(36, none), (37, none), (38, none), (39, none), (40, none), (41, none), (42, none)] (fun i => [36, 37, 38, 39, 40, 41, 42].contains i) 0 [true, true, true, true, true, true, true, true, true, true, true, true, true, true, true, true, true, true, true, true, true, true, true, true, true, true, true, true, true, true, true, true, true, true, true, true, true, true, true, true, true, true, true] (by kernel_rfl) ?_
                  refine acan1_n rfl rfl rfl rfl (n_pt rfl rfl (by constructor)) ?_
                  refine acan1_n rfl rfl rfl rfl (n_mv rfl (by constructor)) ?_
                  refine acan1_n rfl rfl rfl rfl (n_mv rfl (by constructor)) ?_
                  refine acan1_n rfl rfl rfl rfl (n_mv rfl (by constructor)) ?_
                  refine acan1_n rfl rfl rfl rfl (n_bool (n_eql rfl rfl rfl) (decide_eq_true (by omega))) ?_
                  refine acan1_n rfl rfl rfl rfl (n_pt rfl rfl (by constructor)) ?_
                  refine acan1_n rfl rfl rfl rfl (n_as rfl (by constructor)) ?_
                  refine acan1_nil ?_
                  dsimp only [St.put]
                  refine aany_nil (by kernel_rfl) ?_
                  exact ⟨(), trivial, ⟨⟨rfl, rfl⟩, zF, zB, zN, zX⟩⟩
                exact aeach_nil
              exact aeach_nil
            exact aeach_nil
          exact aeach_nil
        exact aeach_nil
      · rintro _ hI
        dsimp only at hI ⊢
        refine aw_seq_k fun K13 hK13 => ?_
        refine aw_seq_k fun K14 hK14 => ?_
        refine aw_region ?_
        refine aops_n rfl (n_fieldAddr_box rfl rfl) ?_
        try dsimp only [St.put]
        refine aops_s rfl (s_load_box rfl rfl zG trivial (by first | rfl | assumption)) ?_
        refine aops_n rfl (n_len_own rfl rfl) ?_
        refine aops_n rfl (n_mv rfl (by constructor)) ?_
        refine aops_nil ?_
        dsimp only [St.put]
        refine hK14 _ ?_
        refine aw_block ?_
        refine aw_wipe 115 ?_
        simp only [firsts, getA, Nat.reduceAdd, List.getD_cons_zero, List.getD_cons_succ, List.getD_nil, natBeq, Nat.reduceBEq, cond_true, cond_false]
        refine aw_forget (setG (setG G (nx + 1 + 1 + 1 + 1 + 1 + 1 + 1) (.arr L.length y 50 5 L.length (flatC L))) ((nx + 1 + 1 + 1 + 1 + 1 + 1 + 1) + 1) (.box 1 [.v (.int .i64 e.id), .own (nx + 1 + 1 + 1 + 1 + 1 + 1 + 1) L.length L.length])) zX ?_
        dsimp only
        refine aw_loopD (X := Nat × Nat × List StretchD) (fun x => x.1 ≤ L.length ∧ x.2.2.length = L.length) (fun x => L.length - x.1) (fun x => [(22, .any), (114, .v (.int .i64 (x.1 : Int)))]) (fun x G' => setG (setG G (nx + 1 + 1 + 1 + 1 + 1 + 1 + 1) (.arr L.length x.2.1 50 5 L.length (flatC x.2.2))) ((nx + 1 + 1 + 1 + 1 + 1 + 1 + 1) + 1) (.box 1 [.v (.int .i64 e.id), .own (nx + 1 + 1 + 1 + 1 + 1 + 1 + 1) L.length L.length])) (0, y, L) rfl ?_ ?_ ?_ ?_ ?_ ?_
        · exact ⟨Nat.zero_le _, rfl⟩
        · exact zF
        · exact zX
        · rintro ⟨k, w, zs⟩ hI
          exact zL
        · rintro ⟨k, w, zs⟩ hI
          exact zH
        · rintro ⟨k, w, zs⟩ hI
          dsimp only at hI ⊢
          refine aw_seq_k fun K15 hK15 => ?_
          refine aw_region ?_
          refine aops_n rfl (n_lss rfl rfl rfl) ?_
          refine aops_nil ?_
          dsimp only [St.put]
          refine hK15 _ ?_
          refine aw_seq_k fun K16 hK16 => ?_
          refine aw_cond rfl (fun hc => ?_) (fun hc => ?_)
          · replace hc := of_decide_eq_true hc
            obtain ⟨z, hz⟩ : ∃ x, zs[k]? = some x := some_of_lt (by omega)
            refine aw_skip ?_
            refine hK16 _ ?_
            refine aw_seq_k fun K17 hK17 => ?_
            refine aw_block ?_
            refine aw_seq_k fun K18 hK18 => ?_
            refine aw_region ?_
            refine aops_n rfl (n_mv rfl (by constructor)) ?_
            refine aops_n rfl (n_as rfl (by constructor)) ?_
            refine aops_nil ?_
            dsimp only [St.put]
            refine hK18 _ ?_
            refine aw_region ?_
            refine aops_n rfl (n_fieldAddr_box rfl rfl) ?_
            try dsimp only [St.put]
            refine aops_s rfl (s_load_box rfl rfl zG trivial (by first | rfl | assumption)) ?_
            refine aops_n rfl (n_mv rfl (by constructor)) ?_
            try dsimp only [St.put]
            refine aops_n rfl (n_indexAddr_own (k := k) rfl rfl zG rfl (by first | exact rfl | omega) (by first | omega | (simp; omega))) ?_
            refine aops_n rfl (n_fieldAddr_box rfl rfl) ?_
            try dsimp only [St.put]
            refine aops_e rfl (e_store_own1 (k := k) (j := 3) (z := z) (z' := { z with au := 0 }) rfl rfl rfl zG rfl rfl hz rfl (by decide) rfl ?_)
            refine aops_nil ?_
            dsimp only [St.put]
            refine hK17 _ ?_
            refine aw_region ?_
            refine aops_n rfl (n_add rfl rfl rfl (by omega)) ?_
            refine aops_n rfl (n_mv rfl (by constructor)) ?_
            refine aops_nil ?_
            dsimp only [St.put]
            exact ⟨(k + 1, w + 1, zs.set k { z with au := 0 }), by (dsimp only; omega), ⟨by (dsimp only; omega), by (dsimp only; rw [List.length_set]; exact hI.2)⟩, ⟨⟨rfl, rfl⟩, zF, zB, zN, zX⟩⟩
          · try replace hc := of_decide_eq_false hc
            refine aw_exit ?_
            refine hK13 _ ?_
            refine aw_seq_k fun K19 hK19 => ?_
            refine aw_region ?_
            refine aops_n rfl (n_mv rfl (by constructor)) ?_
            refine aops_n rfl (n_mv rfl (by constructor)) ?_
            try dsimp only [St.put]
            refine aops_s rfl (s_load_agg' rfl rfl rfl) ?_
            try dsimp only [St.put]
            refine aops_s rfl (s_load_agg' rfl rfl rfl) ?_
            try dsimp only [St.put]
            refine aops_e rfl (e_call_pure rfl rfl rfl (Same_self _) ?_)
            refine aops_n rfl (n_pt rfl rfl (by constructor)) ?_
            refine aops_n rfl (n_mv rfl (by constructor)) ?_
            try dsimp only [St.put]
            refine aops_s rfl (s_load_agg' rfl rfl (Enc.len _)) ?_
            try dsimp only [St.put]
            refine aops_s rfl (s_load_agg' rfl rfl (Enc.len _)) ?_
            try dsimp only [St.put]
            refine aops_e rfl (e_call_pure rfl rfl rfl (Same2_self _) ?_)
            refine aops_n rfl (n_pt rfl rfl (by constructor)) ?_
            refine aops_n rfl (n_as rfl (by constructor)) ?_
            refine aops_nil ?_
            dsimp only [St.put]
            refine hK19 _ ?_
            refine aw_ret ?_
            refine ends_1 rfl (by constructor) zN zS ?_
            rfl
theorem law_no (t : TextD) (e : EditionD) (h : soundEr t e ≠ 0) : PureF chkF Tryd.prog 3 [textC t, val e] (.v (.bool true)) := by
  refine pureF_of_body Tryd.func3 rfl (fun m => .v) fun G nx hF => ?_
  simp only [Tryd.ntmps3, List.length_cons, List.length_nil, Nat.reduceAdd, Nat.reduceSub]
  refine aw_lt fun hlt => ?_
  dsimp only at hlt
  have hnx := hlt 0 _ hF
  have hL : plainE t e = ⟨0, []⟩ := by simp [plainE, h]
  refine aw_seq_k fun K1 hK1 => ?_
  refine aw_region ?_
  try dsimp only [St.put]
  refine aops_e rfl (e_box rfl rfl (by simp) ?_)
  try dsimp only [St.put]
  refine aops_e rfl (e_box rfl rfl (by simp) ?_)
  refine aops_n rfl (n_as rfl (by constructor)) ?_
  refine aops_nil ?_
  dsimp only [St.put]
  refine hK1 _ ?_
  refine aw_seq_k fun K2 hK2 => ?_
  refine aw_seq_k fun K3 hK3 => ?_
  refine aw_region ?_
  try dsimp only [St.put]
  refine aops_s rfl (s_load_agg' rfl rfl rfl) ?_
  try dsimp only [St.put]
  refine aops_s rfl (s_load_agg' rfl rfl (Enc.len _)) ?_
  try dsimp only [St.put]
  refine aops_e rfl (e_buildSlice rfl rfl rfl (by decide) (by decide) zR (by decide) ?_)
  try dsimp only [St.put]
  refine aops_e rfl (e_call_pure rfl rfl rfl (great2_pure t [e]) ?_)
  refine aops_nil ?_
  dsimp only [St.put]
  refine hK3 _ ?_
  refine aw_cond rfl (fun hc => ?_) (fun hc => ?_)
  · skip
    refine aw_seq_k fun K4 hK4 => ?_
    refine aw_region ?_
    refine aops_n rfl (n_as rfl (by constructor)) ?_
    refine aops_nil ?_
    dsimp only [St.put]
    refine hK4 _ ?_
    refine aw_ret ?_
    refine ends_1 rfl (by constructor) zN zS ?_
    rfl
  · have hgt : greatB t = false := by simp at hc; exact hc.2
    have hle : e.ss.length ≤ 20 := by simp at hc; omega
    refine aw_skip ?_
    refine hK2 _ ?_
    refine aw_wipe 7 ?_
    simp only [firsts, getA, Nat.reduceAdd, List.getD_cons_zero, List.getD_cons_succ, List.getD_nil, natBeq, Nat.reduceBEq, cond_true, cond_false]
    refine aw_cutD (X := Unit) (fun _ => True) (fun _ => [(5, .elem [lst t]), (6, .elem (cells e))]) (fun _ G' => G') rfl ?_ (fun _ _ _ _ h => .inl h) ?_ ?_
    · rintro _ hI
      exact zL
    · refine aw_drawT [(0, none), (2, none)] (fun _ => false) (fun i => [].contains i) 6 [true, false, true, false, false, false, false, false] (by kernel_rfl) (by kernel_rfl) ?_
      try dsimp only [St.put]
      refine acan1_s rfl rfl rfl rfl (s_load_agg' rfl rfl rfl) ?_
      try dsimp only [St.put]
      refine acan1_s rfl rfl rfl rfl (s_load_agg' rfl rfl (Enc.len _)) ?_
      refine acan1_nil ?_
      refine aany_step [1, 4, 5] (by kernel_rfl) (by simp) ?_
      refine aeach_cons ?_ ?_
      · try dsimp only [St.put]
        refine aone_e rfl rfl rfl (e_call_pure rfl rfl rfl (Twin_pure t hgt) ?_)
        refine aany_step [3, 4, 5] (by kernel_rfl) (by simp) ?_
        refine aeach_cons ?_ ?_
        · try dsimp only [St.put]
          refine aone_e rfl rfl rfl (e_call_pure rfl rfl rfl (Twin2_pure e (by omega)) ?_)
          refine aany_step [4, 5] (by kernel_rfl) (by simp) ?_
          refine aeach_cons ?_ ?_
          · try dsimp only [St.put]
            refine aone_e rfl rfl rfl (e_allocC rfl ?_)
            refine aany_step [5] (by kernel_rfl) (by simp) ?_
            refine aeach_cons ?_ ?_
            · try dsimp only [St.put]
              refine aone_e rfl rfl rfl (e_allocC rfl ?_)
              refine aany_step [6] (by kernel_rfl) (by simp) ?_
              refine aeach_cons ?_ ?_
              · try dsimp only [St.put]
                refine aone_e rfl rfl rfl (e_store_all rfl rfl rfl zG rfl rfl (by rfl) ?_)
                refine aany_step [7] (by kernel_rfl) (by simp) ?_
                refine aeach_cons ?_ ?_
                · try dsimp only [St.put]
                  refine aone_e rfl rfl rfl (e_store_all rfl rfl rfl zG rfl rfl (by rfl) ?_)
                  dsimp only [St.put]
                  refine aany_of_tr (tr_commit (i := 5) rfl zG (by first | exact List.cons_ne_nil _ _ | (simp; done) | (simp [putAt]; done))) ?_
                  refine aany_of_tr (tr_commit (i := 6) rfl zG (by first | exact List.cons_ne_nil _ _ | (simp; done) | (simp [putAt]; done))) ?_
                  dsimp only
                  refine aany_nil (by kernel_rfl) ?_
                  exact ⟨(), trivial, ⟨⟨rfl, rfl⟩, zF, zB, zN, zX⟩⟩
                exact aeach_nil
              exact aeach_nil
            exact aeach_nil
          refine aeach_cons ?_ ?_
          · try dsimp only [St.put]
            refine aone_e rfl rfl rfl (e_allocC rfl ?_)
            refine aany_step [4] (by kernel_rfl) (by simp) ?_
            refine aeach_cons ?_ ?_
            · try dsimp only [St.put]
              refine aone_e rfl rfl rfl (e_allocC rfl ?_)
              refine aany_step [6] (by kernel_rfl) (by simp) ?_
              refine aeach_cons ?_ ?_
              · try dsimp only [St.put]
                refine aone_e rfl rfl rfl (e_store_all rfl rfl rfl zG rfl rfl (by rfl) ?_)
                refine aany_step [7] (by kernel_rfl) (by simp) ?_
                refine aeach_cons ?_ ?_
                · try dsimp only [St.put]
                  refine aone_e rfl rfl rfl (e_store_all rfl rfl rfl zG rfl rfl (by rfl) ?_)
                  dsimp only [St.put]
                  refine aany_of_tr (tr_commit (i := 5) rfl zG (by first | exact List.cons_ne_nil _ _ | (simp; done) | (simp [putAt]; done))) ?_
                  refine aany_of_tr (tr_commit (i := 6) rfl zG (by first | exact List.cons_ne_nil _ _ | (simp; done) | (simp [putAt]; done))) ?_
                  dsimp only
                  refine aany_nil (by kernel_rfl) ?_
                  exact ⟨(), trivial, ⟨⟨rfl, rfl⟩, zF, zB, zN, zX⟩⟩
                exact aeach_nil
              exact aeach_nil
            exact aeach_nil
          exact aeach_nil
        refine aeach_cons ?_ ?_
        · try dsimp only [St.put]
          refine aone_e rfl rfl rfl (e_allocC rfl ?_)
          refine aany_step [3, 5] (by kernel_rfl) (by simp) ?_
          refine aeach_cons ?_ ?_
          · try dsimp only [St.put]
            refine aone_e rfl rfl rfl (e_call_pure rfl rfl rfl (Twin2_pure e (by omega)) ?_)
            refine aany_step [5] (by kernel_rfl) (by simp) ?_
            refine aeach_cons ?_ ?_
            · try dsimp only [St.put]
              refine aone_e rfl rfl rfl (e_allocC rfl ?_)
              refine aany_step [6] (by kernel_rfl) (by simp) ?_
              refine aeach_cons ?_ ?_
              · try dsimp only [St.put]
                refine aone_e rfl rfl rfl (e_store_all rfl rfl rfl zG rfl rfl (by rfl) ?_)
                refine aany_step [7] (by kernel_rfl) (by simp) ?_
                refine aeach_cons ?_ ?_
                · try dsimp only [St.put]
                  refine aone_e rfl rfl rfl (e_store_all rfl rfl rfl zG rfl rfl (by rfl) ?_)
                  dsimp only [St.put]
                  refine aany_of_tr (tr_commit (i := 5) rfl zG (by first | exact List.cons_ne_nil _ _ | (simp; done) | (simp [putAt]; done))) ?_
                  refine aany_of_tr (tr_commit (i := 6) rfl zG (by first | exact List.cons_ne_nil _ _ | (simp; done) | (simp [putAt]; done))) ?_
                  dsimp only
                  refine aany_nil (by kernel_rfl) ?_
                  exact ⟨(), trivial, ⟨⟨rfl, rfl⟩, zF, zB, zN, zX⟩⟩
                exact aeach_nil
              exact aeach_nil
            exact aeach_nil
          refine aeach_cons ?_ ?_
          · try dsimp only [St.put]
            refine aone_e rfl rfl rfl (e_allocC rfl ?_)
            refine aany_step [3] (by kernel_rfl) (by simp) ?_
            refine aeach_cons ?_ ?_
            · try dsimp only [St.put]
              refine aone_e rfl rfl rfl (e_call_pure rfl rfl rfl (Twin2_pure e (by omega)) ?_)
              refine aany_step [6] (by kernel_rfl) (by simp) ?_
              refine aeach_cons ?_ ?_
              · try dsimp only [St.put]
                refine aone_e rfl rfl rfl (e_store_all rfl rfl rfl zG rfl rfl (by rfl) ?_)
                refine aany_step [7] (by kernel_rfl) (by simp) ?_
                refine aeach_cons ?_ ?_
                · try dsimp only [St.put]
                  refine aone_e rfl rfl rfl (e_store_all rfl rfl rfl zG rfl rfl (by rfl) ?_)
                  dsimp only [St.put]
                  refine aany_of_tr (tr_commit (i := 5) rfl zG (by first | exact List.cons_ne_nil _ _ | (simp; done) | (simp [putAt]; done))) ?_
                  refine aany_of_tr (tr_commit (i := 6) rfl zG (by first | exact List.cons_ne_nil _ _ | (simp; done) | (simp [putAt]; done))) ?_
                  dsimp only
                  refine aany_nil (by kernel_rfl) ?_
                  exact ⟨(), trivial, ⟨⟨rfl, rfl⟩, zF, zB, zN, zX⟩⟩
                exact aeach_nil
              exact aeach_nil
            exact aeach_nil
          exact aeach_nil
        refine aeach_cons ?_ ?_
        · try dsimp only [St.put]
          refine aone_e rfl rfl rfl (e_allocC rfl ?_)
          refine aany_step [3, 4] (by kernel_rfl) (by simp) ?_
          refine aeach_cons ?_ ?_
          · try dsimp only [St.put]
            refine aone_e rfl rfl rfl (e_call_pure rfl rfl rfl (Twin2_pure e (by omega)) ?_)
            refine aany_step [4] (by kernel_rfl) (by simp) ?_
            refine aeach_cons ?_ ?_
            · try dsimp only [St.put]
              refine aone_e rfl rfl rfl (e_allocC rfl ?_)
              refine aany_step [6] (by kernel_rfl) (by simp) ?_
              refine aeach_cons ?_ ?_
              · try dsimp only [St.put]
                refine aone_e rfl rfl rfl (e_store_all rfl rfl rfl zG rfl rfl (by rfl) ?_)
                refine aany_step [7] (by kernel_rfl) (by simp) ?_
                refine aeach_cons ?_ ?_
                · try dsimp only [St.put]
                  refine aone_e rfl rfl rfl (e_store_all rfl rfl rfl zG rfl rfl (by rfl) ?_)
                  dsimp only [St.put]
                  refine aany_of_tr (tr_commit (i := 5) rfl zG (by first | exact List.cons_ne_nil _ _ | (simp; done) | (simp [putAt]; done))) ?_
                  refine aany_of_tr (tr_commit (i := 6) rfl zG (by first | exact List.cons_ne_nil _ _ | (simp; done) | (simp [putAt]; done))) ?_
                  dsimp only
                  refine aany_nil (by kernel_rfl) ?_
                  exact ⟨(), trivial, ⟨⟨rfl, rfl⟩, zF, zB, zN, zX⟩⟩
                exact aeach_nil
              exact aeach_nil
            exact aeach_nil
          refine aeach_cons ?_ ?_
          · try dsimp only [St.put]
            refine aone_e rfl rfl rfl (e_allocC rfl ?_)
            refine aany_step [3] (by kernel_rfl) (by simp) ?_
            refine aeach_cons ?_ ?_
            · try dsimp only [St.put]
              refine aone_e rfl rfl rfl (e_call_pure rfl rfl rfl (Twin2_pure e (by omega)) ?_)
              refine aany_step [6] (by kernel_rfl) (by simp) ?_
              refine aeach_cons ?_ ?_
              · try dsimp only [St.put]
                refine aone_e rfl rfl rfl (e_store_all rfl rfl rfl zG rfl rfl (by rfl) ?_)
                refine aany_step [7] (by kernel_rfl) (by simp) ?_
                refine aeach_cons ?_ ?_
                · try dsimp only [St.put]
                  refine aone_e rfl rfl rfl (e_store_all rfl rfl rfl zG rfl rfl (by rfl) ?_)
                  dsimp only [St.put]
                  refine aany_of_tr (tr_commit (i := 5) rfl zG (by first | exact List.cons_ne_nil _ _ | (simp; done) | (simp [putAt]; done))) ?_
                  refine aany_of_tr (tr_commit (i := 6) rfl zG (by first | exact List.cons_ne_nil _ _ | (simp; done) | (simp [putAt]; done))) ?_
                  dsimp only
                  refine aany_nil (by kernel_rfl) ?_
                  exact ⟨(), trivial, ⟨⟨rfl, rfl⟩, zF, zB, zN, zX⟩⟩
                exact aeach_nil
              exact aeach_nil
            exact aeach_nil
          exact aeach_nil
        exact aeach_nil
      refine aeach_cons ?_ ?_
      · try dsimp only [St.put]
        refine aone_e rfl rfl rfl (e_allocC rfl ?_)
        refine aany_step [1, 5] (by kernel_rfl) (by simp) ?_
        refine aeach_cons ?_ ?_
        · try dsimp only [St.put]
          refine aone_e rfl rfl rfl (e_call_pure rfl rfl rfl (Twin_pure t hgt) ?_)
          refine aany_step [3, 5] (by kernel_rfl) (by simp) ?_
          refine aeach_cons ?_ ?_
          · try dsimp only [St.put]
            refine aone_e rfl rfl rfl (e_call_pure rfl rfl rfl (Twin2_pure e (by omega)) ?_)
            refine aany_step [5] (by kernel_rfl) (by simp) ?_
            refine aeach_cons ?_ ?_
            · try dsimp only [St.put]
              refine aone_e rfl rfl rfl (e_allocC rfl ?_)
              refine aany_step [6] (by kernel_rfl) (by simp) ?_
              refine aeach_cons ?_ ?_
              · try dsimp only [St.put]
                refine aone_e rfl rfl rfl (e_store_all rfl rfl rfl zG rfl rfl (by rfl) ?_)
                refine aany_step [7] (by kernel_rfl) (by simp) ?_
                refine aeach_cons ?_ ?_
                · try dsimp only [St.put]
                  refine aone_e rfl rfl rfl (e_store_all rfl rfl rfl zG rfl rfl (by rfl) ?_)
                  dsimp only [St.put]
                  refine aany_of_tr (tr_commit (i := 5) rfl zG (by first | exact List.cons_ne_nil _ _ | (simp; done) | (simp [putAt]; done))) ?_
                  refine aany_of_tr (tr_commit (i := 6) rfl zG (by first | exact List.cons_ne_nil _ _ | (simp; done) | (simp [putAt]; done))) ?_
                  dsimp only
                  refine aany_nil (by kernel_rfl) ?_
                  exact ⟨(), trivial, ⟨⟨rfl, rfl⟩, zF, zB, zN, zX⟩⟩
                exact aeach_nil
              exact aeach_nil
            exact aeach_nil
          refine aeach_cons ?_ ?_
          · try dsimp only [St.put]
            refine aone_e rfl rfl rfl (e_allocC rfl ?_)
            refine aany_step [3] (by kernel_rfl) (by simp) ?_
            refine aeach_cons ?_ ?_
            · try dsimp only [St.put]
              refine aone_e rfl rfl rfl (e_call_pure rfl rfl rfl (Twin2_pure e (by omega)) ?_)
              refine aany_step [6] (by kernel_rfl) (by simp) ?_
              refine aeach_cons ?_ ?_
              · try dsimp only [St.put]
                refine aone_e rfl rfl rfl (e_store_all rfl rfl rfl zG rfl rfl (by rfl) ?_)
                refine aany_step [7] (by kernel_rfl) (by simp) ?_
                refine aeach_cons ?_ ?_
                · try dsimp only [St.put]
                  refine aone_e rfl rfl rfl (e_store_all rfl rfl rfl zG rfl rfl (by rfl) ?_)
                  dsimp only [St.put]
                  refine aany_of_tr (tr_commit (i := 5) rfl zG (by first | exact List.cons_ne_nil _ _ | (simp; done) | (simp [putAt]; done))) ?_
                  refine aany_of_tr (tr_commit (i := 6) rfl zG (by first | exact List.cons_ne_nil _ _ | (simp; done) | (simp [putAt]; done))) ?_
                  dsimp only
                  refine aany_nil (by kernel_rfl) ?_
                  exact ⟨(), trivial, ⟨⟨rfl, rfl⟩, zF, zB, zN, zX⟩⟩
                exact aeach_nil
              exact aeach_nil
            exact aeach_nil
          exact aeach_nil
        refine aeach_cons ?_ ?_
        · try dsimp only [St.put]
          refine aone_e rfl rfl rfl (e_allocC rfl ?_)
          refine aany_step [1] (by kernel_rfl) (by simp) ?_
          refine aeach_cons ?_ ?_
          · try dsimp only [St.put]
            refine aone_e rfl rfl rfl (e_call_pure rfl rfl rfl (Twin_pure t hgt) ?_)
            refine aany_step [3] (by kernel_rfl) (by simp) ?_
            refine aeach_cons ?_ ?_
            · try dsimp only [St.put]
              refine aone_e rfl rfl rfl (e_call_pure rfl rfl rfl (Twin2_pure e (by omega)) ?_)
              refine aany_step [6] (by kernel_rfl) (by simp) ?_
              refine aeach_cons ?_ ?_
              · try dsimp only [St.put]
                refine aone_e rfl rfl rfl (e_store_all rfl rfl rfl zG rfl rfl (by rfl) ?_)
                refine aany_step [7] (by kernel_rfl) (by simp) ?_
                refine aeach_cons ?_ ?_
                · try dsimp only [St.put]
                  refine aone_e rfl rfl rfl (e_store_all rfl rfl rfl zG rfl rfl (by rfl) ?_)
                  dsimp only [St.put]
                  refine aany_of_tr (tr_commit (i := 5) rfl zG (by first | exact List.cons_ne_nil _ _ | (simp; done) | (simp [putAt]; done))) ?_
                  refine aany_of_tr (tr_commit (i := 6) rfl zG (by first | exact List.cons_ne_nil _ _ | (simp; done) | (simp [putAt]; done))) ?_
                  dsimp only
                  refine aany_nil (by kernel_rfl) ?_
                  exact ⟨(), trivial, ⟨⟨rfl, rfl⟩, zF, zB, zN, zX⟩⟩
                exact aeach_nil
              exact aeach_nil
            exact aeach_nil
          exact aeach_nil
        exact aeach_nil
      refine aeach_cons ?_ ?_
      · try dsimp only [St.put]
        refine aone_e rfl rfl rfl (e_allocC rfl ?_)
        refine aany_step [1, 4] (by kernel_rfl) (by simp) ?_
        refine aeach_cons ?_ ?_
        · try dsimp only [St.put]
          refine aone_e rfl rfl rfl (e_call_pure rfl rfl rfl (Twin_pure t hgt) ?_)
          refine aany_step [3, 4] (by kernel_rfl) (by simp) ?_
          refine aeach_cons ?_ ?_
          · try dsimp only [St.put]
            refine aone_e rfl rfl rfl (e_call_pure rfl rfl rfl (Twin2_pure e (by omega)) ?_)
            refine aany_step [4] (by kernel_rfl) (by simp) ?_
            refine aeach_cons ?_ ?_
            · try dsimp only [St.put]
              refine aone_e rfl rfl rfl (e_allocC rfl ?_)
              refine aany_step [6] (by kernel_rfl) (by simp) ?_
              refine aeach_cons ?_ ?_
              · try dsimp only [St.put]
                refine aone_e rfl rfl rfl (e_store_all rfl rfl rfl zG rfl rfl (by rfl) ?_)
                refine aany_step [7] (by kernel_rfl) (by simp) ?_
                refine aeach_cons ?_ ?_
                · try dsimp only [St.put]
                  refine aone_e rfl rfl rfl (e_store_all rfl rfl rfl zG rfl rfl (by rfl) ?_)
                  dsimp only [St.put]
                  refine aany_of_tr (tr_commit (i := 5) rfl zG (by first | exact List.cons_ne_nil _ _ | (simp; done) | (simp [putAt]; done))) ?_
                  refine aany_of_tr (tr_commit (i := 6) rfl zG (by first | exact List.cons_ne_nil _ _ | (simp; done) | (simp [putAt]; done))) ?_
                  dsimp only
                  refine aany_nil (by kernel_rfl) ?_
                  exact ⟨(), trivial, ⟨⟨rfl, rfl⟩, zF, zB, zN, zX⟩⟩
                exact aeach_nil
              exact aeach_nil
            exact aeach_nil
          refine aeach_cons ?_ ?_
          · try dsimp only [St.put]
            refine aone_e rfl rfl rfl (e_allocC rfl ?_)
            refine aany_step [3] (by kernel_rfl) (by simp) ?_
            refine aeach_cons ?_ ?_
            · try dsimp only [St.put]
              refine aone_e rfl rfl rfl (e_call_pure rfl rfl rfl (Twin2_pure e (by omega)) ?_)
              refine aany_step [6] (by kernel_rfl) (by simp) ?_
              refine aeach_cons ?_ ?_
              · try dsimp only [St.put]
                refine aone_e rfl rfl rfl (e_store_all rfl rfl rfl zG rfl rfl (by rfl) ?_)
                refine aany_step [7] (by kernel_rfl) (by simp) ?_
                refine aeach_cons ?_ ?_
                · try dsimp only [St.put]
                  refine aone_e rfl rfl rfl (e_store_all rfl rfl rfl zG rfl rfl (by rfl) ?_)
                  dsimp only [St.put]
                  refine aany_of_tr (tr_commit (i := 5) rfl zG (by first | exact List.cons_ne_nil _ _ | (simp; done) | (simp [putAt]; done))) ?_
                  refine aany_of_tr (tr_commit (i := 6) rfl zG (by first | exact List.cons_ne_nil _ _ | (simp; done) | (simp [putAt]; done))) ?_
                  dsimp only
                  refine aany_nil (by kernel_rfl) ?_
                  exact ⟨(), trivial, ⟨⟨rfl, rfl⟩, zF, zB, zN, zX⟩⟩
                exact aeach_nil
              exact aeach_nil
            exact aeach_nil
          exact aeach_nil
        refine aeach_cons ?_ ?_
        · try dsimp only [St.put]
          refine aone_e rfl rfl rfl (e_allocC rfl ?_)
          refine aany_step [1] (by kernel_rfl) (by simp) ?_
          refine aeach_cons ?_ ?_
          · try dsimp only [St.put]
            refine aone_e rfl rfl rfl (e_call_pure rfl rfl rfl (Twin_pure t hgt) ?_)
            refine aany_step [3] (by kernel_rfl) (by simp) ?_
            refine aeach_cons ?_ ?_
            · try dsimp only [St.put]
              refine aone_e rfl rfl rfl (e_call_pure rfl rfl rfl (Twin2_pure e (by omega)) ?_)
              refine aany_step [6] (by kernel_rfl) (by simp) ?_
              refine aeach_cons ?_ ?_
              · try dsimp only [St.put]
                refine aone_e rfl rfl rfl (e_store_all rfl rfl rfl zG rfl rfl (by rfl) ?_)
                refine aany_step [7] (by kernel_rfl) (by simp) ?_
                refine aeach_cons ?_ ?_
                · try dsimp only [St.put]
                  refine aone_e rfl rfl rfl (e_store_all rfl rfl rfl zG rfl rfl (by rfl) ?_)
                  dsimp only [St.put]
                  refine aany_of_tr (tr_commit (i := 5) rfl zG (by first | exact List.cons_ne_nil _ _ | (simp; done) | (simp [putAt]; done))) ?_
                  refine aany_of_tr (tr_commit (i := 6) rfl zG (by first | exact List.cons_ne_nil _ _ | (simp; done) | (simp [putAt]; done))) ?_
                  dsimp only
                  refine aany_nil (by kernel_rfl) ?_
                  exact ⟨(), trivial, ⟨⟨rfl, rfl⟩, zF, zB, zN, zX⟩⟩
                exact aeach_nil
              exact aeach_nil
            exact aeach_nil
          exact aeach_nil
        exact aeach_nil
      exact aeach_nil
    · rintro _ hI
      dsimp only at hI ⊢
      refine aw_seq_k fun K6 hK6 => ?_
      refine aw_region ?_
      try dsimp only [St.put]
      refine aops_s rfl (s_load_agg' rfl rfl rfl) ?_
      try dsimp only [St.put]
      refine aops_s rfl (s_load_agg' rfl rfl (Enc.len _)) ?_
      try dsimp only [St.put]
      refine aops_e rfl (e_call_f rfl rfl rfl (chartClash_pureF t e (by omega)) zG ?_)
      refine aops_n rfl (n_mv rfl (by constructor)) ?_
      refine aops_n rfl (n_extract rfl rfl rfl) ?_
      refine aops_n rfl (n_extract rfl rfl rfl) ?_
      refine aops_n rfl (n_extract rfl rfl rfl) ?_
      refine aops_n rfl (n_as rfl (by constructor)) ?_
      refine aops_n rfl (n_as rfl (by constructor)) ?_
      refine aops_n rfl (n_as rfl (by constructor)) ?_
      refine aops_nil ?_
      dsimp only [St.put]
      refine hK6 _ ?_
      refine aw_seq_k fun K7 hK7 => ?_
      refine aw_region ?_
      try dsimp only [St.put]
      refine aops_s rfl (s_load_agg' rfl rfl rfl) ?_
      try dsimp only [St.put]
      refine aops_s rfl (s_load_agg' rfl rfl (Enc.len _)) ?_
      try dsimp only [St.put]
      refine aops_e rfl (e_call_pure rfl rfl rfl (Clash_pure t e) ?_)
      refine aops_n rfl (n_mv rfl (by constructor)) ?_
      refine aops_n rfl (n_extract rfl rfl rfl) ?_
      refine aops_n rfl (n_extract rfl rfl rfl) ?_
      refine aops_n rfl (n_extract rfl rfl rfl) ?_
      refine aops_n rfl (n_as rfl (by constructor)) ?_
      refine aops_n rfl (n_as rfl (by constructor)) ?_
      refine aops_n rfl (n_as rfl (by constructor)) ?_
      refine aops_nil ?_
      dsimp only [St.put]
      refine hK7 _ ?_
      refine aw_seq_k fun K8 hK8 => ?_
      refine aw_region ?_
      try dsimp only [St.put]
      refine aops_s rfl (s_load_agg' rfl rfl rfl) ?_
      try dsimp only [St.put]
      refine aops_s rfl (s_load_agg' rfl rfl (Enc.len _)) ?_
      try dsimp only [St.put]
      refine aops_e rfl (e_call_f rfl rfl rfl (chartGaps_pureF t e (by omega)) zG ?_)
      refine aops_n rfl (n_mv rfl (by constructor)) ?_
      refine aops_n rfl (n_extract rfl rfl rfl) ?_
      refine aops_n rfl (n_extract rfl rfl rfl) ?_
      refine aops_n rfl (n_as rfl (by constructor)) ?_
      refine aops_n rfl (n_as rfl (by constructor)) ?_
      refine aops_nil ?_
      dsimp only [St.put]
      refine hK8 _ ?_
      refine aw_seq_k fun K9 hK9 => ?_
      refine aw_region ?_
      try dsimp only [St.put]
      refine aops_s rfl (s_load_agg' rfl rfl rfl) ?_
      try dsimp only [St.put]
      refine aops_s rfl (s_load_agg' rfl rfl (Enc.len _)) ?_
      try dsimp only [St.put]
      refine aops_e rfl (e_call_pure rfl rfl rfl (Gaps_pure t e) ?_)
      refine aops_n rfl (n_mv rfl (by constructor)) ?_
      refine aops_n rfl (n_extract rfl rfl rfl) ?_
      refine aops_n rfl (n_extract rfl rfl rfl) ?_
      refine aops_n rfl (n_as rfl (by constructor)) ?_
      refine aops_n rfl (n_as rfl (by constructor)) ?_
      refine aops_nil ?_
      dsimp only [St.put]
      refine hK9 _ ?_
      refine aw_seq_k fun K10 hK10 => ?_
      refine aw_region ?_
      try dsimp only [St.put]
      refine aops_s rfl (s_load_agg' rfl rfl rfl) ?_
      try dsimp only [St.put]
      refine aops_s rfl (s_load_agg' rfl rfl (Enc.len _)) ?_
      try dsimp only [St.put]
      refine aops_e rfl (e_call_f rfl rfl rfl (chartPlain_no t e (by omega) h) zG ?_)
      refine aops_n rfl (n_mv rfl (by constructor)) ?_
      refine aops_n rfl (n_extract rfl rfl rfl) ?_
      refine aops_n rfl (n_extract rfl rfl rfl) ?_
      try dsimp only [St.put]
      refine aops_e rfl (e_allocC rfl ?_)
      try dsimp only [St.put]
      refine aops_e rfl (e_store_all rfl rfl rfl zG rfl rfl (by rfl) ?_)
      refine aops_n rfl (n_as rfl (by constructor)) ?_
      refine aops_nil ?_
      dsimp only [St.put]
      refine hK10 _ ?_
      refine aw_commitD (i := 17) rfl zG (by first | exact List.cons_ne_nil _ _ | (simp; done) | (simp [putAt]; done)) ?_
      dsimp only
      refine aw_seq_k fun K11 hK11 => ?_
      refine aw_region ?_
      try dsimp only [St.put]
      refine aops_s rfl (s_load_agg' rfl rfl rfl) ?_
      try dsimp only [St.put]
      refine aops_s rfl (s_load_agg' rfl rfl (Enc.len _)) ?_
      try dsimp only [St.put]
      refine aops_e rfl (e_call_pure rfl rfl rfl (Plain_pure t e) ?_)
      refine aops_n rfl (n_mv rfl (by constructor)) ?_
      refine aops_n rfl (n_extract rfl rfl rfl) ?_
      refine aops_n rfl (n_extract rfl rfl rfl) ?_
      try dsimp only [St.put]
      refine aops_e rfl (e_allocC rfl ?_)
      try dsimp only [St.put]
      refine aops_e rfl (e_store_all rfl rfl rfl zG rfl rfl (by rfl) ?_)
      refine aops_n rfl (n_as rfl (by constructor)) ?_
      refine aops_nil ?_
      dsimp only [St.put]
      rw [hL]
      refine hK11 _ ?_
      refine aw_commitD (i := 19) rfl zG (by first | exact List.cons_ne_nil _ _ | (simp; done) | (simp [putAt]; done)) ?_
      dsimp only
      refine aw_wipe 22 ?_
      simp only [firsts, getA, Nat.reduceAdd, List.getD_cons_zero, List.getD_cons_succ, List.getD_nil, natBeq, Nat.reduceBEq, cond_true, cond_false]
      refine aw_cutD (X := Unit) (fun _ => True) (fun _ => [(21, .v (.bool true))]) (fun _ G' => G') rfl ?_ (fun _ _ _ _ h => .inl h) ?_ ?_
      · rintro _ hI
        exact zL
      · refine aw_drawT [(0, none), (1, none), (3, none), (4, none)] (fun _ => false) (fun i => [].contains i) 39 [true, true, false, true, true, false, false, false, false, false, false, false, false, false, false, false, false, false, false, false, false, false, false, false, false, false, false, false, false, false, false, false, false, false, false, false, false, false, false, false, false, false, false] (by kernel_rfl) (by kernel_rfl) ?_
        try dsimp only [St.put]
        refine acan1_s rfl rfl rfl rfl (s_load_agg' rfl rfl rfl) ?_
        try dsimp only [St.put]
        refine acan1_s rfl rfl rfl rfl (s_load_agg' rfl rfl (Enc.len _)) ?_
        try dsimp only [St.put]
        refine acan1_s rfl rfl rfl rfl (s_load_agg' rfl rfl rfl) ?_
        try dsimp only [St.put]
        refine acan1_s rfl rfl rfl rfl (s_load_agg' rfl rfl (Enc.len _)) ?_
        refine acan1_nil ?_
        refine aany_step [2] (by kernel_rfl) (by simp) ?_
        refine aeach_cons ?_ ?_
        · try dsimp only [St.put]
          refine aone_e rfl rfl rfl (e_call_f rfl rfl rfl (chartCheck_pureF t e (by omega)) zG ?_)
          refine aany_step [5] (by kernel_rfl) (by simp) ?_
          refine aeach_cons ?_ ?_
          · try dsimp only [St.put]
            refine aone_e rfl rfl rfl (e_call_pure rfl rfl rfl (Check2_pure t e) ?_)
            refine aany_quiet [(6, none), (7, none), (8, none), (9, none), (10, none), (11, none), (12, none), (13, none), (14, none), (15, none), (16, none), (17, none), (18, none), (19, none), (20, none), (21, none), (22, none), (23, none), (24, none)] (fun i => [6, 7, 8, 9, 10, 11, 12, 13, 14, 15, 16, 17, 18, 19, 20, 21, 22, 23, 24].contains i) 18 [true, true, true, true, true, true, true, true, true, true, true, true, true, true, true, true, true, true, true, true, true, true, true, true, true, false, false, false, false, false, false, false, false, false, false, false, false, false, false, false, false, false, false] (by kernel_rfl) ?_
            refine acan1_n rfl rfl rfl rfl (n_bool (n_eql rfl rfl rfl) (decide_eq_true (by omega))) ?_
            refine acan1_n rfl rfl rfl rfl (n_mv rfl (by constructor)) ?_
            refine acan1_n rfl rfl rfl rfl (n_mv rfl (by constructor)) ?_
            refine acan1_n rfl rfl rfl rfl (n_mv rfl (by constructor)) ?_
            refine acan1_n rfl rfl rfl rfl (n_bool (n_eql rfl rfl rfl) (decide_eq_true (by omega))) ?_
            refine acan1_n rfl rfl rfl rfl (n_pt rfl rfl (by constructor)) ?_
            refine acan1_n rfl rfl rfl rfl (n_mv rfl (by constructor)) ?_
            refine acan1_n rfl rfl rfl rfl (n_mv rfl (by constructor)) ?_
            refine acan1_n rfl rfl rfl rfl (n_mv rfl (by constructor)) ?_
            refine acan1_n rfl rfl rfl rfl (n_bool (n_eql rfl rfl rfl) (decide_eq_true (by omega))) ?_
            refine acan1_n rfl rfl rfl rfl (n_pt rfl rfl (by constructor)) ?_
            refine acan1_n rfl rfl rfl rfl (n_mv rfl (by constructor)) ?_
            refine acan1_n rfl rfl rfl rfl (n_mv rfl (by constructor)) ?_
            refine acan1_n rfl rfl rfl rfl (n_mv rfl (by constructor)) ?_
            refine acan1_n rfl rfl rfl rfl (n_bool (n_eql rfl rfl rfl) (decide_eq_true (by omega))) ?_
            refine acan1_n rfl rfl rfl rfl (n_pt rfl rfl (by constructor)) ?_
            refine acan1_n rfl rfl rfl rfl (n_mv rfl (by constructor)) ?_
            refine acan1_n rfl rfl rfl rfl (n_mv rfl (by constructor)) ?_
            refine acan1_n rfl rfl rfl rfl (n_mv rfl (by constructor)) ?_
            refine acan1_nil ?_
            refine aany_step [25] (by kernel_rfl) (by simp) ?_
            refine aeach_cons ?_ ?_
            · try dsimp only [St.put]
              refine aone_e rfl rfl rfl (e_call_pure rfl rfl rfl (SamePlaces_self _) ?_)
              refine aany_quiet [(26, none), (27, none), (28, none), (29, none), (30, none), (31, none), (32, none), (33, none), (34, none)] (fun i => [26, 27, 28, 29, 30, 31, 32].contains i) 8 [true, true, true, true, true, true, true, true, true, true, true, true, true, true, true, true, true, true, true, true, true, true, true, true, true, true, true, true, true, true, true, true, true, true, true, false, false, false, false, false, false, false, false] (by kernel_rfl) ?_
              refine acan1_n rfl rfl rfl rfl (n_pt rfl rfl (by constructor)) ?_
              refine acan1_n rfl rfl rfl rfl (n_mv rfl (by constructor)) ?_
              refine acan1_n rfl rfl rfl rfl (n_mv rfl (by constructor)) ?_
              refine acan1_n rfl rfl rfl rfl (n_mv rfl (by constructor)) ?_
              refine acan1_n rfl rfl rfl rfl (n_bool (n_eql rfl rfl rfl) (decide_eq_true (by omega))) ?_
              refine acan1_n rfl rfl rfl rfl (n_pt rfl rfl (by constructor)) ?_
              refine acan1_n rfl rfl rfl rfl (n_mv rfl (by constructor)) ?_
              try dsimp only [St.put]
              refine acan1_s rfl rfl rfl rfl (s_load_agg' rfl rfl (Enc.len _)) ?_
              try dsimp only [St.put]
              refine acan1_s rfl rfl rfl rfl (s_load_agg' rfl rfl (Enc.len _)) ?_
              refine acan1_nil ?_
              refine aany_step [35] (by kernel_rfl) (by simp) ?_
              refine aeach_cons ?_ ?_
              · try dsimp only [St.put]
                refine aone_e rfl rfl rfl (e_call_pure rfl rfl rfl (Same2_self _) ?_)
                refine aany_quiet [(36, none), (37, none), (38, none), (39, none), (40, none), (41, none), (42, none)] (fun i => [36, 37, 38, 39, 40, 41, 42].contains i) 0 [true, true, true, true, true, true, true, true, true, true, true, true, true, true, true, true, true, true, true, true, true, true, true, true, true, true, true, true, true, true, true, true, true, true, true, true, true, true, true, true, true, true, true] (by kernel_rfl) ?_
                refine acan1_n rfl rfl rfl rfl (n_pt rfl rfl (by constructor)) ?_
                refine acan1_n rfl rfl rfl rfl (n_mv rfl (by constructor)) ?_
                refine acan1_n rfl rfl rfl rfl (n_mv rfl (by constructor)) ?_
                refine acan1_n rfl rfl rfl rfl (n_mv rfl (by constructor)) ?_
                refine acan1_n rfl rfl rfl rfl (n_bool (n_eql rfl rfl rfl) (decide_eq_true (by omega))) ?_
                refine acan1_n rfl rfl rfl rfl (n_pt rfl rfl (by constructor)) ?_
                refine acan1_n rfl rfl rfl rfl (n_as rfl (by constructor)) ?_
                refine acan1_nil ?_
                dsimp only [St.put]
                refine aany_nil (by kernel_rfl) ?_
                exact ⟨(), trivial, ⟨⟨rfl, rfl⟩, zF, zB, zN, zX⟩⟩
              exact aeach_nil
            exact aeach_nil
          exact aeach_nil
        exact aeach_nil
      · rintro _ hI
        dsimp only at hI ⊢
        refine aw_seq_k fun K13 hK13 => ?_
        refine aw_seq_k fun K14 hK14 => ?_
        refine aw_region ?_
        refine aops_n rfl (n_fieldAddr' rfl rfl rfl) ?_
        try dsimp only [St.put]
        refine aops_s rfl (s_load rfl rfl) ?_
        refine aops_n rfl (n_len' rfl rfl (List.length_map _)) ?_
        refine aops_n rfl (n_mv rfl (by constructor)) ?_
        refine aops_nil ?_
        dsimp only [St.put]
        refine hK14 _ ?_
        refine aw_block ?_
        refine aw_rounds 1 ?_
        refine arounds_succ fun KR15_0 hKR15_0 => ?_
        refine aw_seq_k fun K16 hK16 => ?_
        refine aw_region ?_
        refine aops_n rfl (n_bool (c := false) (n_lss rfl rfl rfl) (by rfl)) ?_
        refine aops_nil ?_
        dsimp only [St.put]
        refine hK16 _ ?_
        refine aw_seq_k fun K17 hK17 => ?_
        refine aw_cond rfl (fun h => by cases h) (fun _ => ?_)
        refine aw_exit ?_
        refine hK13 _ ?_
        refine aw_seq_k fun K18 hK18 => ?_
        refine aw_region ?_
        refine aops_n rfl (n_mv rfl (by constructor)) ?_
        refine aops_n rfl (n_mv rfl (by constructor)) ?_
        try dsimp only [St.put]
        refine aops_s rfl (s_load_agg' rfl rfl rfl) ?_
        try dsimp only [St.put]
        refine aops_s rfl (s_load_agg' rfl rfl rfl) ?_
        try dsimp only [St.put]
        refine aops_e rfl (e_call_pure rfl rfl rfl (Same_self _) ?_)
        refine aops_n rfl (n_pt rfl rfl (by constructor)) ?_
        refine aops_n rfl (n_mv rfl (by constructor)) ?_
        try dsimp only [St.put]
        refine aops_s rfl (s_load_agg' rfl rfl (Enc.len _)) ?_
        try dsimp only [St.put]
        refine aops_s rfl (s_load_agg' rfl rfl (Enc.len _)) ?_
        try dsimp only [St.put]
        refine aops_e rfl (e_call_pure rfl rfl rfl (Same2_self _) ?_)
        refine aops_n rfl (n_pt rfl rfl (by constructor)) ?_
        refine aops_n rfl (n_as rfl (by constructor)) ?_
        refine aops_nil ?_
        dsimp only [St.put]
        refine hK18 _ ?_
        refine aw_ret ?_
        refine ends_1 rfl (by constructor) zN zS ?_
        rfl
theorem law_pureF (t : TextD) (e : EditionD) : PureF chkF Tryd.prog 3 [textC t, val e] (.v (.bool true)) := by
  by_cases h : soundEr t e = 0
  · exact law_ok t e h
  · exact law_no t e h
end Go.Proofs.YtolcenpmgmpmkaaDoor
