/-
  The law ChartBack: its walk.
-/
import Derived.Test.YtjjklfgpffgnfaaGreatDoorGrpG
namespace Go.Proofs.YtjjklfgpffgnfaaGreatDoor
set_option maxRecDepth 10000
open Go.RowKit Go.AB
open Go.AB.Enc (cells)
open Go.PB (Chap TextD PlaceD ReadingD CopyD WayD)
theorem Ref2_true {r : RefD} (h : refB r = true) : Pure Tryz.prog 18 [val r] (.v (.bool true)) := by
  have := Ref2_pure r
  rwa [h] at this
theorem Ref2_false {r : RefD} (h : refB r = false) : Pure Tryz.prog 18 [val r] (.v (.bool false)) := by
  have := Ref2_pure r
  rwa [h] at this
set_option maxHeartbeats 4000000 in
theorem back_pureF (t : TextD) (e : EditionD) (a b c : Int) (r : RefD) : PureF chkF Tryz.prog 3 [textC t, val e, .v (.int .u8 a), .v (.int .u8 b), .v (.int .u8 c), val r] (.v (.bool true)) := by
  refine pureF_of_body Tryz.func3 rfl (fun m => .v) fun G nx hF => ?_
  simp only [Tryz.ntmps3, List.length_cons, List.length_nil, Nat.reduceAdd, Nat.reduceSub]
  refine aw_lt fun hlt => ?_
  dsimp only at hlt
  have hnx := hlt 0 _ hF
  refine aw_fit 2 (fun hfa => ?_)
  refine aw_fit 3 (fun hfb => ?_)
  refine aw_fit 4 (fun hfc => ?_)
  replace hfa := u8_fit hfa
  replace hfb := u8_fit hfb
  replace hfc := u8_fit hfc
  refine aw_seq_k fun K1 hK1 => ?_
  refine aw_region ?_
  try dsimp only [St.put]
  refine aops_e rfl (e_box rfl rfl (by simp) ?_)
  try dsimp only [St.put]
  refine aops_e rfl (e_box rfl rfl (by simp) ?_)
  try dsimp only [St.put]
  refine aops_e rfl (e_box rfl rfl (by simp) ?_)
  refine aops_n rfl (n_as rfl (by constructor)) ?_
  refine aops_nil ?_
  dsimp only [St.put]
  refine hK1 _ ?_
  refine aw_seq_k fun K2 hK2 => ?_
  refine aw_region ?_
  try dsimp only [St.put]
  refine aops_e rfl (e_call_f rfl rfl rfl (alive_pureF) zG ?_)
  refine aops_n rfl (n_as rfl (by constructor)) ?_
  refine aops_nil ?_
  dsimp only [St.put]
  refine hK2 _ ?_
  refine aw_seq_k fun K3 hK3 => ?_
  refine aw_seq_k fun K4 hK4 => ?_
  refine aw_region ?_
  try dsimp only [St.put]
  refine aops_s rfl (s_load_agg' rfl rfl rfl) ?_
  try dsimp only [St.put]
  refine aops_s rfl (s_load_agg' rfl rfl (Enc.len _)) ?_
  try dsimp only [St.put]
  refine aops_e rfl (e_call_pure rfl rfl rfl (lawReady_pure t e) ?_)
  refine aops_split (fun hs => ?_) (fun hs => ?_)
  · obtain ⟨⟨hle, hgt⟩, h0⟩ := readyB_true.1 hs
    have hS := soundEr_sound h0
    refine aops_n rfl (n_not rfl rfl) ?_
    refine aops_n rfl (n_mv rfl (by constructor)) ?_
    refine aops_n rfl (n_mv rfl (by constructor)) ?_
    refine aops_n rfl (n_not rfl rfl) ?_
    refine aops_n rfl (n_pf rfl rfl (by constructor)) ?_
    refine aops_nil ?_
    dsimp only [St.put]
    refine hK4 _ ?_
    refine aw_cond rfl (fun h => by cases h) (fun _ => ?_)
    refine aw_skip ?_
    refine hK3 _ ?_
    refine aw_seq_k fun K5 hK5 => ?_
    refine aw_region ?_
    try dsimp only [St.put]
    refine aops_s rfl (s_load_agg' rfl rfl rfl) ?_
    refine aops_n rfl (n_mv rfl (by constructor)) ?_
    refine aops_n rfl (n_mv rfl (by constructor)) ?_
    refine aops_n rfl (n_mv rfl (by constructor)) ?_
    try dsimp only [St.put]
    refine aops_e rfl (e_call_pure rfl rfl rfl (lawPick_pure t a b c hS.tx hfa hfb hfc) ?_)
    try dsimp only [St.put]
    refine aops_e rfl (e_allocC rfl ?_)
    try dsimp only [St.put]
    refine aops_e rfl (e_store_all rfl rfl rfl zG rfl rfl (by rfl) ?_)
    refine aops_nil ?_
    dsimp only [St.put]
    obtain ⟨p, hpp⟩ : ∃ p, pickP t a b c = p := ⟨_, rfl⟩
    have hp : placeB t p = true := hpp ▸ pick_place hS.tx hfa.1 hfb.1 hfc.1
    rw [hpp]
    have hpb := place_bd hS.tx hp
    refine hK5 _ ?_
    refine aw_commitD (i := 14) rfl zG (by first | exact List.cons_ne_nil _ _ | (simp; done) | (simp [putAt]; done)) ?_
    dsimp only
    refine aw_seq_k fun K6 hK6 => ?_
    refine aw_region ?_
    try dsimp only [St.put]
    refine aops_s rfl (s_load_agg' rfl rfl rfl) ?_
    try dsimp only [St.put]
    refine aops_s rfl (s_load_agg' rfl rfl (Enc.len _)) ?_
    try dsimp only [St.put]
    refine aops_s rfl (s_load_agg' rfl rfl (Enc.len _)) ?_
    try dsimp only [St.put]
    refine aops_e rfl (e_call_f rfl rfl rfl (chartRefer_pureF t e p hle) zG ?_)
    refine aops_n rfl (n_mv rfl (by constructor)) ?_
    refine aops_n rfl (n_extract rfl rfl rfl) ?_
    refine aops_n rfl (n_extract rfl rfl rfl) ?_
    try dsimp only [St.put]
    refine aops_e rfl (e_allocC rfl ?_)
    try dsimp only [St.put]
    refine aops_e rfl (e_store_all rfl rfl rfl zG rfl rfl (by rfl) ?_)
    refine aops_n rfl (n_as rfl (by constructor)) ?_
    refine aops_nil ?_
    dsimp only [St.put]
    refine hK6 _ ?_
    refine aw_commitD (i := 15) rfl zG (by first | exact List.cons_ne_nil _ _ | (simp; done) | (simp [putAt]; done)) ?_
    dsimp only
    refine aw_wipe 17 ?_
    simp only [firsts, getA, Nat.reduceAdd, List.getD_cons_zero, List.getD_cons_succ, List.getD_nil, natBeq, Nat.reduceBEq, cond_true, cond_false]
    refine aw_forget (G) zX ?_
    dsimp only
    refine aw_cutD (X := Unit) (fun _ => True) (fun _ => [(15, .any), (16, .any)]) (fun _ G' => G') rfl ?_ (fun _ _ _ _ h => .inl h) ?_ ?_
    · rintro _ hI
      exact zL
    · refine aw_seq_k fun K8 hK8 => ?_
      refine aw_region ?_
      refine aops_n rfl (n_mv rfl (by constructor)) ?_
      refine aops_n rfl (n_eql rfl rfl rfl) ?_
      refine aops_nil ?_
      dsimp only [St.put]
      refine hK8 _ ?_
      refine aw_cond rfl (fun hc => ?_) (fun hc => ?_)
      · replace hc := of_decide_eq_true hc
        obtain ⟨v, hv, hV⟩ := refer_some h0 hp hc
        obtain ⟨hrb, hlo⟩ := lead_of_refer hS hp hv
        obtain ⟨hl0, hl1⟩ := leadEr_eq h0 hrb hlo
        have hp0 := placed_ok hS.tx hp
        rw [hV]
        refine aw_seq_k fun K9 hK9 => ?_
        refine aw_region ?_
        try dsimp only [St.put]
        refine aops_s rfl (s_load_agg' rfl rfl rfl) ?_
        try dsimp only [St.put]
        refine aops_s rfl (s_load_agg' rfl rfl (Enc.len _)) ?_
        try dsimp only [St.put]
        refine aops_s rfl (s_load_agg' rfl rfl (Enc.len _)) ?_
        try dsimp only [St.put]
        refine aops_e rfl (e_call_f rfl rfl rfl (chartLead_pureF t e ⟨v.1, v.2, p.wd + 1⟩ hle) zG ?_)
        refine aops_n rfl (n_mv rfl (by constructor)) ?_
        refine aops_n rfl (n_extract rfl rfl rfl) ?_
        refine aops_n rfl (n_extract rfl rfl rfl) ?_
        try dsimp only [St.put]
        refine aops_e rfl (e_allocC rfl ?_)
        try dsimp only [St.put]
        refine aops_e rfl (e_store_all rfl rfl rfl zG rfl rfl (by rfl) ?_)
        refine aops_n rfl (n_as rfl (by constructor)) ?_
        refine aops_nil ?_
        dsimp only [St.put]
        rw [hl0, hl1]
        refine hK9 _ ?_
        refine aw_commitD (i := 17) rfl zG (by first | exact List.cons_ne_nil _ _ | (simp; done) | (simp [putAt]; done)) ?_
        dsimp only
        refine aw_seq_k fun K10 hK10 => ?_
        refine aw_region ?_
        try dsimp only [St.put]
        refine aops_s rfl (s_load_agg' rfl rfl rfl) ?_
        try dsimp only [St.put]
        refine aops_s rfl (s_load_agg' rfl rfl (Enc.len _)) ?_
        try dsimp only [St.put]
        refine aops_e rfl (e_call_pure rfl rfl rfl (leafAt_pure t p) ?_)
        refine aops_n rfl (n_mv rfl (by constructor)) ?_
        refine aops_n rfl (n_extract rfl rfl rfl) ?_
        refine aops_n rfl (n_extract rfl rfl rfl) ?_
        refine aops_n rfl (n_as rfl (by constructor)) ?_
        refine aops_n rfl (n_as rfl (by constructor)) ?_
        refine aops_nil ?_
        dsimp only [St.put]
        rw [hp0]
        refine hK10 _ ?_
        refine aw_seq_k fun K11 hK11 => ?_
        refine aw_region ?_
        try dsimp only [St.put]
        refine aops_s rfl (s_load_agg' rfl rfl rfl) ?_
        try dsimp only [St.put]
        refine aops_s rfl (s_load_agg' rfl rfl (Enc.len _)) ?_
        try dsimp only [St.put]
        refine aops_e rfl (e_call_pure rfl rfl rfl (leafAt_pure t p) ?_)
        refine aops_n rfl (n_mv rfl (by constructor)) ?_
        refine aops_n rfl (n_extract rfl rfl rfl) ?_
        refine aops_n rfl (n_extract rfl rfl rfl) ?_
        refine aops_n rfl (n_as rfl (by constructor)) ?_
        refine aops_n rfl (n_as rfl (by constructor)) ?_
        refine aops_nil ?_
        dsimp only [St.put]
        rw [hp0]
        refine hK11 _ ?_
        refine aw_seq_k fun K12 hK12 => ?_
        refine aw_region ?_
        refine aops_n rfl (n_mv rfl (by constructor)) ?_
        refine aops_n rfl (n_bool (n_neq rfl rfl rfl) (not_dec_f (by omega))) ?_
        refine aops_n rfl (n_mv rfl (by constructor)) ?_
        try dsimp only [St.put]
        refine aops_s rfl (s_load_agg' rfl rfl (Enc.len _)) ?_
        try dsimp only [St.put]
        refine aops_s rfl (s_load_agg' rfl rfl (Enc.len _)) ?_
        refine aops_n rfl (n_bool (n_agg_neq rfl rfl rfl) (not_dec_f (by first | assumption | with_reducible rfl))) ?_
        refine aops_n rfl (n_pf rfl rfl (by constructor)) ?_
        refine aops_n rfl (n_mv rfl (by constructor)) ?_
        refine aops_n rfl (n_mv rfl (by constructor)) ?_
        refine aops_n rfl (n_bool (n_neq rfl rfl rfl) (not_dec_f (by omega))) ?_
        refine aops_n rfl (n_pf rfl rfl (by constructor)) ?_
        refine aops_n rfl (n_mv rfl (by constructor)) ?_
        refine aops_n rfl (n_mv rfl (by constructor)) ?_
        refine aops_n rfl (n_bool (n_neq rfl rfl rfl) (not_dec_f (by omega))) ?_
        refine aops_n rfl (n_pf rfl rfl (by constructor)) ?_
        refine aops_n rfl (n_mv rfl (by constructor)) ?_
        refine aops_n rfl (n_mv rfl (by constructor)) ?_
        refine aops_n rfl (n_mv rfl (by constructor)) ?_
        refine aops_n rfl (n_bool (n_strne rfl rfl rfl) (not_dec_f (by first | assumption | with_reducible rfl))) ?_
        refine aops_n rfl (n_pf rfl rfl (by constructor)) ?_
        refine aops_n rfl (n_mv rfl (by constructor)) ?_
        refine aops_n rfl (n_fieldAddr' rfl rfl rfl) ?_
        try dsimp only [St.put]
        refine aops_s rfl (s_load rfl rfl) ?_
        refine aops_n rfl (n_fieldAddr' rfl rfl rfl) ?_
        try dsimp only [St.put]
        refine aops_s rfl (s_load rfl rfl) ?_
        refine aops_n rfl (n_add rfl rfl rfl (by omega)) ?_
        refine aops_n rfl (n_bool (n_neq rfl rfl rfl) (not_dec_f (by omega))) ?_
        refine aops_n rfl (n_pf rfl rfl (by constructor)) ?_
        refine aops_nil ?_
        dsimp only [St.put]
        refine hK12 _ ?_
        refine aw_cond rfl (fun h => by cases h) (fun _ => ?_)
        refine aw_skip ?_
        exact ⟨(), trivial, ⟨⟨rfl, rfl⟩, zF, zB, zN, zX⟩⟩
      replace hc := of_decide_eq_false hc
      obtain ⟨hno, hE, hV⟩ := refer_none h0 hp hc
      rw [hE]
      refine aw_seq_k fun K13 hK13 => ?_
      refine aw_region ?_
      refine aops_n rfl (n_mv rfl (by constructor)) ?_
      refine aops_n rfl (n_bool (c := false) (n_neq rfl rfl rfl) (not_dec_f rfl)) ?_
      refine aops_nil ?_
      dsimp only [St.put]
      refine hK13 _ ?_
      refine aw_cond rfl (fun h => by cases h) (fun _ => ?_)
      refine aw_skip ?_
      exact ⟨(), trivial, ⟨⟨rfl, rfl⟩, zF, zB, zN, zX⟩⟩
    rintro _ hI
    dsimp only at hI ⊢
    refine aw_seq_k fun K14 hK14 => ?_
    refine aw_region ?_
    try dsimp only [St.put]
    refine aops_s rfl (s_load_agg' rfl rfl rfl) ?_
    try dsimp only [St.put]
    refine aops_s rfl (s_load_agg' rfl rfl (Enc.len _)) ?_
    try dsimp only [St.put]
    refine aops_s rfl (s_load_agg' rfl rfl (Enc.len _)) ?_
    try dsimp only [St.put]
    refine aops_e rfl (e_call_f rfl rfl rfl (chartLead_pureF t e r hle) zG ?_)
    refine aops_n rfl (n_mv rfl (by constructor)) ?_
    refine aops_n rfl (n_extract rfl rfl rfl) ?_
    refine aops_n rfl (n_extract rfl rfl rfl) ?_
    try dsimp only [St.put]
    refine aops_e rfl (e_allocC rfl ?_)
    try dsimp only [St.put]
    refine aops_e rfl (e_store_all rfl rfl rfl zG rfl rfl (by rfl) ?_)
    refine aops_n rfl (n_as rfl (by constructor)) ?_
    refine aops_nil ?_
    dsimp only [St.put]
    refine hK14 _ ?_
    refine aw_commitD (i := 23) rfl zG (by first | exact List.cons_ne_nil _ _ | (simp; done) | (simp [putAt]; done)) ?_
    dsimp only
    refine aw_seq_k fun K15 hK15 => ?_
    refine aw_seq_k fun K16 hK16 => ?_
    refine aw_region ?_
    refine aops_n rfl (n_mv rfl (by constructor)) ?_
    refine aops_nil ?_
    dsimp only [St.put]
    refine hK16 _ ?_
    refine aw_block ?_
    refine aw_seq_k fun K17 hK17 => ?_
    refine aw_region ?_
    refine aops_n rfl (n_eql rfl rfl rfl) ?_
    refine aops_n rfl (n_as rfl (by constructor)) ?_
    refine aops_nil ?_
    dsimp only [St.put]
    refine hK17 _ ?_
    refine aw_cond rfl (fun hc => ?_) (fun hc => ?_)
    · replace hc := of_decide_eq_true hc
      obtain ⟨hr, q, hlo, hE, hV⟩ : refB r = true ∧ ∃ q, leadO t e.ss r = some q ∧ leadEr t e r = 0 ∧ leadV t e r = q := by
        rcases lead_cases (r := r) h0 with h | h | h
        · exact h
        · rw [h.2.1] at hc; cases hc
        rw [h.2.2.1] at hc; cases hc
      obtain ⟨hq, hqa, hqw⟩ := refer_of_lead hS hr hlo
      obtain ⟨hq0, hq1⟩ := referEr_eq h0 hq hqa
      have hp0 := placed_ok hS.tx hq
      rw [hV]
      have hqr : (⟨r.ch, r.ln, q.wd + 1⟩ : RefD) = r := by rw [hqw]
      dsimp only at hq1
      rw [hqr] at hq1
      refine aw_seq_k fun K18 hK18 => ?_
      refine aw_region ?_
      try dsimp only [St.put]
      refine aops_s rfl (s_load_agg' rfl rfl rfl) ?_
      try dsimp only [St.put]
      refine aops_s rfl (s_load_agg' rfl rfl (Enc.len _)) ?_
      try dsimp only [St.put]
      refine aops_s rfl (s_load_agg' rfl rfl (Enc.len _)) ?_
      try dsimp only [St.put]
      refine aops_e rfl (e_call_f rfl rfl rfl (chartRefer_pureF t e q hle) zG ?_)
      refine aops_n rfl (n_mv rfl (by constructor)) ?_
      refine aops_n rfl (n_extract rfl rfl rfl) ?_
      refine aops_n rfl (n_extract rfl rfl rfl) ?_
      try dsimp only [St.put]
      refine aops_e rfl (e_allocC rfl ?_)
      try dsimp only [St.put]
      refine aops_e rfl (e_store_all rfl rfl rfl zG rfl rfl (by rfl) ?_)
      refine aops_n rfl (n_as rfl (by constructor)) ?_
      refine aops_nil ?_
      dsimp only [St.put]
      rw [hq0, hq1]
      refine hK18 _ ?_
      refine aw_commitD (i := 25) rfl zG (by first | exact List.cons_ne_nil _ _ | (simp; done) | (simp [putAt]; done)) ?_
      dsimp only
      refine aw_seq_k fun K19 hK19 => ?_
      refine aw_region ?_
      try dsimp only [St.put]
      refine aops_s rfl (s_load_agg' rfl rfl rfl) ?_
      try dsimp only [St.put]
      refine aops_s rfl (s_load_agg' rfl rfl (Enc.len _)) ?_
      try dsimp only [St.put]
      refine aops_e rfl (e_call_pure rfl rfl rfl (leafAt_pure t q) ?_)
      refine aops_n rfl (n_mv rfl (by constructor)) ?_
      refine aops_n rfl (n_extract rfl rfl rfl) ?_
      refine aops_n rfl (n_extract rfl rfl rfl) ?_
      refine aops_n rfl (n_as rfl (by constructor)) ?_
      refine aops_n rfl (n_as rfl (by constructor)) ?_
      refine aops_nil ?_
      dsimp only [St.put]
      rw [hp0]
      refine hK19 _ ?_
      refine aw_seq_k fun K20 hK20 => ?_
      refine aw_region ?_
      refine aops_n rfl (n_mv rfl (by constructor)) ?_
      refine aops_n rfl (n_mv rfl (by constructor)) ?_
      refine aops_n rfl (n_mv rfl (by constructor)) ?_
      refine aops_n rfl (n_bool (n_eql rfl rfl rfl) (decide_eq_true (by omega))) ?_
      refine aops_n rfl (n_pt rfl rfl (by constructor)) ?_
      refine aops_n rfl (n_mv rfl (by constructor)) ?_
      try dsimp only [St.put]
      refine aops_s rfl (s_load_agg' rfl rfl (Enc.len _)) ?_
      try dsimp only [St.put]
      refine aops_s rfl (s_load_agg' rfl rfl (Enc.len _)) ?_
      refine aops_n rfl (n_bool (n_agg_eql rfl rfl rfl) (decide_eq_true (by first | assumption | with_reducible rfl))) ?_
      refine aops_n rfl (n_pt rfl rfl (by constructor)) ?_
      refine aops_n rfl (n_mv rfl (by constructor)) ?_
      refine aops_n rfl (n_mv rfl (by constructor)) ?_
      refine aops_n rfl (n_bool (n_eql rfl rfl rfl) (decide_eq_true (by omega))) ?_
      refine aops_n rfl (n_pt rfl rfl (by constructor)) ?_
      refine aops_n rfl (n_as rfl (by constructor)) ?_
      refine aops_nil ?_
      dsimp only [St.put]
      refine hK20 _ ?_
      refine aw_ret ?_
      refine ends_1 rfl (by constructor) zN zS ?_
      rfl
    replace hc := of_decide_eq_false hc
    have hc1 := hc
    refine aw_seq_k fun K21 hK21 => ?_
    refine aw_region ?_
    refine aops_n rfl (n_eql rfl rfl rfl) ?_
    refine aops_n rfl (n_as rfl (by constructor)) ?_
    refine aops_nil ?_
    dsimp only [St.put]
    refine hK21 _ ?_
    refine aw_cond rfl (fun hc => ?_) (fun hc => ?_)
    · replace hc := of_decide_eq_true hc
      have hr : refB r = false := by
        rcases lead_cases (r := r) h0 with h | h | h
        · obtain ⟨_, _, _, h1, _⟩ := h; rw [h1] at hc; cases hc
        · exact h.1
        rw [h.2.2.1] at hc; cases hc
      refine aw_seq_k fun K22 hK22 => ?_
      refine aw_region ?_
      refine aops_n rfl (n_mv rfl (by constructor)) ?_
      refine aops_n rfl (n_mv rfl (by constructor)) ?_
      try dsimp only [St.put]
      refine aops_s rfl (s_load_agg' rfl rfl (Enc.len _)) ?_
      try dsimp only [St.put]
      refine aops_e rfl (e_call_pure rfl rfl rfl (Ref2_false hr) ?_)
      refine aops_n rfl (n_not rfl rfl) ?_
      refine aops_n rfl (n_pt rfl rfl (by constructor)) ?_
      refine aops_n rfl (n_as rfl (by constructor)) ?_
      refine aops_nil ?_
      dsimp only [St.put]
      refine hK22 _ ?_
      refine aw_ret ?_
      refine ends_1 rfl (by constructor) zN zS ?_
      rfl
    have _ := trivial
    replace hc := of_decide_eq_false hc
    obtain ⟨hr, hE⟩ : refB r = true ∧ leadEr t e r = 6 := by
      rcases lead_cases (r := r) h0 with h | h | h
      · obtain ⟨_, _, _, h1, _⟩ := h; exact absurd h1 hc1
      · exact absurd h.2.1 hc
      exact ⟨h.1, h.2.2.1⟩
    refine aw_skip ?_
    refine hK15 _ ?_
    refine aw_seq_k fun K23 hK23 => ?_
    refine aw_region ?_
    refine aops_n rfl (n_mv rfl (by constructor)) ?_
    refine aops_n rfl (n_mv rfl (by constructor)) ?_
    refine aops_n rfl (n_mv rfl (by constructor)) ?_
    refine aops_n rfl (n_bool (n_eql rfl rfl rfl) (decide_eq_true (by omega))) ?_
    refine aops_n rfl (n_pt rfl rfl (by constructor)) ?_
    refine aops_n rfl (n_mv rfl (by constructor)) ?_
    try dsimp only [St.put]
    refine aops_s rfl (s_load_agg' rfl rfl (Enc.len _)) ?_
    try dsimp only [St.put]
    refine aops_e rfl (e_call_pure rfl rfl rfl (Ref2_true hr) ?_)
    refine aops_n rfl (n_pt rfl rfl (by constructor)) ?_
    refine aops_n rfl (n_as rfl (by constructor)) ?_
    refine aops_nil ?_
    dsimp only [St.put]
    refine hK23 _ ?_
    refine aw_ret ?_
    refine ends_1 rfl (by constructor) zN zS ?_
    rfl
  skip
  refine aops_n rfl (n_not rfl rfl) ?_
  refine aops_n rfl (n_mv rfl (by constructor)) ?_
  refine aops_skip rfl ?_
  refine aops_skip rfl ?_
  refine aops_n rfl (n_pt rfl rfl (by constructor)) ?_
  refine aops_nil ?_
  dsimp only [St.put]
  refine hK4 _ ?_
  refine aw_cond rfl (fun _ => ?_) (fun h => by cases h)
  refine aw_seq_k fun K24 hK24 => ?_
  refine aw_region ?_
  refine aops_n rfl (n_mv rfl (by constructor)) ?_
  refine aops_n rfl (n_as rfl (by constructor)) ?_
  refine aops_nil ?_
  dsimp only [St.put]
  refine hK24 _ ?_
  refine aw_ret ?_
  refine ends_1 rfl (by constructor) zN zS ?_
  rfl
end Go.Proofs.YtjjklfgpffgnfaaGreatDoor
