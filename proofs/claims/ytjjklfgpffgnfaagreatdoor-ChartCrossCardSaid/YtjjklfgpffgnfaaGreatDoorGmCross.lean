/-
  The law ChartCross: its walk.
-/
import Derived.Test.YtjjklfgpffgnfaaGreatDoorGlPass
import Derived.Test.YtjjklfgpffgnfaaGreatDoorGhChain
namespace Go.AB
open Go Go.RowKit
open Go.AB.Enc (cells)
open Go.PB (Chap TextD PlaceD ReadingD CopyD WayD)
section
variable {t : TextD} {x y : EditionD} {p : PlaceD} {u : RefD}
theorem refer_zero (h : soundEr t x = 0) (hp : placeB t p = true) (h0 : referEr t x p = 0) : asOf x.ss (p.ch, p.ln) = some ((referV t x p).ch, (referV t x p).ln) ∧ (referV t x p).wd = p.wd + 1 ∧ (1 ≤ (referV t x p).ch ∧ (referV t x p).ch ≤ 999) ∧ 1 ≤ (referV t x p).ln ∧ (referV t x p).ln ≤ 999 := by
  obtain ⟨v, hv, hV⟩ := refer_some h hp h0
  have hb := asOf_pos (soundEr_sound h).ok hv
  rw [hV]
  exact ⟨hv, rfl, by dsimp only; omega, by dsimp only; omega⟩
/-- a place that is there leads over -/
theorem turn_there (h : soundEr t x = 0) (k : soundEr t y = 0) (hp : placeB t p = true) (h0 : referEr t x p = 0) : turnEr t x y (referV t x p) = referEr t y p ∧ turnV t x y (referV t x p) = referV t y p := by
  obtain ⟨v, hv, hV⟩ := refer_some h hp h0
  obtain ⟨b1, b2⟩ := lead_of_refer (soundEr_sound h) hp hv
  rw [hV]
  exact turnEr_eq h k b1 b2
end
end Go.AB
namespace Go.Proofs.YtjjklfgpffgnfaaGreatDoor
set_option maxRecDepth 10000
open Go.RowKit Go.AB
open Go.AB.Enc (cells)
open Go.PB (Chap TextD PlaceD ReadingD CopyD WayD)
set_option maxHeartbeats 8000000 in
theorem cross_pureF (t : TextD) (x y : EditionD) (a b c : Int) : PureF chkF Tryz.prog 6 [textC t, val x, val y, .v (.int .u8 a), .v (.int .u8 b), .v (.int .u8 c)] (.v (.bool true)) := by
  refine pureF_of_body Tryz.func6 rfl (fun m => .v) fun G nx hF => ?_
  simp only [Tryz.ntmps6, List.length_cons, List.length_nil, Nat.reduceAdd, Nat.reduceSub]
  refine aw_lt fun hlt => ?_
  dsimp only at hlt
  have hnx := hlt 0 _ hF
  refine aw_fit 3 (fun hfa => ?_)
  refine aw_fit 4 (fun hfb => ?_)
  refine aw_fit 5 (fun hfc => ?_)
  replace hfa := u8_fit hfa
  replace hfb := u8_fit hfb
  replace hfc := u8_fit hfc
  refine yS fun _ K1 => ?_
  refine yR ?_
  try dsimp only [St.put]
  refine yB rfl rfl rfl ?_
  try dsimp only [St.put]
  refine yB rfl rfl rfl ?_
  try dsimp only [St.put]
  refine yB rfl rfl rfl ?_
  refine yA rfl rfl ?_
  refine yN ?_
  dsimp only [St.put]
  refine K1 _ ?_
  refine yS fun _ K2 => ?_
  refine yR ?_
  try dsimp only [St.put]
  refine aops_e rfl (e_call_f rfl rfl rfl (alive_pureF) zG ?_)
  refine yA rfl rfl ?_
  refine yN ?_
  dsimp only [St.put]
  refine K2 _ ?_
  refine yS fun _ K3 => ?_
  refine yS fun _ K4 => ?_
  refine yR ?_
  try dsimp only [St.put]
  refine aops_s rfl (s_load_agg' rfl rfl rfl) ?_
  refine yE rfl rfl rfl ?_
  try dsimp only [St.put]
  refine aops_e rfl (e_call_pure rfl rfl rfl (lawReady_pure t x) ?_)
  refine aops_split (fun hs => ?_) (fun hs => ?_)
  · obtain ⟨⟨hlx, hgt⟩, hx⟩ := readyB_true.1 hs
    have hS := soundEr_sound hx
    refine aops_n rfl (n_not rfl rfl) ?_
    refine yM rfl rfl ?_
    try dsimp only [St.put]
    refine aops_s rfl (s_load_agg' rfl rfl rfl) ?_
    refine yE rfl rfl rfl ?_
    try dsimp only [St.put]
    refine aops_e rfl (e_call_pure rfl rfl rfl (lawReady_pure t y) ?_)
    refine aops_split (fun hs => ?_) (fun hs => ?_)
    · obtain ⟨⟨hly, _⟩, hy⟩ := readyB_true.1 hs
      refine aops_n rfl (n_not rfl rfl) ?_
      refine aops_n rfl (n_pf rfl rfl (by constructor)) ?_
      refine yM rfl rfl ?_
      refine yM rfl rfl ?_
      refine aops_n rfl (n_not rfl rfl) ?_
      refine aops_n rfl (n_pf rfl rfl (by constructor)) ?_
      refine yN ?_
      dsimp only [St.put]
      refine K4 _ ?_
      refine aw_cond rfl (fun h => by cases h) (fun _ => ?_)
      refine aw_skip ?_
      refine K3 _ ?_
      refine yS fun _ K5 => ?_
      refine yR ?_
      try dsimp only [St.put]
      refine aops_s rfl (s_load_agg' rfl rfl rfl) ?_
      refine yE rfl rfl rfl ?_
      refine yE rfl rfl rfl ?_
      try dsimp only [St.put]
      refine aops_e rfl (e_call_f rfl rfl rfl (chartCross_pureF t x y hlx hly) zG ?_)
      refine yM rfl rfl ?_
      refine yX rfl rfl rfl rfl ?_
      refine yX rfl rfl rfl rfl ?_
      refine yA rfl rfl ?_
      refine yA rfl rfl ?_
      refine yN ?_
      dsimp only [St.put]
      rw [bothEr_eq hx hy]
      obtain ⟨L, hL⟩ : ∃ L, crossL t x y = L := ⟨_, rfl⟩
      have hP := crossL_ok hx hy
      have hsum := crossL_sum hx hy
      rw [hL] at hP hsum
      have hLl := hP.len
      rw [hL]
      refine K5 _ ?_
      refine yS fun _ K6 => ?_
      refine yR ?_
      try dsimp only [St.put]
      refine aops_s rfl (s_load_agg' rfl rfl rfl) ?_
      refine yE rfl rfl rfl ?_
      refine yE rfl rfl rfl ?_
      try dsimp only [St.put]
      refine aops_e rfl (e_call_f rfl rfl rfl (chartCross_pureF t y x hly hlx) zG ?_)
      refine yM rfl rfl ?_
      refine yX rfl rfl rfl rfl ?_
      refine yX rfl rfl rfl rfl ?_
      refine yA rfl rfl ?_
      refine yA rfl rfl ?_
      refine yN ?_
      dsimp only [St.put]
      rw [bothEr_eq hy hx]
      obtain ⟨M, hM⟩ : ∃ M, crossL t y x = M := ⟨_, rfl⟩
      have hQ := crossL_ok hy hx
      rw [hM] at hQ hsum
      have hMl := hQ.len
      rw [hM]
      refine K6 _ ?_
      refine yS fun _ K7 => ?_
      refine yR ?_
      try dsimp only [St.put]
      refine aops_s rfl (s_load_agg' rfl rfl rfl) ?_
      refine yM rfl rfl ?_
      refine yM rfl rfl ?_
      refine yM rfl rfl ?_
      try dsimp only [St.put]
      refine aops_e rfl (e_call_pure rfl rfl rfl (lawPick_pure t a b c hS.tx hfa hfb hfc) ?_)
      try dsimp only [St.put]
      refine aops_e rfl (e_allocC rfl ?_)
      try dsimp only [St.put]
      refine aops_e rfl (e_store_all rfl rfl rfl zG rfl rfl (by rfl) ?_)
      refine yN ?_
      dsimp only [St.put]
      obtain ⟨p, hpp⟩ : ∃ p, pickP t a b c = p := ⟨_, rfl⟩
      have hp : placeB t p = true := hpp ▸ pick_place hS.tx hfa.1 hfb.1 hfc.1
      rw [hpp]
      have hpb := place_bd hS.tx hp
      refine K7 _ ?_
      refine aw_commitD (i := 18) rfl zG (by first | exact List.cons_ne_nil _ _ | (simp; done) | (simp [putAt]; done)) ?_
      dsimp only
      refine yS fun _ K8 => ?_
      refine yR ?_
      try dsimp only [St.put]
      refine aops_s rfl (s_load_agg' rfl rfl rfl) ?_
      refine yE rfl rfl rfl ?_
      refine yE rfl rfl rfl ?_
      try dsimp only [St.put]
      refine aops_e rfl (e_call_f rfl rfl rfl (chartRefer_pureF t x p hlx) zG ?_)
      refine yM rfl rfl ?_
      refine yX rfl rfl rfl rfl ?_
      refine yX rfl rfl rfl rfl ?_
      try dsimp only [St.put]
      refine aops_e rfl (e_allocC rfl ?_)
      try dsimp only [St.put]
      refine aops_e rfl (e_store_all rfl rfl rfl zG rfl rfl (by rfl) ?_)
      refine yA rfl rfl ?_
      refine yN ?_
      dsimp only [St.put]
      obtain ⟨u, hu⟩ : ∃ u, referV t x p = u := ⟨_, rfl⟩
      obtain ⟨g, hg⟩ : ∃ g, referEr t x p = g := ⟨_, rfl⟩
      rw [hu, hg]
      refine K8 _ ?_
      refine aw_commitD (i := 19) rfl zG (by first | exact List.cons_ne_nil _ _ | (simp; done) | (simp [putAt]; done)) ?_
      dsimp only
      refine yS fun _ K9 => ?_
      refine yR ?_
      try dsimp only [St.put]
      refine aops_s rfl (s_load_agg' rfl rfl rfl) ?_
      refine yE rfl rfl rfl ?_
      refine yE rfl rfl rfl ?_
      try dsimp only [St.put]
      refine aops_e rfl (e_call_f rfl rfl rfl (chartRefer_pureF t y p hly) zG ?_)
      refine yM rfl rfl ?_
      refine yX rfl rfl rfl rfl ?_
      refine yX rfl rfl rfl rfl ?_
      try dsimp only [St.put]
      refine aops_e rfl (e_allocC rfl ?_)
      try dsimp only [St.put]
      refine aops_e rfl (e_store_all rfl rfl rfl zG rfl rfl (by rfl) ?_)
      refine yA rfl rfl ?_
      refine yN ?_
      dsimp only [St.put]
      obtain ⟨w, hw⟩ : ∃ w, referV t y p = w := ⟨_, rfl⟩
      obtain ⟨h, hh⟩ : ∃ h, referEr t y p = h := ⟨_, rfl⟩
      rw [hw, hh]
      refine K9 _ ?_
      refine aw_commitD (i := 21) rfl zG (by first | exact List.cons_ne_nil _ _ | (simp; done) | (simp [putAt]; done)) ?_
      dsimp only
      refine yS fun _ K10 => ?_
      refine yS fun _ K11 => ?_
      refine yR ?_
      refine yM rfl rfl ?_
      refine aops_n rfl (n_bool (n_neq rfl rfl rfl) (not_dec_f (by omega))) ?_
      refine yM rfl rfl ?_
      refine yM rfl rfl ?_
      refine aops_n rfl (n_bool (n_neq rfl rfl rfl) (not_dec_f (by omega))) ?_
      refine aops_n rfl (n_pf rfl rfl (by constructor)) ?_
      refine yN ?_
      dsimp only [St.put]
      refine K11 _ ?_
      refine aw_cond rfl (fun h => by cases h) (fun _ => ?_)
      refine aw_skip ?_
      refine K10 _ ?_
      refine yS fun _ K12 => ?_
      refine yR ?_
      refine yA rfl rfl ?_
      refine yA rfl rfl ?_
      refine yN ?_
      dsimp only [St.put]
      refine K12 _ ?_
      refine yS fun _ K13 => ?_
      refine yR ?_
      refine yA rfl rfl ?_
      refine yN ?_
      dsimp only [St.put]
      refine K13 _ ?_
      refine yS fun _ K14 => ?_
      refine yS fun _ K15 => ?_
      refine yR ?_
      refine yM rfl rfl ?_
      refine aops_n rfl (n_len' rfl rfl (List.length_map _)) ?_
      refine yM rfl rfl ?_
      refine yN ?_
      dsimp only [St.put]
      refine K15 _ ?_
      refine aw_block ?_
      refine aw_wipe 92 ?_
      simp only [firsts, getA, Nat.reduceAdd, List.getD_cons_zero, List.getD_cons_succ, List.getD_nil, natBeq, Nat.reduceBEq, cond_true, cond_false]
      refine aw_forget (G) zX ?_
      dsimp only
      refine aw_loopD (X := Nat × Bool) (fun z => z.1 ≤ L.length ∧ z.2 = (decide (g = 0) && (L.take z.1).any (covB u))) (fun z => L.length - z.1) (fun z => [(23, .v (.int .i64 (sumN (L.take z.1)))), (25, .v (.bool z.2)), (26, .any), (27, .any), (91, .v (.int .i64 (z.1 : Int)))]) (fun z G' => G') (0, false) rfl ?_ ?_ (fun _ _ h => h) ?_ ?_ ?_
      · exact ⟨Nat.zero_le _, by simp⟩
      · exact zF
      · rintro ⟨k, i⟩ hI
        exact zL
      · exact fun _ _ _ _ h => .inl h
      rintro ⟨k, i⟩ hI
      dsimp only at hI ⊢
      refine yS fun _ K16 => ?_
      refine yR ?_
      refine aops_n rfl (n_lss rfl rfl rfl) ?_
      refine yN ?_
      dsimp only [St.put]
      refine K16 _ ?_
      refine yS fun _ K17 => ?_
      refine aw_cond rfl (fun hc => ?_) (fun hc => ?_)
      · replace hc := of_decide_eq_true hc
        obtain ⟨q, hq⟩ : ∃ x, L[k]? = some x := some_of_lt (by omega)
        obtain ⟨q1b, q2b, q3b, q4b, q5b⟩ := hP.bd q (mem_of_get hq)
        have hsb := sumN_bd (fun q hq => (hP.bd q hq).n) k
        refine aw_skip ?_
        refine K17 _ ?_
        refine yS fun _ K18 => ?_
        refine aw_block ?_
        refine yS fun _ K19 => ?_
        refine yR ?_
        refine yM rfl rfl ?_
        refine aops_n rfl (n_indexAddr rfl rfl rfl rfl (map_get (by assumption)) (Enc.len _)) ?_
        refine yE rfl rfl rfl ?_
        try dsimp only [St.put]
        refine aops_e rfl (e_allocC rfl ?_)
        refine yA rfl rfl ?_
        try dsimp only [St.put]
        refine aops_e rfl (e_store_all rfl rfl rfl zG rfl rfl (by rfl) ?_)
        refine yN ?_
        dsimp only [St.put]
        refine K19 _ ?_
        refine aw_commitD (i := 27) rfl zG (by first | exact List.cons_ne_nil _ _ | (simp; done) | (simp [putAt]; done)) ?_
        dsimp only
        refine yS fun _ K20 => ?_
        refine aw_wipe 96 ?_
        simp only [firsts, getA, Nat.reduceAdd, List.getD_cons_zero, List.getD_cons_succ, List.getD_nil, natBeq, Nat.reduceBEq, cond_true, cond_false]
        refine aw_forget (G) zX ?_
        dsimp only
        refine aw_cutD (X := Unit) (fun _ => True) (fun _ => [(142, .v (.bool false))]) (fun _ G' => G') rfl ?_ (fun _ _ _ _ h => .inl h) ?_ ?_
        · rintro _ hI
          exact zL
        · refine aw_draw [(0, none), (1, none), (2, none), (3, none), (4, none), (5, none), (6, none), (7, none), (8, none), (9, none), (10, none), (11, none), (12, none), (13, none), (14, none), (15, none), (16, none), (17, none), (18, none), (19, none), (20, none), (21, none), (22, none), (23, none), (24, none), (25, none), (26, none), (27, none), (28, none), (29, none), (30, none), (31, none), (32, none), (33, none), (34, none), (35, none), (36, none), (37, none), (38, none), (39, none), (40, none), (41, none), (42, none), (43, none), (44, none), (45, none), (46, none)] (fun i => [].contains i) (fun i => [].contains i) (fun i => [0, 2, 3, 4, 5, 6, 7, 9, 10, 11, 12, 13, 15, 16, 17, 19, 20, 21, 22, 23, 25, 26, 27, 29, 30, 31, 32, 33, 35, 36, 37, 38, 39, 41, 42, 43, 44, 45, 46].contains i) [] (by kernel_rfl) (by kernel_rfl) ?_
          refine acan1_n rfl rfl rfl rfl (n_fieldAddr' rfl rfl rfl) ?_
          try dsimp only [St.put]
          refine acan1_s rfl rfl rfl rfl (s_load rfl rfl) ?_
          refine acan1_n rfl rfl rfl rfl (n_bool (n_lss rfl rfl rfl) (decide_eq_false (by omega))) ?_
          refine xM rfl rfl rfl rfl rfl ?_
          refine xM rfl rfl rfl rfl rfl ?_
          refine acan1_n rfl rfl rfl rfl (n_gtr rfl rfl rfl) ?_
          refine acan1_split (fun hs => ?_) (fun hs => ?_)
          · have hk0 : 0 < k := by have := of_decide_eq_true hs; omega
            obtain ⟨q1, hq1⟩ : ∃ x, L[k - 1]? = some x := some_of_lt (by omega)
            obtain ⟨ho1, ho2⟩ := hP.order hq1 hq hk0
            obtain ⟨r1b, r2b, r3b, r4b, r5b⟩ := hP.bd q1 (mem_of_get hq1)
            refine xM rfl rfl rfl rfl rfl ?_
            refine acan1_n rfl rfl rfl rfl (n_fieldAddr' rfl rfl rfl) ?_
            try dsimp only [St.put]
            refine acan1_s rfl rfl rfl rfl (s_load rfl rfl) ?_
            refine xM rfl rfl rfl rfl rfl ?_
            refine xM rfl rfl rfl rfl rfl ?_
            refine acan1_n rfl rfl rfl rfl (n_sub rfl rfl rfl (by omega)) ?_
            try dsimp only [St.put]
            ((first | refine aops_n rfl ((n_indexAddr (k := k - 1) rfl rfl rfl (by omega) (map_get hq1) (Enc.len _))) ?_ | refine acan1_n rfl rfl rfl rfl ((n_indexAddr (k := k - 1) rfl rfl rfl (by omega) (map_get hq1) (Enc.len _))) ?_ | refine acan2_n rfl rfl rfl rfl ((n_indexAddr (k := k - 1) rfl rfl rfl (by omega) (map_get hq1) (Enc.len _))) ?_ | refine aone_n rfl rfl rfl ((n_indexAddr (k := k - 1) rfl rfl rfl (by omega) (map_get hq1) (Enc.len _))) ?_))
            refine acan1_n rfl rfl rfl rfl (n_fieldAddr' rfl rfl rfl) ?_
            try dsimp only [St.put]
            refine acan1_s rfl rfl rfl rfl (s_load rfl rfl) ?_
            refine acan1_n rfl rfl rfl rfl (n_bool (n_lss rfl rfl rfl) (decide_eq_false (by omega))) ?_
            refine xM rfl rfl rfl rfl rfl ?_
            refine acan1_n rfl rfl rfl rfl (n_fieldAddr' rfl rfl rfl) ?_
            try dsimp only [St.put]
            refine acan1_s rfl rfl rfl rfl (s_load rfl rfl) ?_
            refine xM rfl rfl rfl rfl rfl ?_
            refine xM rfl rfl rfl rfl rfl ?_
            refine acan1_n rfl rfl rfl rfl (n_sub rfl rfl rfl (by omega)) ?_
            try dsimp only [St.put]
            ((first | refine aops_n rfl ((n_indexAddr (k := k - 1) rfl rfl rfl (by omega) (map_get hq1) (Enc.len _))) ?_ | refine acan1_n rfl rfl rfl rfl ((n_indexAddr (k := k - 1) rfl rfl rfl (by omega) (map_get hq1) (Enc.len _))) ?_ | refine acan2_n rfl rfl rfl rfl ((n_indexAddr (k := k - 1) rfl rfl rfl (by omega) (map_get hq1) (Enc.len _))) ?_ | refine aone_n rfl rfl rfl ((n_indexAddr (k := k - 1) rfl rfl rfl (by omega) (map_get hq1) (Enc.len _))) ?_))
            refine acan1_n rfl rfl rfl rfl (n_fieldAddr' rfl rfl rfl) ?_
            try dsimp only [St.put]
            refine acan1_s rfl rfl rfl rfl (s_load rfl rfl) ?_
            refine acan1_n rfl rfl rfl rfl (n_eql rfl rfl rfl) ?_
            refine acan1_split (fun hs => ?_) (fun hs => ?_)
            · have ho3 := ho2 (of_decide_eq_true hs)
              refine xM rfl rfl rfl rfl rfl ?_
              refine acan1_n rfl rfl rfl rfl (n_fieldAddr' rfl rfl rfl) ?_
              try dsimp only [St.put]
              refine acan1_s rfl rfl rfl rfl (s_load rfl rfl) ?_
              refine xM rfl rfl rfl rfl rfl ?_
              refine xM rfl rfl rfl rfl rfl ?_
              refine acan1_n rfl rfl rfl rfl (n_sub rfl rfl rfl (by omega)) ?_
              try dsimp only [St.put]
              ((first | refine aops_n rfl ((n_indexAddr (k := k - 1) rfl rfl rfl (by omega) (map_get hq1) (Enc.len _))) ?_ | refine acan1_n rfl rfl rfl rfl ((n_indexAddr (k := k - 1) rfl rfl rfl (by omega) (map_get hq1) (Enc.len _))) ?_ | refine acan2_n rfl rfl rfl rfl ((n_indexAddr (k := k - 1) rfl rfl rfl (by omega) (map_get hq1) (Enc.len _))) ?_ | refine aone_n rfl rfl rfl ((n_indexAddr (k := k - 1) rfl rfl rfl (by omega) (map_get hq1) (Enc.len _))) ?_))
              refine acan1_n rfl rfl rfl rfl (n_fieldAddr' rfl rfl rfl) ?_
              try dsimp only [St.put]
              refine acan1_s rfl rfl rfl rfl (s_load rfl rfl) ?_
              refine xM rfl rfl rfl rfl rfl ?_
              refine xM rfl rfl rfl rfl rfl ?_
              refine acan1_n rfl rfl rfl rfl (n_sub rfl rfl rfl (by omega)) ?_
              try dsimp only [St.put]
              ((first | refine aops_n rfl ((n_indexAddr (k := k - 1) rfl rfl rfl (by omega) (map_get hq1) (Enc.len _))) ?_ | refine acan1_n rfl rfl rfl rfl ((n_indexAddr (k := k - 1) rfl rfl rfl (by omega) (map_get hq1) (Enc.len _))) ?_ | refine acan2_n rfl rfl rfl rfl ((n_indexAddr (k := k - 1) rfl rfl rfl (by omega) (map_get hq1) (Enc.len _))) ?_ | refine aone_n rfl rfl rfl ((n_indexAddr (k := k - 1) rfl rfl rfl (by omega) (map_get hq1) (Enc.len _))) ?_))
              refine acan1_n rfl rfl rfl rfl (n_fieldAddr' rfl rfl rfl) ?_
              try dsimp only [St.put]
              refine acan1_s rfl rfl rfl rfl (s_load rfl rfl) ?_
              refine acan1_n rfl rfl rfl rfl (n_add rfl rfl rfl (by omega)) ?_
              refine acan1_n rfl rfl rfl rfl (n_bool (n_lss rfl rfl rfl) (decide_eq_false (by omega))) ?_
              refine acan1_n rfl rfl rfl rfl (n_pt rfl rfl (by constructor)) ?_
              refine acan1_n rfl rfl rfl rfl (n_pf rfl rfl (by constructor)) ?_
              refine acan1_n rfl rfl rfl rfl (n_pt rfl rfl (by constructor)) ?_
              refine acan1_n rfl rfl rfl rfl (n_pf rfl rfl (by constructor)) ?_
              refine acan1_nil ?_
              dsimp only [St.put]
              exact ⟨(), trivial, ⟨⟨rfl, rfl⟩, zF, zB, zN, zX⟩⟩
            skip
            refine xM rfl rfl rfl rfl rfl ?_
            refine acan1_skip rfl rfl rfl ?_
            refine acan1_skip rfl rfl rfl ?_
            refine acan1_skip rfl rfl rfl ?_
            refine acan1_skip rfl rfl rfl ?_
            refine acan1_skip rfl rfl rfl ?_
            refine acan1_skip rfl rfl rfl ?_
            refine acan1_skip rfl rfl rfl ?_
            refine acan1_skip rfl rfl rfl ?_
            refine acan1_skip rfl rfl rfl ?_
            refine acan1_skip rfl rfl rfl ?_
            refine acan1_skip rfl rfl rfl ?_
            refine acan1_skip rfl rfl rfl ?_
            refine acan1_skip rfl rfl rfl ?_
            refine acan1_skip rfl rfl rfl ?_
            refine acan1_skip rfl rfl rfl ?_
            refine acan1_skip rfl rfl rfl ?_
            refine acan1_n rfl rfl rfl rfl (n_pf rfl rfl (by constructor)) ?_
            refine acan1_n rfl rfl rfl rfl (n_pf rfl rfl (by constructor)) ?_
            refine acan1_n rfl rfl rfl rfl (n_pt rfl rfl (by constructor)) ?_
            refine acan1_n rfl rfl rfl rfl (n_pf rfl rfl (by constructor)) ?_
            refine acan1_nil ?_
            dsimp only [St.put]
            exact ⟨(), trivial, ⟨⟨rfl, rfl⟩, zF, zB, zN, zX⟩⟩
          skip
          refine xM rfl rfl rfl rfl rfl ?_
          refine acan1_skip rfl rfl rfl ?_
          refine acan1_skip rfl rfl rfl ?_
          refine acan1_skip rfl rfl rfl ?_
          refine acan1_skip rfl rfl rfl ?_
          refine acan1_skip rfl rfl rfl ?_
          refine acan1_skip rfl rfl rfl ?_
          refine acan1_skip rfl rfl rfl ?_
          refine acan1_skip rfl rfl rfl ?_
          refine acan1_skip rfl rfl rfl ?_
          refine acan1_skip rfl rfl rfl ?_
          refine acan1_skip rfl rfl rfl ?_
          refine acan1_skip rfl rfl rfl ?_
          refine acan1_skip rfl rfl rfl ?_
          refine acan1_skip rfl rfl rfl ?_
          refine acan1_skip rfl rfl rfl ?_
          refine acan1_skip rfl rfl rfl ?_
          refine acan1_skip rfl rfl rfl ?_
          refine acan1_skip rfl rfl rfl ?_
          refine acan1_skip rfl rfl rfl ?_
          refine acan1_skip rfl rfl rfl ?_
          refine acan1_skip rfl rfl rfl ?_
          refine acan1_skip rfl rfl rfl ?_
          refine acan1_skip rfl rfl rfl ?_
          refine acan1_skip rfl rfl rfl ?_
          refine acan1_skip rfl rfl rfl ?_
          refine acan1_skip rfl rfl rfl ?_
          refine acan1_skip rfl rfl rfl ?_
          refine acan1_skip rfl rfl rfl ?_
          refine acan1_skip rfl rfl rfl ?_
          refine acan1_skip rfl rfl rfl ?_
          refine acan1_skip rfl rfl rfl ?_
          refine acan1_skip rfl rfl rfl ?_
          refine acan1_skip rfl rfl rfl ?_
          refine acan1_skip rfl rfl rfl ?_
          refine acan1_skip rfl rfl rfl ?_
          refine acan1_skip rfl rfl rfl ?_
          refine acan1_skip rfl rfl rfl ?_
          refine acan1_skip rfl rfl rfl ?_
          refine acan1_n rfl rfl rfl rfl (n_pf rfl rfl (by constructor)) ?_
          refine acan1_n rfl rfl rfl rfl (n_pf rfl rfl (by constructor)) ?_
          refine acan1_nil ?_
          dsimp only [St.put]
          exact ⟨(), trivial, ⟨⟨rfl, rfl⟩, zF, zB, zN, zX⟩⟩
        rintro _ hU
        dsimp only at hU ⊢
        refine aw_cond rfl (fun h => by cases h) (fun _ => ?_)
        refine aw_skip ?_
        refine K20 _ ?_
        refine yS fun _ K22 => ?_
        refine yR ?_
        refine yM rfl rfl ?_
        refine yF rfl rfl rfl rfl ?_
        refine yL rfl rfl rfl ?_
        refine aops_n rfl (n_add rfl rfl rfl (by omega)) ?_
        refine yA rfl rfl ?_
        refine yN ?_
        dsimp only [St.put]
        rw [← sumN_take hq]
        refine K22 _ ?_
        refine yS fun _ K23 => ?_
        refine yR ?_
        refine yM rfl rfl ?_
        refine aops_n rfl (n_eql rfl rfl rfl) ?_
        refine aops_split (fun hs => ?_) (fun hs => ?_)
        · have hg0 := of_decide_eq_true hs
          have hz := refer_zero hx hp (hg.trans hg0)
          rw [hu] at hz
          obtain ⟨z1, z2, z3, z4⟩ := hz
          refine yM rfl rfl ?_
          refine yF rfl rfl rfl rfl ?_
          refine yL rfl rfl rfl ?_
          refine yF rfl rfl rfl rfl ?_
          refine yL rfl rfl rfl ?_
          refine aops_n rfl (n_eql rfl rfl rfl) ?_
          refine aops_split (fun hs => ?_) (fun hs => ?_)
          · have c1 := of_decide_eq_true hs
            refine aops_n rfl (n_pt rfl rfl (by constructor)) ?_
            refine yM rfl rfl ?_
            refine yF rfl rfl rfl rfl ?_
            refine yL rfl rfl rfl ?_
            refine yF rfl rfl rfl rfl ?_
            refine yL rfl rfl rfl ?_
            refine aops_n rfl (n_geq rfl rfl rfl) ?_
            refine aops_split (fun hs => ?_) (fun hs => ?_)
            · have c2 := of_decide_eq_true hs
              refine aops_n rfl (n_pt rfl rfl (by constructor)) ?_
              refine yM rfl rfl ?_
              refine yF rfl rfl rfl rfl ?_
              refine yL rfl rfl rfl ?_
              refine yF rfl rfl rfl rfl ?_
              refine yL rfl rfl rfl ?_
              refine yF rfl rfl rfl rfl ?_
              refine yL rfl rfl rfl ?_
              refine aops_n rfl (n_add rfl rfl rfl (by omega)) ?_
              refine aops_n rfl (n_lss rfl rfl rfl) ?_
              refine aops_split (fun hs => ?_) (fun hs => ?_)
              · have c3 := of_decide_eq_true hs
                have hcv : covB u q = true := covB_true.2 ⟨c1, c2, c3⟩
                have hN : true = (decide (g = 0) && (L.take (k + 1)).any (covB u)) := by rw [any_take hq, hcv]; simp [hg0]
                have hyv := hP.cover hS (mem_of_get hq) z1 hcv
                obtain ⟨hE, hV⟩ := referEr_eq hy hp hyv
                rw [hh] at hE
                rw [hw] at hV
                dsimp only at hV
                rw [← z2] at hV
                refine aops_n rfl (n_pt rfl rfl (by constructor)) ?_
                refine yN ?_
                dsimp only [St.put]
                refine K23 _ ?_
                refine aw_cond rfl (fun _ => ?_) (fun h => by cases h)
                refine yS fun _ K24 => ?_
                refine yR ?_
                refine yA rfl rfl ?_
                refine yN ?_
                dsimp only [St.put]
                refine K24 _ ?_
                refine yS fun _ K25 => ?_
                refine aw_draw [(0, none), (1, none), (2, none), (3, none), (4, none), (5, none), (6, none), (7, none), (8, none), (9, none), (10, none), (11, none), (12, none), (13, none), (14, none), (15, none), (16, none), (17, none), (18, none)] (fun i => [].contains i) (fun i => [16].contains i) (fun i => [0, 1, 2, 4, 6, 8, 10, 11, 13, 14, 17, 18].contains i) [] (by kernel_rfl) (by kernel_rfl) ?_
                refine xM rfl rfl rfl rfl rfl ?_
                refine acan1_n rfl rfl rfl rfl (n_bool (n_neq rfl rfl rfl) (not_dec_f (by omega))) ?_
                refine xM rfl rfl rfl rfl rfl ?_
                try dsimp only [St.put]
                refine acan1_s rfl rfl rfl rfl (s_load_agg' rfl rfl (Enc.len _)) ?_
                refine acan1_n rfl rfl rfl rfl (n_fieldAddr' rfl rfl rfl) ?_
                try dsimp only [St.put]
                refine acan1_s rfl rfl rfl rfl (s_load rfl rfl) ?_
                refine acan1_n rfl rfl rfl rfl (n_fieldAddr' rfl rfl rfl) ?_
                try dsimp only [St.put]
                refine acan1_s rfl rfl rfl rfl (s_load rfl rfl) ?_
                refine acan1_n rfl rfl rfl rfl (n_fieldAddr' rfl rfl rfl) ?_
                try dsimp only [St.put]
                refine acan1_s rfl rfl rfl rfl (s_load rfl rfl) ?_
                refine acan1_n rfl rfl rfl rfl (n_add rfl rfl rfl (by omega)) ?_
                refine acan1_n rfl rfl rfl rfl (n_fieldAddr' rfl rfl rfl) ?_
                try dsimp only [St.put]
                refine acan1_s rfl rfl rfl rfl (s_load rfl rfl) ?_
                refine acan1_n rfl rfl rfl rfl (n_sub rfl rfl rfl (by omega)) ?_
                refine acan1_n rfl rfl rfl rfl (n_fieldAddr' rfl rfl rfl) ?_
                try dsimp only [St.put]
                refine acan1_s rfl rfl rfl rfl (s_load rfl rfl) ?_
                refine acan1_two ?_
                try dsimp only [St.put]
                refine acan2_e rfl rfl rfl (e_call_pure rfl rfl rfl (lawRef_pure _ _ _) ⟨zD, ?_⟩)
                refine acan2_n rfl rfl rfl rfl ((n_bool (c := false) (n_agg_neq (x := w) (y := (⟨q.tc, q.tl + u.ln - q.ln, u.wd⟩ : RefD)) rfl rfl rfl) (not_dec_f hV))) ?_
                refine acan2_n rfl rfl rfl rfl (n_pf rfl rfl (by constructor)) ?_
                refine acan2_nil ?_
                dsimp only [St.put]
                refine K25 _ ?_
                refine aw_cond rfl (fun h => by cases h) (fun _ => ?_)
                refine aw_skip ?_
                refine K18 _ ?_
                refine yR ?_
                refine aops_n rfl (n_add rfl rfl rfl (by omega)) ?_
                refine yM rfl rfl ?_
                refine yN ?_
                dsimp only [St.put]
                first
                  | exact ⟨(k + 1, true), by (dsimp only; omega), ⟨by (dsimp only; omega), hN⟩, ⟨⟨rfl, rfl⟩, zF, zB, zN, zX⟩⟩
                  | exact ⟨(k + 1, i), by (dsimp only; omega), ⟨by (dsimp only; omega), hN⟩, ⟨⟨rfl, rfl⟩, zF, zB, zN, zX⟩⟩
              have c3 := of_decide_eq_false hs
              have hN : i = (decide (g = 0) && (L.take (k + 1)).any (covB u)) := by rw [hI.2, any_take hq, show covB u q = false by simp [covB, c3], Bool.or_false]
              refine aops_n rfl (n_pt rfl rfl (by constructor)) ?_
              refine yN ?_
              dsimp only [St.put]
              refine K23 _ ?_
              refine aw_cond rfl (fun h => by cases h) (fun _ => ?_)
              refine aw_skip ?_
              refine K18 _ ?_
              refine yR ?_
              refine aops_n rfl (n_add rfl rfl rfl (by omega)) ?_
              refine yM rfl rfl ?_
              refine yN ?_
              dsimp only [St.put]
              first
                | exact ⟨(k + 1, true), by (dsimp only; omega), ⟨by (dsimp only; omega), hN⟩, ⟨⟨rfl, rfl⟩, zF, zB, zN, zX⟩⟩
                | exact ⟨(k + 1, i), by (dsimp only; omega), ⟨by (dsimp only; omega), hN⟩, ⟨⟨rfl, rfl⟩, zF, zB, zN, zX⟩⟩
            have c2 := of_decide_eq_false hs
            have hN : i = (decide (g = 0) && (L.take (k + 1)).any (covB u)) := by rw [hI.2, any_take hq, show covB u q = false by simp [covB, c2], Bool.or_false]
            refine aops_n rfl (n_pt rfl rfl (by constructor)) ?_
            refine yM rfl rfl ?_
            refine yK rfl ?_
            refine yK rfl ?_
            refine yK rfl ?_
            refine yK rfl ?_
            refine yK rfl ?_
            refine yK rfl ?_
            refine yK rfl ?_
            refine yK rfl ?_
            refine aops_n rfl (n_pf rfl rfl (by constructor)) ?_
            refine yN ?_
            dsimp only [St.put]
            refine K23 _ ?_
            refine aw_cond rfl (fun h => by cases h) (fun _ => ?_)
            refine aw_skip ?_
            refine K18 _ ?_
            refine yR ?_
            refine aops_n rfl (n_add rfl rfl rfl (by omega)) ?_
            refine yM rfl rfl ?_
            refine yN ?_
            dsimp only [St.put]
            first
              | exact ⟨(k + 1, true), by (dsimp only; omega), ⟨by (dsimp only; omega), hN⟩, ⟨⟨rfl, rfl⟩, zF, zB, zN, zX⟩⟩
              | exact ⟨(k + 1, i), by (dsimp only; omega), ⟨by (dsimp only; omega), hN⟩, ⟨⟨rfl, rfl⟩, zF, zB, zN, zX⟩⟩
          have c1 := of_decide_eq_false hs
          have hN : i = (decide (g = 0) && (L.take (k + 1)).any (covB u)) := by rw [hI.2, any_take hq, show covB u q = false by simp [covB, c1], Bool.or_false]
          refine aops_n rfl (n_pt rfl rfl (by constructor)) ?_
          refine yM rfl rfl ?_
          refine yK rfl ?_
          refine yK rfl ?_
          refine yK rfl ?_
          refine yK rfl ?_
          refine yK rfl ?_
          refine aops_n rfl (n_pf rfl rfl (by constructor)) ?_
          refine yM rfl rfl ?_
          refine yK rfl ?_
          refine yK rfl ?_
          refine yK rfl ?_
          refine yK rfl ?_
          refine yK rfl ?_
          refine yK rfl ?_
          refine yK rfl ?_
          refine yK rfl ?_
          refine aops_n rfl (n_pf rfl rfl (by constructor)) ?_
          refine yN ?_
          dsimp only [St.put]
          refine K23 _ ?_
          refine aw_cond rfl (fun h => by cases h) (fun _ => ?_)
          refine aw_skip ?_
          refine K18 _ ?_
          refine yR ?_
          refine aops_n rfl (n_add rfl rfl rfl (by omega)) ?_
          refine yM rfl rfl ?_
          refine yN ?_
          dsimp only [St.put]
          first
            | exact ⟨(k + 1, true), by (dsimp only; omega), ⟨by (dsimp only; omega), hN⟩, ⟨⟨rfl, rfl⟩, zF, zB, zN, zX⟩⟩
            | exact ⟨(k + 1, i), by (dsimp only; omega), ⟨by (dsimp only; omega), hN⟩, ⟨⟨rfl, rfl⟩, zF, zB, zN, zX⟩⟩
        have hg0 := of_decide_eq_false hs
        have hN : i = (decide (g = 0) && (L.take (k + 1)).any (covB u)) := by rw [hI.2]; simp [hg0]
        refine yM rfl rfl ?_
        refine yK rfl ?_
        refine yK rfl ?_
        refine yK rfl ?_
        refine yK rfl ?_
        refine yK rfl ?_
        refine aops_n rfl (n_pf rfl rfl (by constructor)) ?_
        refine yM rfl rfl ?_
        refine yK rfl ?_
        refine yK rfl ?_
        refine yK rfl ?_
        refine yK rfl ?_
        refine yK rfl ?_
        refine aops_n rfl (n_pf rfl rfl (by constructor)) ?_
        refine yM rfl rfl ?_
        refine yK rfl ?_
        refine yK rfl ?_
        refine yK rfl ?_
        refine yK rfl ?_
        refine yK rfl ?_
        refine yK rfl ?_
        refine yK rfl ?_
        refine yK rfl ?_
        refine aops_n rfl (n_pf rfl rfl (by constructor)) ?_
        refine yN ?_
        dsimp only [St.put]
        refine K23 _ ?_
        refine aw_cond rfl (fun h => by cases h) (fun _ => ?_)
        refine aw_skip ?_
        refine K18 _ ?_
        refine yR ?_
        refine aops_n rfl (n_add rfl rfl rfl (by omega)) ?_
        refine yM rfl rfl ?_
        refine yN ?_
        dsimp only [St.put]
        first
          | exact ⟨(k + 1, true), by (dsimp only; omega), ⟨by (dsimp only; omega), hN⟩, ⟨⟨rfl, rfl⟩, zF, zB, zN, zX⟩⟩
          | exact ⟨(k + 1, i), by (dsimp only; omega), ⟨by (dsimp only; omega), hN⟩, ⟨⟨rfl, rfl⟩, zF, zB, zN, zX⟩⟩
      replace hc := of_decide_eq_false hc
      obtain ⟨hk1, hin⟩ := hI
      rw [take_all (show L.length ≤ k by omega)] at hin
      rw [take_all (show L.length ≤ k by omega)]
      refine aw_exit ?_
      refine K14 _ ?_
      refine yS fun _ K26 => ?_
      refine yS fun _ K27 => ?_
      refine yR ?_
      refine yM rfl rfl ?_
      refine aops_n rfl (n_len' rfl rfl (List.length_map _)) ?_
      refine yM rfl rfl ?_
      refine yN ?_
      dsimp only [St.put]
      refine K27 _ ?_
      refine aw_block ?_
      refine aw_wipe 196 ?_
      simp only [firsts, getA, Nat.reduceAdd, List.getD_cons_zero, List.getD_cons_succ, List.getD_nil, natBeq, Nat.reduceBEq, cond_true, cond_false]
      refine aw_forget (G) zX ?_
      dsimp only
      refine aw_loopD (X := Nat) (fun j => j ≤ M.length) (fun j => M.length - j) (fun j => [(24, .v (.int .i64 (sumN (M.take j)))), (28, .any), (29, .any), (195, .v (.int .i64 (j : Int)))]) (fun j G' => G') 0 rfl ?_ ?_ (fun _ _ h => h) ?_ ?_ ?_
      · exact Nat.zero_le _
      · exact zF
      · rintro j hI
        exact zL
      · exact fun _ _ _ _ h => .inl h
      rintro j hJ
      dsimp only at hJ ⊢
      refine yS fun _ K28 => ?_
      refine yR ?_
      refine aops_n rfl (n_lss rfl rfl rfl) ?_
      refine yN ?_
      dsimp only [St.put]
      refine K28 _ ?_
      refine yS fun _ K29 => ?_
      refine aw_cond rfl (fun hc => ?_) (fun hc => ?_)
      · replace hc := of_decide_eq_true hc
        obtain ⟨q, hq⟩ : ∃ x, M[j]? = some x := some_of_lt (by omega)
        obtain ⟨q1b, q2b, q3b, q4b, q5b⟩ := hQ.bd q (mem_of_get hq)
        have hsb := sumN_bd (fun q hq => (hQ.bd q hq).n) j
        refine aw_skip ?_
        refine K29 _ ?_
        refine yS fun _ K30 => ?_
        refine aw_block ?_
        refine yS fun _ K31 => ?_
        refine yR ?_
        refine aops_n rfl (n_indexAddr rfl rfl rfl rfl (map_get (by assumption)) (Enc.len _)) ?_
        refine yE rfl rfl rfl ?_
        try dsimp only [St.put]
        refine aops_e rfl (e_allocC rfl ?_)
        try dsimp only [St.put]
        refine aops_e rfl (e_store_all rfl rfl rfl zG rfl rfl (by rfl) ?_)
        refine yN ?_
        dsimp only [St.put]
        refine K31 _ ?_
        refine aw_commitD (i := 29) rfl zG (by first | exact List.cons_ne_nil _ _ | (simp; done) | (simp [putAt]; done)) ?_
        dsimp only
        refine yR ?_
        refine yM rfl rfl ?_
        refine yF rfl rfl rfl rfl ?_
        refine yL rfl rfl rfl ?_
        refine aops_n rfl (n_add rfl rfl rfl (by omega)) ?_
        refine yA rfl rfl ?_
        refine yN ?_
        dsimp only [St.put]
        rw [← sumN_take hq]
        refine K30 _ ?_
        refine yR ?_
        refine aops_n rfl (n_add rfl rfl rfl (by omega)) ?_
        refine yM rfl rfl ?_
        refine yN ?_
        dsimp only [St.put]
        exact ⟨j + 1, by omega, by omega, ⟨⟨rfl, rfl⟩, zF, zB, zN, zX⟩⟩
      replace hc := of_decide_eq_false hc
      rw [take_all (show M.length ≤ j by omega)]
      have hib : i = true ↔ g = 0 ∧ h = 0 := by
        rw [hin, Bool.and_eq_true, decide_eq_true_eq]
        constructor
        · rintro ⟨hg0, hany⟩
          obtain ⟨q, hq, hcv⟩ := List.any_eq_true.1 hany
          have hz := refer_zero hx hp (hg.trans hg0)
          rw [hu] at hz
          exact ⟨hg0, hh ▸ (referEr_eq hy hp (hP.cover hS hq hz.1 hcv)).1⟩
        rintro ⟨hg0, hh0⟩
        have hz := refer_zero hx hp (hg.trans hg0)
        rw [hu] at hz
        exact ⟨hg0, hP.covered hz.1 (refer_zero hy hp (hh.trans hh0)).1⟩
      refine aw_exit ?_
      refine K26 _ ?_
      refine yS fun _ K32 => ?_
      refine aw_wipe 92 ?_
      simp only [firsts, getA, Nat.reduceAdd, List.getD_cons_zero, List.getD_cons_succ, List.getD_nil, natBeq, Nat.reduceBEq, cond_true, cond_false]
      refine aw_cutD (X := Unit) (fun _ => True) (fun _ => [(216, .v (.bool false))]) (fun _ G' => G') rfl ?_ (fun _ _ _ _ h => .inl h) ?_ ?_
      · rintro _ hI
        exact zL
      · refine yR ?_
        refine yM rfl rfl ?_
        refine yM rfl rfl ?_
        refine aops_n rfl (n_bool (n_neq rfl rfl rfl) (not_dec_f (by omega))) ?_
        refine yM rfl rfl ?_
        refine yM rfl rfl ?_
        refine yM rfl rfl ?_
        refine aops_n rfl (n_eql rfl rfl rfl) ?_
        refine aops_split (fun hs => ?_) (fun hs => ?_)
        · have hg0 := of_decide_eq_true hs
          refine yM rfl rfl ?_
          refine yM rfl rfl ?_
          refine aops_n rfl (n_eql rfl rfl rfl) ?_
          refine aops_n rfl (n_pt rfl rfl (by constructor)) ?_
          first
          | refine aops_n rfl (n_bool (c := false) (n_bneq rfl rfl rfl (by kernel_rfl)) (by rw [beq_iff (hib.trans ⟨fun h => h.2, fun h => ⟨hg0, h⟩⟩)]; rfl)) ?_
          | refine aops_n rfl (n_bool (c := false) (n_bneq rfl rfl rfl (by kernel_rfl)) (by rw [show i = false by rw [← Bool.not_eq_true, hib]; exact fun h => hg0 h.1]; rfl)) ?_
          refine aops_n rfl (n_pf rfl rfl (by constructor)) ?_
          refine yN ?_
          dsimp only [St.put]
          exact ⟨(), trivial, ⟨⟨rfl, rfl⟩, zF, zB, zN, zX⟩⟩
        have hg0 := of_decide_eq_false hs
        refine yM rfl rfl ?_
        refine yK rfl ?_
        refine yK rfl ?_
        refine aops_n rfl (n_pf rfl rfl (by constructor)) ?_
        first
        | refine aops_n rfl (n_bool (c := false) (n_bneq rfl rfl rfl (by kernel_rfl)) (by rw [beq_iff (hib.trans ⟨fun h => h.2, fun h => ⟨hg0, h⟩⟩)]; rfl)) ?_
        | refine aops_n rfl (n_bool (c := false) (n_bneq rfl rfl rfl (by kernel_rfl)) (by rw [show i = false by rw [← Bool.not_eq_true, hib]; exact fun h => hg0 h.1]; rfl)) ?_
        refine aops_n rfl (n_pf rfl rfl (by constructor)) ?_
        refine yN ?_
        dsimp only [St.put]
        exact ⟨(), trivial, ⟨⟨rfl, rfl⟩, zF, zB, zN, zX⟩⟩
      rintro _ hU
      dsimp only at hU ⊢
      refine aw_cond rfl (fun h => by cases h) (fun _ => ?_)
      refine aw_skip ?_
      refine K32 _ ?_
      refine yS fun _ K34 => ?_
      refine yS fun _ K35 => ?_
      refine yR ?_
      refine yM rfl rfl ?_
      refine aops_n rfl (n_neq rfl rfl rfl) ?_
      refine yN ?_
      dsimp only [St.put]
      refine K35 _ ?_
      refine aw_cond rfl (fun hc => ?_) (fun hc => ?_)
      · skip
        refine yS fun _ K36 => ?_
        refine yR ?_
        refine yM rfl rfl ?_
        refine yA rfl rfl ?_
        refine yN ?_
        dsimp only [St.put]
        refine K36 _ ?_
        refine aw_ret ?_
        refine ends_1 rfl (by constructor) zN zS ?_
        rfl
      replace hc := nd_f hc
      obtain ⟨hT, hTV⟩ := turn_there hx hy hp (hg.trans hc)
      rw [hu, hh] at hT
      rw [hu, hw] at hTV
      refine aw_skip ?_
      refine K34 _ ?_
      refine yS fun _ K37 => ?_
      refine yR ?_
      try dsimp only [St.put]
      refine aops_s rfl (s_load_agg' rfl rfl rfl) ?_
      refine yE rfl rfl rfl ?_
      refine yE rfl rfl rfl ?_
      refine yE rfl rfl rfl ?_
      try dsimp only [St.put]
      refine aops_e rfl (e_call_f rfl rfl rfl (chartTurn_pureF t x y u hlx hly) zG ?_)
      refine yM rfl rfl ?_
      refine yX rfl rfl rfl rfl ?_
      refine yX rfl rfl rfl rfl ?_
      try dsimp only [St.put]
      refine aops_e rfl (e_allocC rfl ?_)
      try dsimp only [St.put]
      refine aops_e rfl (e_store_all rfl rfl rfl zG rfl rfl (by rfl) ?_)
      refine yA rfl rfl ?_
      refine yN ?_
      dsimp only [St.put]
      rw [hT, hTV]
      refine K37 _ ?_
      refine aw_commitD (i := 30) rfl zG (by first | exact List.cons_ne_nil _ _ | (simp; done) | (simp [putAt]; done)) ?_
      dsimp only
      refine yS fun _ K38 => ?_
      refine yS fun _ K39 => ?_
      refine yR ?_
      refine yM rfl rfl ?_
      refine aops_n rfl (n_neq rfl rfl rfl) ?_
      refine yN ?_
      dsimp only [St.put]
      refine K39 _ ?_
      refine aw_cond rfl (fun hc => ?_) (fun hc => ?_)
      · replace hc := nd_t hc
        have h6 : h = 6 := by rw [← hh] at hc ⊢; exact (refer_none hy hp hc).2.1
        refine yS fun _ K40 => ?_
        refine yR ?_
        refine yM rfl rfl ?_
        refine yM rfl rfl ?_
        refine yM rfl rfl ?_
        refine aops_n rfl (n_bool (n_eql rfl rfl rfl) (decide_eq_true (by omega))) ?_
        refine aops_n rfl (n_pt rfl rfl (by constructor)) ?_
        refine yA rfl rfl ?_
        refine yN ?_
        dsimp only [St.put]
        refine K40 _ ?_
        refine aw_ret ?_
        refine ends_1 rfl (by constructor) zN zS ?_
        rfl
      replace hc := nd_f hc
      obtain ⟨hR, hRV⟩ := turn_there hy hx hp (hh.trans hc)
      rw [hw, hg] at hR
      rw [hw, hu] at hRV
      rename_i hg9
      refine aw_skip ?_
      refine K38 _ ?_
      refine yS fun _ K41 => ?_
      refine yR ?_
      try dsimp only [St.put]
      refine aops_s rfl (s_load_agg' rfl rfl rfl) ?_
      refine yE rfl rfl rfl ?_
      refine yE rfl rfl rfl ?_
      refine yE rfl rfl rfl ?_
      try dsimp only [St.put]
      refine aops_e rfl (e_call_f rfl rfl rfl (chartTurn_pureF t y x w hly hlx) zG ?_)
      refine yM rfl rfl ?_
      refine yX rfl rfl rfl rfl ?_
      refine yX rfl rfl rfl rfl ?_
      try dsimp only [St.put]
      refine aops_e rfl (e_allocC rfl ?_)
      try dsimp only [St.put]
      refine aops_e rfl (e_store_all rfl rfl rfl zG rfl rfl (by rfl) ?_)
      refine yA rfl rfl ?_
      refine yN ?_
      dsimp only [St.put]
      rw [hR, hRV]
      refine K41 _ ?_
      refine aw_commitD (i := 32) rfl zG (by first | exact List.cons_ne_nil _ _ | (simp; done) | (simp [putAt]; done)) ?_
      dsimp only
      refine yS fun _ K42 => ?_
      refine yR ?_
      refine yM rfl rfl ?_
      refine yM rfl rfl ?_
      refine yM rfl rfl ?_
      refine aops_n rfl (n_bool (n_eql rfl rfl rfl) (decide_eq_true (by omega))) ?_
      refine aops_n rfl (n_pt rfl rfl (by constructor)) ?_
      refine yM rfl rfl ?_
      refine yE rfl rfl rfl ?_
      refine yE rfl rfl rfl ?_
      refine aops_n rfl (n_bool (n_agg_eql rfl rfl rfl) (decide_eq_true (by first | assumption | with_reducible rfl))) ?_
      refine aops_n rfl (n_pt rfl rfl (by constructor)) ?_
      refine yM rfl rfl ?_
      refine yM rfl rfl ?_
      refine aops_n rfl (n_bool (n_eql rfl rfl rfl) (decide_eq_true (by omega))) ?_
      refine aops_n rfl (n_pt rfl rfl (by constructor)) ?_
      refine yM rfl rfl ?_
      refine yE rfl rfl rfl ?_
      refine yE rfl rfl rfl ?_
      refine aops_n rfl (n_bool (n_agg_eql rfl rfl rfl) (decide_eq_true (by first | assumption | with_reducible rfl))) ?_
      refine aops_n rfl (n_pt rfl rfl (by constructor)) ?_
      refine yA rfl rfl ?_
      refine yN ?_
      dsimp only [St.put]
      refine K42 _ ?_
      refine aw_ret ?_
      refine ends_1 rfl (by constructor) zN zS ?_
      rfl
    skip
    refine aops_n rfl (n_not rfl rfl) ?_
    refine aops_n rfl (n_pf rfl rfl (by constructor)) ?_
    refine yM rfl rfl ?_
    refine yK rfl ?_
    refine yK rfl ?_
    refine aops_n rfl (n_pt rfl rfl (by constructor)) ?_
    refine yN ?_
    dsimp only [St.put]
    refine K4 _ ?_
    refine aw_cond rfl (fun _ => ?_) (fun h => by cases h)
    refine yS fun _ K43 => ?_
    refine yR ?_
    refine yM rfl rfl ?_
    refine yA rfl rfl ?_
    refine yN ?_
    dsimp only [St.put]
    refine K43 _ ?_
    refine aw_ret ?_
    refine ends_1 rfl (by constructor) zN zS ?_
    rfl
  skip
  refine aops_n rfl (n_not rfl rfl) ?_
  refine yM rfl rfl ?_
  refine yK rfl ?_
  refine yK rfl ?_
  refine yK rfl ?_
  refine yK rfl ?_
  refine aops_n rfl (n_pt rfl rfl (by constructor)) ?_
  refine yM rfl rfl ?_
  refine yK rfl ?_
  refine yK rfl ?_
  refine aops_n rfl (n_pt rfl rfl (by constructor)) ?_
  refine yN ?_
  dsimp only [St.put]
  refine K4 _ ?_
  refine aw_cond rfl (fun _ => ?_) (fun h => by cases h)
  refine yS fun _ K44 => ?_
  refine yR ?_
  refine yM rfl rfl ?_
  refine yA rfl rfl ?_
  refine yN ?_
  dsimp only [St.put]
  refine K44 _ ?_
  refine aw_ret ?_
  refine ends_1 rfl (by constructor) zN zS ?_
  rfl
end Go.Proofs.YtjjklfgpffgnfaaGreatDoor
