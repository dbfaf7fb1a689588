/-
  The law ChartClosest: its walk.
-/
import Derived.Test.YtjjklfgpffgnfaaGreatDoorGjNext
import Derived.Test.YtjjklfgpffgnfaaGreatDoorGgBack
import Derived.Test.YtjjklfgpffgnfaaGreatDoorFhClose
namespace Go.AB
open Go Go.RowKit
open Go.AB.Enc (cells)
open Go.PB (Chap TextD PlaceD ReadingD CopyD WayD)
section
variable {t : TextD} {e : EditionD} {p q : PlaceD} {r : RefD} {a b : Option PlaceD}
theorem closeV_ok (h0 : soundEr t e = 0) (hr : refB r = true) (hc : closeEr t e r = 0) : closeV t e r = closeL t e.ss r ∧ closeL t e.ss r ≠ [] := by
  refine ⟨by simp [closeV, hc], fun hn => ?_⟩
  simp [closeEr, h0, hr, hn] at hc
theorem closeV_no (h0 : soundEr t e = 0) (hr : refB r = true) (hc : closeEr t e r ≠ 0) : closeEr t e r = 6 ∧ closeV t e r = [] ∧ closeL t e.ss r = [] := by
  by_cases hn : closeL t e.ss r = []
  · have : closeEr t e r = 6 := by simp [closeEr, h0, hr, hn]
    exact ⟨this, by simp [closeV, this], hn⟩
  exact absurd (by simp [closeEr, h0, hr, hn]) hc
theorem closeV_lead (h0 : soundEr t e = 0) (hr : refB r = true) (hl : leadO t e.ss r = some p) : closeEr t e r = 0 ∧ closeV t e r = [p] :=
  closeEr_eq h0 hr (by simp [closeL, hl]) (by simp)
/-- none is there -/
theorem close_none (h0 : soundEr t e = 0) (hr : refB r = true) (hno : leadO t e.ss r = none) (hn : closeL t e.ss r = []) (hp : placeB t p = true) : referEr t e p = 6 := by
  have hS := soundEr_sound h0
  obtain ⟨a, b, hL, ha, hb⟩ := close_ok hS hno
  rw [hn] at hL
  have ha0 : a = none := by cases a with | none => rfl | some w => simp at hL
  have hb0 : b = none := by cases b with | none => rfl | some w => simp at hL
  by_cases h1 : referEr t e p = 0
  · obtain ⟨hw, _⟩ := refer_words h0 hp h1
    exact (close_words hS hr hno p hw (ltW_tri rfl (ha.none ha0 p hw) (hb.none hb0 p hw))).elim
  exact (refer_none h0 hp h1).2.1
theorem close_mem (ha : IsLo (wordsF t (asOf e.ss)) (keyF (asOf e.ss)) (keyR r) a) (hb : IsHi (wordsF t (asOf e.ss)) (keyF (asOf e.ss)) (keyR r) b) {k : Nat} (h : (a.toList ++ b.toList)[k]? = some q) :
    q ∈ wordsF t (asOf e.ss) ∧ ((a = some q ∧ k = 0 ∧ cmpL (keyR (rfV (asOf e.ss) q)) (keyR r) < 0) ∨ (b = some q ∧ k = a.toList.length ∧ ¬ cmpL (keyR (rfV (asOf e.ss) q)) (keyR r) < 0 ∧ cmpL (keyR r) (keyR (rfV (asOf e.ss) q)) < 0)) := by
  rcases two_step h with ⟨h1, h2⟩ | ⟨h1, h2⟩
  · obtain ⟨k1, k2, _⟩ := ha.some q h1
    exact ⟨k1, .inl ⟨h1, h2, keyR_lt.2 k2⟩⟩
  obtain ⟨k1, k2, _⟩ := hb.some q h1
  exact ⟨k1, .inr ⟨h1, h2, fun h3 => ltW_irr _ (ltW_trans (keyR_lt.1 h3) k2), keyR_lt.2 k2⟩⟩
theorem close_lo (ha : IsLo (wordsF t (asOf e.ss)) (keyF (asOf e.ss)) (keyR r) a) (hp : p ∈ wordsF t (asOf e.ss)) (h : cmpL (keyR (rfV (asOf e.ss) p)) (keyR r) < 0) : ∃ y, a = some y ∧ ¬ cmpL (keyR (rfV (asOf e.ss) y)) (keyR (rfV (asOf e.ss) p)) < 0 := by
  cases a with
  | none => exact absurd (keyR_lt.1 h) (ha.none rfl p hp)
  | some y => exact ⟨y, rfl, fun h2 => (ha.some y rfl).2.2 p hp (keyR_lt.1 h) (keyR_lt.1 h2)⟩
theorem close_hi (hS : Sound t e.ss) (hr : refB r = true) (hno : leadO t e.ss r = none) (hb : IsHi (wordsF t (asOf e.ss)) (keyF (asOf e.ss)) (keyR r) b) (hp : p ∈ wordsF t (asOf e.ss)) (h : ¬ cmpL (keyR (rfV (asOf e.ss) p)) (keyR r) < 0) : ∃ y, b = some y ∧ ¬ cmpL (keyR (rfV (asOf e.ss) p)) (keyR (rfV (asOf e.ss) y)) < 0 := by
  have h1 : ltW (keyR r) (keyF (asOf e.ss) p) := Classical.byContradiction fun hn => close_words hS hr hno p hp (ltW_tri rfl (mt keyR_lt.2 h) hn)
  cases b with
  | none => exact absurd h1 (hb.none rfl p hp)
  | some y => exact ⟨y, rfl, fun h2 => (hb.some y rfl).2.2 p hp h1 (keyR_lt.1 h2)⟩
end
end Go.AB
namespace Go.Proofs.YtjjklfgpffgnfaaGreatDoor
set_option maxRecDepth 10000
open Go.RowKit Go.AB
open Go.AB.Enc (cells)
open Go.PB (Chap TextD PlaceD ReadingD CopyD WayD)
theorem Less_true {a b : RefD} (h : cmpL (keyR a) (keyR b) < 0) : Pure Tryz.prog 24 [val a, val b] (.v (.bool true)) := by
  have := Less_pure a b
  rwa [decide_eq_true h] at this
theorem Less_false {a b : RefD} (h : ¬ cmpL (keyR a) (keyR b) < 0) : Pure Tryz.prog 24 [val a, val b] (.v (.bool false)) := by
  have := Less_pure a b
  rwa [decide_eq_false h] at this
set_option maxHeartbeats 4000000 in
theorem closest_pureF (t : TextD) (e : EditionD) (r : RefD) (a b c : Int) : PureF chkF Tryz.prog 5 [textC t, val e, val r, .v (.int .u8 a), .v (.int .u8 b), .v (.int .u8 c)] (.v (.bool true)) := by
  refine pureF_of_body Tryz.func5 rfl (fun m => .v) fun G nx hF => ?_
  simp only [Tryz.ntmps5, List.length_cons, List.length_nil, Nat.reduceAdd, Nat.reduceSub]
  refine aw_lt fun hlt => ?_
  dsimp only at hlt
  have hnx := hlt 0 _ hF
  refine aw_fit 3 (fun hfa => ?_)
  refine aw_fit 4 (fun hfb => ?_)
  refine aw_fit 5 (fun hfc => ?_)
  replace hfa := u8_fit hfa
  replace hfb := u8_fit hfb
  replace hfc := u8_fit hfc
  refine yS fun _ K1 => ?_
  refine yR ?_
  try dsimp only [St.put]
  refine yB rfl rfl rfl ?_
  try dsimp only [St.put]
  refine yB rfl rfl rfl ?_
  try dsimp only [St.put]
  refine yB rfl rfl rfl ?_
  refine yA rfl rfl ?_
  refine yN ?_
  dsimp only [St.put]
  refine K1 _ ?_
  refine yS fun _ K2 => ?_
  refine yR ?_
  try dsimp only [St.put]
  refine aops_e rfl (e_call_f rfl rfl rfl (alive_pureF) zG ?_)
  refine yA rfl rfl ?_
  refine yN ?_
  dsimp only [St.put]
  refine K2 _ ?_
  refine yS fun _ K3 => ?_
  refine yS fun _ K4 => ?_
  refine yR ?_
  try dsimp only [St.put]
  refine aops_s rfl (s_load_agg' rfl rfl rfl) ?_
  refine yE rfl rfl rfl ?_
  try dsimp only [St.put]
  refine aops_e rfl (e_call_pure rfl rfl rfl (lawReady_pure t e) ?_)
  refine aops_split (fun hs => ?_) (fun hs => ?_)
  · obtain ⟨⟨hle, hgt⟩, h0⟩ := readyB_true.1 hs
    have hS := soundEr_sound h0
    refine aops_n rfl (n_not rfl rfl) ?_
    refine yM rfl rfl ?_
    refine yE rfl rfl rfl ?_
    try dsimp only [St.put]
    refine aops_e rfl (e_call_pure rfl rfl rfl (Ref2_pure r) ?_)
    refine aops_split (fun hs => ?_) (fun hs => ?_)
    · have hr : refB r = true := hs
      refine aops_n rfl (n_not rfl rfl) ?_
      refine aops_n rfl (n_pf rfl rfl (by constructor)) ?_
      refine yM rfl rfl ?_
      refine yM rfl rfl ?_
      refine aops_n rfl (n_not rfl rfl) ?_
      refine aops_n rfl (n_pf rfl rfl (by constructor)) ?_
      refine yN ?_
      dsimp only [St.put]
      refine K4 _ ?_
      refine aw_cond rfl (fun h => by cases h) (fun _ => ?_)
      refine aw_skip ?_
      refine K3 _ ?_
      refine yS fun _ K5 => ?_
      refine yR ?_
      try dsimp only [St.put]
      refine aops_s rfl (s_load_agg' rfl rfl rfl) ?_
      refine yE rfl rfl rfl ?_
      refine yE rfl rfl rfl ?_
      try dsimp only [St.put]
      refine aops_e rfl (e_call_f rfl rfl rfl (chartClose_pureF t e r hle) zG ?_)
      refine yM rfl rfl ?_
      refine yX rfl rfl rfl rfl ?_
      refine yX rfl rfl rfl rfl ?_
      refine yA rfl rfl ?_
      refine yA rfl rfl ?_
      refine yN ?_
      dsimp only [St.put]
      refine K5 _ ?_
      refine yS fun _ K6 => ?_
      refine yR ?_
      try dsimp only [St.put]
      refine aops_s rfl (s_load_agg' rfl rfl rfl) ?_
      refine yE rfl rfl rfl ?_
      refine yE rfl rfl rfl ?_
      try dsimp only [St.put]
      refine aops_e rfl (e_call_f rfl rfl rfl (chartLead_pureF t e r hle) zG ?_)
      refine yM rfl rfl ?_
      refine yX rfl rfl rfl rfl ?_
      refine yX rfl rfl rfl rfl ?_
      try dsimp only [St.put]
      refine aops_e rfl (e_allocC rfl ?_)
      try dsimp only [St.put]
      refine aops_e rfl (e_store_all rfl rfl rfl zG rfl rfl (by rfl) ?_)
      refine yA rfl rfl ?_
      refine yN ?_
      dsimp only [St.put]
      refine K6 _ ?_
      refine aw_commitD (i := 16) rfl zG (by first | exact List.cons_ne_nil _ _ | (simp; done) | (simp [putAt]; done)) ?_
      dsimp only
      refine yS fun _ K7 => ?_
      refine yS fun _ K8 => ?_
      refine yR ?_
      refine yM rfl rfl ?_
      refine aops_n rfl (n_eql rfl rfl rfl) ?_
      refine yN ?_
      dsimp only [St.put]
      refine K8 _ ?_
      refine aw_cond rfl (fun hc => ?_) (fun hc => ?_)
      · replace hc := of_decide_eq_true hc
        obtain ⟨p, hlo, hV⟩ : ∃ q, leadO t e.ss r = some q ∧ leadV t e r = q := by
          rcases lead_cases (r := r) h0 with ⟨_, q, h1, _, h2⟩ | h | h
          · exact ⟨q, h1, h2⟩
          · rw [h.2.1] at hc; cases hc
          rw [h.2.2.1] at hc; cases hc
        obtain ⟨hE, hC⟩ := closeV_lead h0 hr hlo
        rw [hV, hE, hC]
        refine yS fun _ K9 => ?_
        refine yR ?_
        refine yM rfl rfl ?_
        refine yM rfl rfl ?_
        refine yM rfl rfl ?_
        refine yM rfl rfl ?_
        refine yE rfl rfl rfl ?_
        try dsimp only [St.put]
        refine aops_e rfl (e_buildSlice rfl rfl rfl (by decide) (by decide) zR (by decide) ?_)
        try dsimp only [St.put]
        refine aops_e rfl (e_call_pure rfl rfl rfl (lawNear_self [p]) ?_)
        refine aops_n rfl (n_pt rfl rfl (by constructor)) ?_
        refine yA rfl rfl ?_
        refine yN ?_
        dsimp only [St.put]
        refine K9 _ ?_
        refine aw_ret ?_
        refine ends_1 rfl (by constructor) zN zS ?_
        rfl
      replace hc := of_decide_eq_false hc
      have hno : leadO t e.ss r = none := by
        rcases lead_cases (r := r) h0 with ⟨_, q, h1, h2, _⟩ | h | h
        · exact absurd h2 hc
        · rw [hr] at h; cases h.1
        exact h.2.1
      obtain ⟨p, hpp⟩ : ∃ p, pickP t a b c = p := ⟨_, rfl⟩
      have hp : placeB t p = true := hpp ▸ pick_place hS.tx hfa.1 hfb.1 hfc.1
      have hPk := lawPick_pure t a b c hS.tx hfa hfb hfc
      rw [hpp] at hPk
      refine aw_skip ?_
      refine K7 _ ?_
      refine aw_wipe 20 ?_
      simp only [firsts, getA, Nat.reduceAdd, List.getD_cons_zero, List.getD_cons_succ, List.getD_nil, natBeq, Nat.reduceBEq, cond_true, cond_false]
      refine aw_forget (G) zX ?_
      dsimp only
      refine aw_cutD (X := Unit) (fun _ => True) (fun _ => [(18, .elem (cells (referV t e p))), (19, .v (.int .i64 (referEr t e p)))]) (fun _ G' => G') rfl ?_ (fun _ _ _ _ h => .inl h) ?_ ?_
      · rintro _ hI
        exact zL
      · refine aw_drawT [(0, none), (1, none), (2, none), (3, none), (4, none), (5, none)] (fun _ => false) (fun i => [3, 4, 5].contains i) 8 [true, true, true, true, true, true, false, false, false, false, false, false, false, false] (by kernel_rfl) (by kernel_rfl) ?_
        try dsimp only [St.put]
        refine acan1_s rfl rfl rfl rfl (s_load_agg' rfl rfl rfl) ?_
        try dsimp only [St.put]
        refine acan1_s rfl rfl rfl rfl (s_load_agg' rfl rfl (Enc.len _)) ?_
        try dsimp only [St.put]
        refine acan1_s rfl rfl rfl rfl (s_load_agg' rfl rfl rfl) ?_
        refine xM rfl rfl rfl rfl rfl ?_
        refine xM rfl rfl rfl rfl rfl ?_
        refine xM rfl rfl rfl rfl rfl ?_
        refine acan1_nil ?_
        refine aany_step [6, 11] (by kernel_rfl) (by simp) ?_
        refine aeach_cons ?_ ?_
        · try dsimp only [St.put]
          refine aone_e rfl rfl rfl (e_call_pure rfl rfl rfl (hPk) ?_)
          refine aany_step [7, 11] (by kernel_rfl) (by simp) ?_
          refine aeach_cons ?_ ?_
          · try dsimp only [St.put]
            refine aone_e rfl rfl rfl (e_call_f rfl rfl rfl (chartRefer_pureF t e p hle) zG ?_)
            refine aany_quiet [(8, none), (9, none), (10, none)] (fun i => [8, 9, 10].contains i) 3 [true, true, true, true, true, true, true, true, true, true, true, false, false, false] (by kernel_rfl) ?_
            refine xM rfl rfl rfl rfl rfl ?_
            refine acan1_n rfl rfl rfl rfl (n_extract rfl rfl rfl) ?_
            refine acan1_n rfl rfl rfl rfl (n_extract rfl rfl rfl) ?_
            refine acan1_nil ?_
            refine aany_step [11] (by kernel_rfl) (by simp) ?_
            refine aeach_cons ?_ ?_
            · try dsimp only [St.put]
              refine aone_e rfl rfl rfl (e_allocC rfl ?_)
              refine aany_step [12] (by kernel_rfl) (by simp) ?_
              refine aeach_cons ?_ ?_
              · try dsimp only [St.put]
                refine aone_e rfl rfl rfl (e_store_all rfl rfl rfl zG rfl rfl (by rfl) ?_)
                refine aany_quiet [(13, none)] (fun i => [13].contains i) 0 [true, true, true, true, true, true, true, true, true, true, true, true, true, true] (by kernel_rfl) ?_
                refine acan1_n rfl rfl rfl rfl (n_as rfl (by constructor)) ?_
                refine acan1_nil ?_
                dsimp only [St.put]
                refine aany_of_tr (tr_commit (i := 18) rfl zG (by first | exact List.cons_ne_nil _ _ | (simp; done) | (simp [putAt]; done))) ?_
                dsimp only
                refine aany_nil (by kernel_rfl) ?_
                exact ⟨(), trivial, ⟨⟨rfl, rfl⟩, zF, zB, zN, zX⟩⟩
              exact aeach_nil
            exact aeach_nil
          refine aeach_cons ?_ ?_
          · try dsimp only [St.put]
            refine aone_e rfl rfl rfl (e_allocC rfl ?_)
            refine aany_step [7] (by kernel_rfl) (by simp) ?_
            refine aeach_cons ?_ ?_
            · try dsimp only [St.put]
              refine aone_e rfl rfl rfl (e_call_f rfl rfl rfl (chartRefer_pureF t e p hle) zG ?_)
              refine aany_quiet [(8, none), (9, none), (10, none)] (fun i => [8, 9, 10].contains i) 2 [true, true, true, true, true, true, true, true, true, true, true, true, false, false] (by kernel_rfl) ?_
              refine xM rfl rfl rfl rfl rfl ?_
              refine acan1_n rfl rfl rfl rfl (n_extract rfl rfl rfl) ?_
              refine acan1_n rfl rfl rfl rfl (n_extract rfl rfl rfl) ?_
              refine acan1_nil ?_
              refine aany_step [12] (by kernel_rfl) (by simp) ?_
              refine aeach_cons ?_ ?_
              · try dsimp only [St.put]
                refine aone_e rfl rfl rfl (e_store_all rfl rfl rfl zG rfl rfl (by rfl) ?_)
                refine aany_quiet [(13, none)] (fun i => [13].contains i) 0 [true, true, true, true, true, true, true, true, true, true, true, true, true, true] (by kernel_rfl) ?_
                refine acan1_n rfl rfl rfl rfl (n_as rfl (by constructor)) ?_
                refine acan1_nil ?_
                dsimp only [St.put]
                refine aany_of_tr (tr_commit (i := 18) rfl zG (by first | exact List.cons_ne_nil _ _ | (simp; done) | (simp [putAt]; done))) ?_
                dsimp only
                refine aany_nil (by kernel_rfl) ?_
                exact ⟨(), trivial, ⟨⟨rfl, rfl⟩, zF, zB, zN, zX⟩⟩
              exact aeach_nil
            exact aeach_nil
          exact aeach_nil
        refine aeach_cons ?_ ?_
        · try dsimp only [St.put]
          refine aone_e rfl rfl rfl (e_allocC rfl ?_)
          refine aany_step [6] (by kernel_rfl) (by simp) ?_
          refine aeach_cons ?_ ?_
          · try dsimp only [St.put]
            refine aone_e rfl rfl rfl (e_call_pure rfl rfl rfl (hPk) ?_)
            refine aany_step [7] (by kernel_rfl) (by simp) ?_
            refine aeach_cons ?_ ?_
            · try dsimp only [St.put]
              refine aone_e rfl rfl rfl (e_call_f rfl rfl rfl (chartRefer_pureF t e p hle) zG ?_)
              refine aany_quiet [(8, none), (9, none), (10, none)] (fun i => [8, 9, 10].contains i) 2 [true, true, true, true, true, true, true, true, true, true, true, true, false, false] (by kernel_rfl) ?_
              refine xM rfl rfl rfl rfl rfl ?_
              refine acan1_n rfl rfl rfl rfl (n_extract rfl rfl rfl) ?_
              refine acan1_n rfl rfl rfl rfl (n_extract rfl rfl rfl) ?_
              refine acan1_nil ?_
              refine aany_step [12] (by kernel_rfl) (by simp) ?_
              refine aeach_cons ?_ ?_
              · try dsimp only [St.put]
                refine aone_e rfl rfl rfl (e_store_all rfl rfl rfl zG rfl rfl (by rfl) ?_)
                refine aany_quiet [(13, none)] (fun i => [13].contains i) 0 [true, true, true, true, true, true, true, true, true, true, true, true, true, true] (by kernel_rfl) ?_
                refine acan1_n rfl rfl rfl rfl (n_as rfl (by constructor)) ?_
                refine acan1_nil ?_
                dsimp only [St.put]
                refine aany_of_tr (tr_commit (i := 18) rfl zG (by first | exact List.cons_ne_nil _ _ | (simp; done) | (simp [putAt]; done))) ?_
                dsimp only
                refine aany_nil (by kernel_rfl) ?_
                exact ⟨(), trivial, ⟨⟨rfl, rfl⟩, zF, zB, zN, zX⟩⟩
              exact aeach_nil
            exact aeach_nil
          exact aeach_nil
        exact aeach_nil
      rintro _ hI
      dsimp only at hI ⊢
      refine yS fun _ K11 => ?_
      refine yS fun _ K12 => ?_
      refine yR ?_
      refine yM rfl rfl ?_
      refine aops_n rfl (n_neq rfl rfl rfl) ?_
      refine yN ?_
      dsimp only [St.put]
      refine K12 _ ?_
      refine aw_cond rfl (fun hc => ?_) (fun hc => ?_)
      · replace hc := nd_t hc
        obtain ⟨hE, hC, hL⟩ := closeV_no h0 hr hc
        have hg := close_none h0 hr hno hL hp
        rw [hE, hC, hg]
        refine yS fun _ K13 => ?_
        refine yR ?_
        refine yM rfl rfl ?_
        refine yM rfl rfl ?_
        refine yM rfl rfl ?_
        refine aops_n rfl (n_bool (n_eql rfl rfl rfl) (decide_eq_true (by omega))) ?_
        refine aops_n rfl (n_pt rfl rfl (by constructor)) ?_
        refine yM rfl rfl ?_
        refine yM rfl rfl ?_
        refine aops_n rfl (n_len' rfl rfl (List.length_map _)) ?_
        refine aops_n rfl (n_bool (c := true) (n_eql rfl rfl rfl) (decide_eq_true (by rfl))) ?_
        refine aops_n rfl (n_pt rfl rfl (by constructor)) ?_
        refine yM rfl rfl ?_
        refine yM rfl rfl ?_
        refine aops_n rfl (n_bool (n_eql rfl rfl rfl) (decide_eq_true (by omega))) ?_
        refine aops_n rfl (n_pt rfl rfl (by constructor)) ?_
        refine yA rfl rfl ?_
        refine yN ?_
        dsimp only [St.put]
        refine K13 _ ?_
        refine aw_ret ?_
        refine ends_1 rfl (by constructor) zN zS ?_
        rfl
      replace hc := nd_f hc
      obtain ⟨hC, hne⟩ := closeV_ok h0 hr hc
      obtain ⟨lo, hi, hL, hlo, hhi⟩ := close_ok hS hno
      rw [hC, hL]
      rw [hL] at hne
      have hLl : (lo.toList ++ hi.toList).length ≤ 2 := by cases lo <;> cases hi <;> simp
      have hLn : 0 < (lo.toList ++ hi.toList).length := List.length_pos_iff.2 hne
      refine aw_skip ?_
      refine K11 _ ?_
      refine yS fun _ K14 => ?_
      refine yR ?_
      refine yA rfl rfl ?_
      refine yA rfl rfl ?_
      refine yN ?_
      dsimp only [St.put]
      refine K14 _ ?_
      refine aw_nil_zero 20 rfl ?_
      dsimp only
      refine aw_nil_zero 21 rfl ?_
      dsimp only
      refine yS fun _ K15 => ?_
      refine yS fun _ K16 => ?_
      refine yR ?_
      refine yM rfl rfl ?_
      refine aops_n rfl (n_len' rfl rfl (List.length_map _)) ?_
      refine yM rfl rfl ?_
      refine yN ?_
      dsimp only [St.put]
      refine K16 _ ?_
      refine aw_block ?_
      refine aw_wipe 95 ?_
      simp only [firsts, getA, Nat.reduceAdd, List.getD_cons_zero, List.getD_cons_succ, List.getD_nil, natBeq, Nat.reduceBEq, cond_true, cond_false]
      refine aw_forget (G) zX ?_
      dsimp only
      refine aw_loopD (X := Nat × List RefD × List RefD) (fun x => x.1 ≤ (lo.toList ++ hi.toList).length ∧ x.2.1 = (lo.toList.take x.1).map (rfV (asOf e.ss)) ∧ x.2.2 = (hi.toList.take (x.1 - lo.toList.length)).map (rfV (asOf e.ss))) (fun x => (lo.toList ++ hi.toList).length - x.1) (fun x => [(20, .list (x.2.1.map cells) .zero), (21, .list (x.2.2.map cells) .zero), (22, .any), (23, .any), (24, .any), (25, .any), (94, .v (.int .i64 (x.1 : Int)))]) (fun x G' => G') (0, [], []) rfl ?_ ?_ (fun _ _ h => h) ?_ ?_ ?_
      · exact ⟨Nat.zero_le _, rfl, by simp⟩
      · exact zF
      · rintro ⟨k, us, ws⟩ hI
        exact (by (try dsimp only); repeat' (first | exact trivial | refine ⟨?_, ?_⟩ | exact .v | exact .any | refine .elem ?_ | exact lst_low _ _ | exact cells_low _ _ | exact val_low _ _ | exact data_low _ (by (try dsimp only); omega) | exact .box (by (try dsimp only); omega) | exact nil_low | exact low_nil | exact zlist_low _ | refine set_low ?_ ?_ | exact .arr (by (try dsimp only); omega) | exact .own (by (try dsimp only); omega) | exact .map (by (try dsimp only); omega) | exact flatC_low _ | refine low_cons ?_ ?_ | exact lst_low _ _))
      · exact fun _ _ _ _ h => .inl h
      rintro ⟨k, us, ws⟩ hI
      dsimp only at hI ⊢
      refine yS fun _ K17 => ?_
      refine yR ?_
      refine aops_n rfl (n_lss rfl rfl rfl) ?_
      refine yN ?_
      dsimp only [St.put]
      refine K17 _ ?_
      refine yS fun _ K18 => ?_
      refine aw_cond rfl (fun hc => ?_) (fun hc => ?_)
      · replace hc := of_decide_eq_true hc
        obtain ⟨q, hq⟩ : ∃ x, (lo.toList ++ hi.toList)[k]? = some x := some_of_lt (by omega)
        obtain ⟨hqw, hqc⟩ := close_mem hlo hhi hq
        obtain ⟨hqp, hqE, hqV⟩ := words_refer h0 hqw
        refine aw_skip ?_
        refine K18 _ ?_
        refine yS fun _ K19 => ?_
        refine aw_block ?_
        refine yS fun _ K20 => ?_
        refine yR ?_
        refine aops_n rfl (n_indexAddr rfl rfl rfl rfl (map_get (by assumption)) (Enc.len _)) ?_
        refine yE rfl rfl rfl ?_
        try dsimp only [St.put]
        refine aops_e rfl (e_allocC rfl ?_)
        try dsimp only [St.put]
        refine aops_e rfl (e_store_all rfl rfl rfl zG rfl rfl (by rfl) ?_)
        refine yN ?_
        dsimp only [St.put]
        refine K20 _ ?_
        refine aw_commitD (i := 23) rfl zG (by first | exact List.cons_ne_nil _ _ | (simp; done) | (simp [putAt]; done)) ?_
        dsimp only
        refine yS fun _ K21 => ?_
        refine yR ?_
        try dsimp only [St.put]
        refine aops_s rfl (s_load_agg' rfl rfl rfl) ?_
        refine yE rfl rfl rfl ?_
        refine yE rfl rfl rfl ?_
        try dsimp only [St.put]
        refine aops_e rfl (e_call_f rfl rfl rfl (chartRefer_pureF t e q hle) zG ?_)
        refine yM rfl rfl ?_
        refine yX rfl rfl rfl rfl ?_
        refine yX rfl rfl rfl rfl ?_
        try dsimp only [St.put]
        refine aops_e rfl (e_allocC rfl ?_)
        try dsimp only [St.put]
        refine aops_e rfl (e_store_all rfl rfl rfl zG rfl rfl (by rfl) ?_)
        refine yA rfl rfl ?_
        refine yN ?_
        dsimp only [St.put]
        rw [hqE, hqV]
        refine K21 _ ?_
        refine aw_commitD (i := 24) rfl zG (by first | exact List.cons_ne_nil _ _ | (simp; done) | (simp [putAt]; done)) ?_
        dsimp only
        refine aw_block ?_
        refine yS fun _ K22 => ?_
        refine yR ?_
        refine yM rfl rfl ?_
        refine aops_n rfl (n_bool (n_neq rfl rfl rfl) (not_dec_f (by omega))) ?_
        refine yA rfl rfl ?_
        refine yN ?_
        dsimp only [St.put]
        refine K22 _ ?_
        refine aw_cond rfl (fun h => by cases h) (fun _ => ?_)
        refine yS fun _ K23 => ?_
        refine yR ?_
        refine yE rfl rfl rfl ?_
        refine yE rfl rfl rfl ?_
        try dsimp only [St.put]
        refine aops_e rfl (e_call_pure rfl rfl rfl (Less_pure (rfV (asOf e.ss) q) r) ?_)
        refine aops_split (fun hs => ?_) (fun hs => ?_)
        · have hlt1 := of_decide_eq_true hs
          obtain ⟨ha1, hk0⟩ : lo = some q ∧ k = 0 := by
            rcases hqc with h | h
            · exact ⟨h.1, h.2.1⟩
            exact absurd hlt1 h.2.2.1
          have hu0 : us.length = 0 := by rw [hI.2.1, hk0]; rfl
          have hw0 : ws.length = 0 := by rw [hI.2.2, hk0]; simp
          have hN1 : [rfV (asOf e.ss) q] = (lo.toList.take (k + 1)).map (rfV (asOf e.ss)) := by rw [ha1, hk0]; rfl
          have hN2 : ws = (hi.toList.take (k + 1 - lo.toList.length)).map (rfV (asOf e.ss)) := by rw [hI.2.2, ha1, hk0]; simp
          refine yM rfl rfl ?_
          refine yM rfl rfl ?_
          refine aops_n rfl (n_len' rfl rfl (List.length_map _)) ?_
          refine aops_n rfl (n_bool (n_eql rfl rfl rfl) (decide_eq_true (by omega))) ?_
          refine aops_n rfl (n_pt rfl rfl (by constructor)) ?_
          refine yM rfl rfl ?_
          refine yM rfl rfl ?_
          refine aops_n rfl (n_len' rfl rfl (List.length_map _)) ?_
          refine aops_n rfl (n_bool (n_eql rfl rfl rfl) (decide_eq_true (by omega))) ?_
          refine aops_n rfl (n_pt rfl rfl (by constructor)) ?_
          refine yA rfl rfl ?_
          refine yN ?_
          dsimp only [St.put]
          refine K23 _ ?_
          refine aw_cond rfl (fun _ => ?_) (fun h => by cases h)
          refine yR ?_
          refine yE rfl rfl rfl ?_
          try dsimp only [St.put]
          refine aops_e rfl (e_buildSliceZ rfl rfl rfl (by decide) (by decide) zR (by decide) ?_)
          refine yA rfl rfl ?_
          refine yN ?_
          dsimp only [St.put]
          refine K19 _ ?_
          refine yR ?_
          refine aops_n rfl (n_add rfl rfl rfl (by omega)) ?_
          refine yM rfl rfl ?_
          refine yN ?_
          dsimp only [St.put]
          first
            | exact ⟨(k + 1, [rfV (asOf e.ss) q], ws), by (dsimp only; omega), ⟨by (dsimp only; omega), hN1, hN2⟩, ⟨⟨rfl, rfl⟩, zF, zB, zN, zX⟩⟩
            | exact ⟨(k + 1, us, [rfV (asOf e.ss) q]), by (dsimp only; omega), ⟨by (dsimp only; omega), hN1, hN2⟩, ⟨⟨rfl, rfl⟩, zF, zB, zN, zX⟩⟩
        have hlt1 := of_decide_eq_false hs
        obtain ⟨hb1, hk0, hgt1⟩ : hi = some q ∧ k = lo.toList.length ∧ cmpL (keyR r) (keyR (rfV (asOf e.ss) q)) < 0 := by
          rcases hqc with h | h
          · exact absurd h.2.2 hlt1
          exact ⟨h.1, h.2.1, h.2.2.2⟩
        have hw0 : ws.length = 0 := by rw [hI.2.2, hk0]; simp
        have hN1 : us = (lo.toList.take (k + 1)).map (rfV (asOf e.ss)) := by rw [hI.2.1, hk0, List.take_of_length_le (Nat.le_refl _), List.take_of_length_le (Nat.le_succ _)]
        have hN2 : [rfV (asOf e.ss) q] = (hi.toList.take (k + 1 - lo.toList.length)).map (rfV (asOf e.ss)) := by rw [hb1, hk0, show lo.toList.length + 1 - lo.toList.length = 1 by omega]; rfl
        refine yM rfl rfl ?_
        refine yK rfl ?_
        refine yK rfl ?_
        refine yK rfl ?_
        refine aops_n rfl (n_pf rfl rfl (by constructor)) ?_
        refine yM rfl rfl ?_
        refine yK rfl ?_
        refine yK rfl ?_
        refine yK rfl ?_
        refine aops_n rfl (n_pf rfl rfl (by constructor)) ?_
        refine yA rfl rfl ?_
        refine yN ?_
        dsimp only [St.put]
        refine K23 _ ?_
        refine aw_cond rfl (fun h => by cases h) (fun _ => ?_)
        refine yS fun _ K24 => ?_
        refine yR ?_
        refine yE rfl rfl rfl ?_
        refine yE rfl rfl rfl ?_
        try dsimp only [St.put]
        refine aops_e rfl (e_call_pure rfl rfl rfl (Less_true hgt1) ?_)
        refine yM rfl rfl ?_
        refine yM rfl rfl ?_
        refine aops_n rfl (n_len' rfl rfl (List.length_map _)) ?_
        refine aops_n rfl (n_bool (n_eql rfl rfl rfl) (decide_eq_true (by omega))) ?_
        refine aops_n rfl (n_pt rfl rfl (by constructor)) ?_
        refine yA rfl rfl ?_
        refine yN ?_
        dsimp only [St.put]
        refine K24 _ ?_
        refine aw_cond rfl (fun _ => ?_) (fun h => by cases h)
        refine yR ?_
        refine yE rfl rfl rfl ?_
        try dsimp only [St.put]
        refine aops_e rfl (e_buildSliceZ rfl rfl rfl (by decide) (by decide) zR (by decide) ?_)
        refine yA rfl rfl ?_
        refine yN ?_
        dsimp only [St.put]
        refine K19 _ ?_
        refine yR ?_
        refine aops_n rfl (n_add rfl rfl rfl (by omega)) ?_
        refine yM rfl rfl ?_
        refine yN ?_
        dsimp only [St.put]
        first
          | exact ⟨(k + 1, [rfV (asOf e.ss) q], ws), by (dsimp only; omega), ⟨by (dsimp only; omega), hN1, hN2⟩, ⟨⟨rfl, rfl⟩, zF, zB, zN, zX⟩⟩
          | exact ⟨(k + 1, us, [rfV (asOf e.ss) q]), by (dsimp only; omega), ⟨by (dsimp only; omega), hN1, hN2⟩, ⟨⟨rfl, rfl⟩, zF, zB, zN, zX⟩⟩
      replace hc := of_decide_eq_false hc
      obtain ⟨hk1, rfl, rfl⟩ := hI
      rw [List.take_of_length_le (show lo.toList.length ≤ k by rw [List.length_append] at hc; omega), List.take_of_length_le (show hi.toList.length ≤ k - lo.toList.length by rw [List.length_append] at hc; omega)]
      refine aw_exit ?_
      refine K15 _ ?_
      refine yS fun _ K25 => ?_
      refine yS fun _ K26 => ?_
      refine yR ?_
      refine yM rfl rfl ?_
      refine aops_n rfl (n_neq rfl rfl rfl) ?_
      refine yN ?_
      dsimp only [St.put]
      refine K26 _ ?_
      refine aw_cond rfl (fun hc => ?_) (fun hc => ?_)
      · skip
        refine yS fun _ K27 => ?_
        refine yR ?_
        refine yM rfl rfl ?_
        refine yM rfl rfl ?_
        refine yM rfl rfl ?_
        refine aops_n rfl (n_len' rfl rfl (List.length_map _)) ?_
        refine aops_n rfl (n_bool (n_gtr rfl rfl rfl) (decide_eq_true (by omega))) ?_
        refine aops_n rfl (n_pt rfl rfl (by constructor)) ?_
        refine yA rfl rfl ?_
        refine yN ?_
        dsimp only [St.put]
        refine K27 _ ?_
        refine aw_ret ?_
        refine ends_1 rfl (by constructor) zN zS ?_
        rfl
      replace hc := nd_f hc
      obtain ⟨hpw, hpV⟩ := refer_words h0 hp hc
      rw [hpV]
      refine aw_skip ?_
      refine K25 _ ?_
      refine yS fun _ K28 => ?_
      refine yS fun _ K29 => ?_
      refine yR ?_
      refine yE rfl rfl rfl ?_
      refine yE rfl rfl rfl ?_
      try dsimp only [St.put]
      refine aops_e rfl (e_call_pure rfl rfl rfl (Less_pure (rfV (asOf e.ss) p) r) ?_)
      refine yN ?_
      dsimp only [St.put]
      refine K29 _ ?_
      refine aw_cond rfl (fun hc => ?_) (fun hc => ?_)
      · replace hc := of_decide_eq_true hc
        obtain ⟨y, rfl, hy⟩ := close_lo hlo hpw hc
        refine yS fun _ K30 => ?_
        refine aw_draw [(0, none), (1, none), (2, none), (3, none), (4, none), (5, none), (6, none), (7, none), (8, none), (9, none), (10, none), (11, none), (12, none), (13, none), (14, none)] (fun i => [11].contains i) (fun i => [11].contains i) (fun i => [0, 1, 2, 3, 4, 5, 6, 7, 8, 12, 13, 14].contains i) [] (by kernel_rfl) (by kernel_rfl) ?_
        refine xM rfl rfl rfl rfl rfl ?_
        refine xM rfl rfl rfl rfl rfl ?_
        refine xM rfl rfl rfl rfl rfl ?_
        refine acan1_n rfl rfl rfl rfl (n_len' rfl rfl (List.length_map _)) ?_
        refine acan1_n rfl rfl rfl rfl ((n_bool (c := true) (n_eql rfl rfl rfl) (decide_eq_true (by rfl)))) ?_
        refine acan1_n rfl rfl rfl rfl (n_pt rfl rfl (by constructor)) ?_
        refine xM rfl rfl rfl rfl rfl ?_
        refine xM rfl rfl rfl rfl rfl ?_
        try dsimp only [St.put]
        refine acan1_n rfl rfl rfl rfl ((n_indexAddr (k := 0) rfl rfl rfl rfl (rows := [cells (rfV (asOf e.ss) y)]) rfl (Enc.len _))) ?_
        try dsimp only [St.put]
        refine acan1_s rfl rfl rfl rfl (s_load_agg' rfl rfl (Enc.len _)) ?_
        try dsimp only [St.put]
        refine acan1_s rfl rfl rfl rfl (s_load_agg' rfl rfl (Enc.len _)) ?_
        refine acan1_two ?_
        try dsimp only [St.put]
        refine acan2_late rfl rfl rfl rfl (e_call_pure rfl rfl rfl (Less_false hy) ?_)
        refine acan2_n rfl rfl rfl rfl (n_not rfl rfl) ?_
        refine acan2_n rfl rfl rfl rfl (n_pt rfl rfl (by constructor)) ?_
        refine acan2_n rfl rfl rfl rfl (n_as rfl (by constructor)) ?_
        refine acan2_nil ?_
        dsimp only [St.put]
        refine K30 _ ?_
        refine aw_ret ?_
        refine ends_1 rfl (by constructor) zN zS ?_
        rfl
      replace hc := of_decide_eq_false hc
      obtain ⟨y, rfl, hy⟩ := close_hi hS hr hno hhi hpw hc
      refine aw_skip ?_
      refine K28 _ ?_
      refine yS fun _ K31 => ?_
      refine aw_draw [(0, none), (1, none), (2, none), (3, none), (4, none), (5, none), (6, none), (7, none), (8, none), (9, none), (10, none), (11, none), (12, none), (13, none), (14, none)] (fun i => [11].contains i) (fun i => [11].contains i) (fun i => [0, 1, 2, 3, 4, 5, 6, 8, 9, 12, 13, 14].contains i) [] (by kernel_rfl) (by kernel_rfl) ?_
      refine xM rfl rfl rfl rfl rfl ?_
      refine xM rfl rfl rfl rfl rfl ?_
      refine xM rfl rfl rfl rfl rfl ?_
      refine acan1_n rfl rfl rfl rfl (n_len' rfl rfl (List.length_map _)) ?_
      refine acan1_n rfl rfl rfl rfl ((n_bool (c := true) (n_eql rfl rfl rfl) (decide_eq_true (by rfl)))) ?_
      refine acan1_n rfl rfl rfl rfl (n_pt rfl rfl (by constructor)) ?_
      refine xM rfl rfl rfl rfl rfl ?_
      try dsimp only [St.put]
      refine acan1_s rfl rfl rfl rfl (s_load_agg' rfl rfl (Enc.len _)) ?_
      refine xM rfl rfl rfl rfl rfl ?_
      try dsimp only [St.put]
      refine acan1_n rfl rfl rfl rfl ((n_indexAddr (k := 0) rfl rfl rfl rfl (rows := [cells (rfV (asOf e.ss) y)]) rfl (Enc.len _))) ?_
      try dsimp only [St.put]
      refine acan1_s rfl rfl rfl rfl (s_load_agg' rfl rfl (Enc.len _)) ?_
      refine acan1_two ?_
      try dsimp only [St.put]
      refine acan2_late rfl rfl rfl rfl (e_call_pure rfl rfl rfl (Less_false hy) ?_)
      refine acan2_n rfl rfl rfl rfl (n_not rfl rfl) ?_
      refine acan2_n rfl rfl rfl rfl (n_pt rfl rfl (by constructor)) ?_
      refine acan2_n rfl rfl rfl rfl (n_as rfl (by constructor)) ?_
      refine acan2_nil ?_
      dsimp only [St.put]
      refine K31 _ ?_
      refine aw_ret ?_
      refine ends_1 rfl (by constructor) zN zS ?_
      rfl
    skip
    refine aops_n rfl (n_not rfl rfl) ?_
    refine aops_n rfl (n_pf rfl rfl (by constructor)) ?_
    refine yM rfl rfl ?_
    refine yK rfl ?_
    refine yK rfl ?_
    refine aops_n rfl (n_pt rfl rfl (by constructor)) ?_
    refine yN ?_
    dsimp only [St.put]
    refine K4 _ ?_
    refine aw_cond rfl (fun _ => ?_) (fun h => by cases h)
    refine yS fun _ K32 => ?_
    refine yR ?_
    refine yM rfl rfl ?_
    refine yA rfl rfl ?_
    refine yN ?_
    dsimp only [St.put]
    refine K32 _ ?_
    refine aw_ret ?_
    refine ends_1 rfl (by constructor) zN zS ?_
    rfl
  skip
  refine aops_n rfl (n_not rfl rfl) ?_
  refine yM rfl rfl ?_
  refine yK rfl ?_
  refine yK rfl ?_
  refine yK rfl ?_
  refine aops_n rfl (n_pt rfl rfl (by constructor)) ?_
  refine yM rfl rfl ?_
  refine yK rfl ?_
  refine yK rfl ?_
  refine aops_n rfl (n_pt rfl rfl (by constructor)) ?_
  refine yN ?_
  dsimp only [St.put]
  refine K4 _ ?_
  refine aw_cond rfl (fun _ => ?_) (fun h => by cases h)
  refine yS fun _ K33 => ?_
  refine yR ?_
  refine yM rfl rfl ?_
  refine yA rfl rfl ?_
  refine yN ?_
  dsimp only [St.put]
  refine K33 _ ?_
  refine aw_ret ?_
  refine ends_1 rfl (by constructor) zN zS ?_
  rfl
end Go.Proofs.YtjjklfgpffgnfaaGreatDoor
