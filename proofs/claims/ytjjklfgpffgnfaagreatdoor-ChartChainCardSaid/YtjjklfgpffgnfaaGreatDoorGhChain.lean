/-
  The law ChartChain: its walk.
-/
import Derived.Test.YtjjklfgpffgnfaaGreatDoorGrpG
namespace Go.AB
open Go Go.RowKit
open Go.AB.Enc (cells)
open Go.PB (Chap TextD PlaceD ReadingD CopyD WayD)
section
variable {t : TextD} {x y z : EditionD} {r : RefD}
theorem turn_cases (h : soundEr t x = 0) (k : soundEr t y = 0) : (∃ q, refB r = true ∧ leadO t x.ss r = some q ∧ placeB t q = true ∧ asOf x.ss (q.ch, q.ln) = some (r.ch, r.ln) ∧ q.wd + 1 = r.wd ∧ turnEr t x y r = referEr t y q ∧ turnV t x y r = referV t y q) ∨ (refB r = false ∧ turnEr t x y r = 2) ∨ (refB r = true ∧ leadO t x.ss r = none ∧ turnEr t x y r = 6) := by
  cases hr : refB r with
  | false => exact .inr (.inl ⟨rfl, by simp [turnEr, bothEr_eq h k, leadEr0, hr]⟩)
  | true =>
    cases hq : leadO t x.ss r with
    | some q =>
      obtain ⟨h1, h2, h3⟩ := refer_of_lead (soundEr_sound h) hr hq
      exact .inl ⟨q, rfl, rfl, h1, h2, h3, turnEr_eq h k hr hq⟩
    | none => exact .inr (.inr ⟨rfl, rfl, by simp [turnEr, bothEr_eq h k, leadEr0, hr, hq]⟩)
theorem chain_ok (h : soundEr t x = 0) (k : soundEr t y = 0) (m : soundEr t z = 0) (h0 : turnEr t x y r = 0) : turnEr t y z (turnV t x y r) = turnEr t x z r ∧ turnV t y z (turnV t x y r) = turnV t x z r ∧ (turnEr t x z r = 0 ∨ turnEr t x z r = 6) := by
  rcases turn_cases (r := r) h k with ⟨q, hr, hq, hp, _, _, e1, e2⟩ | ⟨_, e⟩ | ⟨_, _, e⟩
  · rw [e1] at h0
    obtain ⟨v, hv, hV⟩ := refer_some k hp h0
    obtain ⟨b1, b2⟩ := lead_of_refer (soundEr_sound k) hp hv
    obtain ⟨c1, c2⟩ := turnEr_eq h m hr hq
    obtain ⟨d1, d2⟩ := turnEr_eq k m b1 b2
    rw [e2, hV, c1, c2, d1, d2]
    refine ⟨rfl, rfl, ?_⟩
    by_cases h1 : referEr t z q = 0
    · exact .inl h1
    exact .inr (refer_none m hp h1).2.1
  · rw [e] at h0; cases h0
  rw [e] at h0; cases h0
theorem chain_no (h : soundEr t x = 0) (k : soundEr t y = 0) (m : soundEr t z = 0) (h0 : turnEr t x y r ≠ 0) : turnEr t x y r = 6 ∨ turnEr t x y r = 2 ∧ turnEr t x z r = 2 := by
  rcases turn_cases (r := r) h k with ⟨q, hr, hq, hp, _, _, e1, e2⟩ | ⟨hr, e⟩ | ⟨_, _, e⟩
  · rw [e1] at h0 ⊢
    exact .inl (refer_none k hp h0).2.1
  · refine .inr ⟨e, ?_⟩
    simp [turnEr, bothEr_eq h m, leadEr0, hr]
  exact .inl e
end
end Go.AB
namespace Go.Proofs.YtjjklfgpffgnfaaGreatDoor
set_option maxRecDepth 10000
open Go.RowKit Go.AB
open Go.AB.Enc (cells)
open Go.PB (Chap TextD PlaceD ReadingD CopyD WayD)
set_option maxHeartbeats 4000000 in
theorem chain_pureF (t : TextD) (x y z : EditionD) (r : RefD) : PureF chkF Tryz.prog 7 [textC t, val x, val y, val z, val r] (.v (.bool true)) := by
  refine pureF_of_body Tryz.func7 rfl (fun m => .v) fun G nx hF => ?_
  simp only [Tryz.ntmps7, List.length_cons, List.length_nil, Nat.reduceAdd, Nat.reduceSub]
  refine aw_lt fun hlt => ?_
  dsimp only at hlt
  have hnx := hlt 0 _ hF
  refine yS fun _ K1 => ?_
  refine yR ?_
  try dsimp only [St.put]
  refine yB rfl rfl rfl ?_
  try dsimp only [St.put]
  refine yB rfl rfl rfl ?_
  try dsimp only [St.put]
  refine yB rfl rfl rfl ?_
  try dsimp only [St.put]
  refine yB rfl rfl rfl ?_
  try dsimp only [St.put]
  refine yB rfl rfl rfl ?_
  refine yA rfl rfl ?_
  refine yN ?_
  dsimp only [St.put]
  refine K1 _ ?_
  refine yS fun _ K2 => ?_
  refine yR ?_
  try dsimp only [St.put]
  refine aops_e rfl (e_call_f rfl rfl rfl (alive_pureF) zG ?_)
  refine yA rfl rfl ?_
  refine yN ?_
  dsimp only [St.put]
  refine K2 _ ?_
  refine yS fun _ K3 => ?_
  refine yS fun _ K4 => ?_
  refine yR ?_
  try dsimp only [St.put]
  refine aops_s rfl (s_load_agg' rfl rfl rfl) ?_
  refine yE rfl rfl rfl ?_
  try dsimp only [St.put]
  refine aops_e rfl (e_call_pure rfl rfl rfl (lawReady_pure t x) ?_)
  refine aops_split (fun hs => ?_) (fun hs => ?_)
  · obtain ⟨⟨hlx, hgt⟩, hx⟩ := readyB_true.1 hs
    refine aops_n rfl (n_not rfl rfl) ?_
    refine yM rfl rfl ?_
    try dsimp only [St.put]
    refine aops_s rfl (s_load_agg' rfl rfl rfl) ?_
    refine yE rfl rfl rfl ?_
    try dsimp only [St.put]
    refine aops_e rfl (e_call_pure rfl rfl rfl (lawReady_pure t y) ?_)
    refine aops_split (fun hs => ?_) (fun hs => ?_)
    · obtain ⟨⟨hly, _⟩, hy⟩ := readyB_true.1 hs
      refine aops_n rfl (n_not rfl rfl) ?_
      refine aops_n rfl (n_pf rfl rfl (by constructor)) ?_
      refine yM rfl rfl ?_
      try dsimp only [St.put]
      refine aops_s rfl (s_load_agg' rfl rfl rfl) ?_
      refine yE rfl rfl rfl ?_
      try dsimp only [St.put]
      refine aops_e rfl (e_call_pure rfl rfl rfl (lawReady_pure t z) ?_)
      refine aops_split (fun hs => ?_) (fun hs => ?_)
      · obtain ⟨⟨hlz, _⟩, hz⟩ := readyB_true.1 hs
        refine aops_n rfl (n_not rfl rfl) ?_
        refine aops_n rfl (n_pf rfl rfl (by constructor)) ?_
        refine yM rfl rfl ?_
        refine yM rfl rfl ?_
        refine aops_n rfl (n_not rfl rfl) ?_
        refine aops_n rfl (n_pf rfl rfl (by constructor)) ?_
        refine yN ?_
        dsimp only [St.put]
        refine K4 _ ?_
        refine aw_cond rfl (fun h => by cases h) (fun _ => ?_)
        refine aw_skip ?_
        refine K3 _ ?_
        refine yS fun _ K5 => ?_
        refine yR ?_
        try dsimp only [St.put]
        refine aops_s rfl (s_load_agg' rfl rfl rfl) ?_
        refine yE rfl rfl rfl ?_
        refine yE rfl rfl rfl ?_
        refine yE rfl rfl rfl ?_
        try dsimp only [St.put]
        refine aops_e rfl (e_call_f rfl rfl rfl (chartTurn_pureF t x y r hlx hly) zG ?_)
        refine yM rfl rfl ?_
        refine yX rfl rfl rfl rfl ?_
        refine yX rfl rfl rfl rfl ?_
        try dsimp only [St.put]
        refine aops_e rfl (e_allocC rfl ?_)
        try dsimp only [St.put]
        refine aops_e rfl (e_store_all rfl rfl rfl zG rfl rfl (by rfl) ?_)
        refine yA rfl rfl ?_
        refine yN ?_
        dsimp only [St.put]
        refine K5 _ ?_
        refine aw_commitD (i := 12) rfl zG (by first | exact List.cons_ne_nil _ _ | (simp; done) | (simp [putAt]; done)) ?_
        dsimp only
        refine yS fun _ K6 => ?_
        refine yR ?_
        try dsimp only [St.put]
        refine aops_s rfl (s_load_agg' rfl rfl rfl) ?_
        refine yE rfl rfl rfl ?_
        refine yE rfl rfl rfl ?_
        refine yE rfl rfl rfl ?_
        try dsimp only [St.put]
        refine aops_e rfl (e_call_f rfl rfl rfl (chartTurn_pureF t x z r hlx hlz) zG ?_)
        refine yM rfl rfl ?_
        refine yX rfl rfl rfl rfl ?_
        refine yX rfl rfl rfl rfl ?_
        try dsimp only [St.put]
        refine aops_e rfl (e_allocC rfl ?_)
        try dsimp only [St.put]
        refine aops_e rfl (e_store_all rfl rfl rfl zG rfl rfl (by rfl) ?_)
        refine yA rfl rfl ?_
        refine yN ?_
        dsimp only [St.put]
        refine K6 _ ?_
        refine aw_commitD (i := 14) rfl zG (by first | exact List.cons_ne_nil _ _ | (simp; done) | (simp [putAt]; done)) ?_
        dsimp only
        refine yS fun _ K7 => ?_
        refine yS fun _ K8 => ?_
        refine yR ?_
        refine yM rfl rfl ?_
        refine aops_n rfl (n_neq rfl rfl rfl) ?_
        refine yN ?_
        dsimp only [St.put]
        refine K8 _ ?_
        refine aw_cond rfl (fun hc => ?_) (fun hc => ?_)
        · replace hc := nd_t hc
          have hN := chain_no hx hy hz hc
          refine yS fun _ K9 => ?_
          refine yR ?_
          refine yM rfl rfl ?_
          refine yM rfl rfl ?_
          refine yM rfl rfl ?_
          refine aops_n rfl (n_eql rfl rfl rfl) ?_
          refine aops_split (fun hs => ?_) (fun hs => ?_)
          · skip
            refine yM rfl rfl ?_
            refine yK rfl ?_
            refine yK rfl ?_
            refine yK rfl ?_
            refine yK rfl ?_
            refine yK rfl ?_
            refine yK rfl ?_
            refine yK rfl ?_
            refine aops_n rfl (n_pt rfl rfl (by constructor)) ?_
            refine aops_n rfl (n_pt rfl rfl (by constructor)) ?_
            refine yA rfl rfl ?_
            refine yN ?_
            dsimp only [St.put]
            refine K9 _ ?_
            refine aw_ret ?_
            refine ends_1 rfl (by constructor) zN zS ?_
            rfl
          have hs' := of_decide_eq_false hs
          have hN2 := hN.resolve_left hs'
          refine yM rfl rfl ?_
          refine yM rfl rfl ?_
          refine aops_n rfl (n_bool (n_eql rfl rfl rfl) (decide_eq_true (by omega))) ?_
          refine yM rfl rfl ?_
          refine yM rfl rfl ?_
          refine yM rfl rfl ?_
          refine aops_n rfl (n_bool (n_eql rfl rfl rfl) (decide_eq_true (by omega))) ?_
          refine aops_n rfl (n_pt rfl rfl (by constructor)) ?_
          refine aops_n rfl (n_pf rfl rfl (by constructor)) ?_
          refine aops_n rfl (n_pt rfl rfl (by constructor)) ?_
          refine yA rfl rfl ?_
          refine yN ?_
          dsimp only [St.put]
          refine K9 _ ?_
          refine aw_ret ?_
          refine ends_1 rfl (by constructor) zN zS ?_
          rfl
        replace hc := nd_f hc
        obtain ⟨hA, hB, hD⟩ := chain_ok hx hy hz hc
        refine aw_skip ?_
        refine K7 _ ?_
        refine yS fun _ K10 => ?_
        refine yR ?_
        try dsimp only [St.put]
        refine aops_s rfl (s_load_agg' rfl rfl rfl) ?_
        refine yE rfl rfl rfl ?_
        refine yE rfl rfl rfl ?_
        refine yE rfl rfl rfl ?_
        try dsimp only [St.put]
        refine aops_e rfl (e_call_f rfl rfl rfl (chartTurn_pureF t y z (turnV t x y r) hly hlz) zG ?_)
        refine yM rfl rfl ?_
        refine yX rfl rfl rfl rfl ?_
        refine yX rfl rfl rfl rfl ?_
        try dsimp only [St.put]
        refine aops_e rfl (e_allocC rfl ?_)
        try dsimp only [St.put]
        refine aops_e rfl (e_store_all rfl rfl rfl zG rfl rfl (by rfl) ?_)
        refine yA rfl rfl ?_
        refine yN ?_
        dsimp only [St.put]
        rw [hA, hB]
        refine K10 _ ?_
        refine aw_commitD (i := 16) rfl zG (by first | exact List.cons_ne_nil _ _ | (simp; done) | (simp [putAt]; done)) ?_
        dsimp only
        refine yS fun _ K11 => ?_
        refine yR ?_
        refine yM rfl rfl ?_
        refine yM rfl rfl ?_
        refine yM rfl rfl ?_
        refine yM rfl rfl ?_
        refine aops_n rfl (n_bool (n_eql rfl rfl rfl) (decide_eq_true (by omega))) ?_
        refine aops_n rfl (n_pt rfl rfl (by constructor)) ?_
        refine yM rfl rfl ?_
        refine yE rfl rfl rfl ?_
        refine yE rfl rfl rfl ?_
        refine aops_n rfl (n_bool (n_agg_eql rfl rfl rfl) (decide_eq_true (by first | assumption | with_reducible rfl))) ?_
        refine aops_n rfl (n_pt rfl rfl (by constructor)) ?_
        refine yM rfl rfl ?_
        refine yM rfl rfl ?_
        refine aops_n rfl (n_eql rfl rfl rfl) ?_
        refine aops_split (fun hs => ?_) (fun hs => ?_)
        · skip
          refine yM rfl rfl ?_
          refine yK rfl ?_
          refine yK rfl ?_
          refine aops_n rfl (n_pt rfl rfl (by constructor)) ?_
          refine aops_n rfl (n_pt rfl rfl (by constructor)) ?_
          refine yA rfl rfl ?_
          refine yN ?_
          dsimp only [St.put]
          refine K11 _ ?_
          refine aw_ret ?_
          refine ends_1 rfl (by constructor) zN zS ?_
          rfl
        have hs' := of_decide_eq_false hs
        have hD2 := hD.resolve_left hs'
        refine yM rfl rfl ?_
        refine yM rfl rfl ?_
        refine aops_n rfl (n_bool (n_eql rfl rfl rfl) (decide_eq_true (by omega))) ?_
        refine aops_n rfl (n_pf rfl rfl (by constructor)) ?_
        refine aops_n rfl (n_pt rfl rfl (by constructor)) ?_
        refine yA rfl rfl ?_
        refine yN ?_
        dsimp only [St.put]
        refine K11 _ ?_
        refine aw_ret ?_
        refine ends_1 rfl (by constructor) zN zS ?_
        rfl
      skip
      refine aops_n rfl (n_not rfl rfl) ?_
      refine aops_n rfl (n_pf rfl rfl (by constructor)) ?_
      refine yM rfl rfl ?_
      refine yK rfl ?_
      refine yK rfl ?_
      refine aops_n rfl (n_pt rfl rfl (by constructor)) ?_
      refine yN ?_
      dsimp only [St.put]
      refine K4 _ ?_
      refine aw_cond rfl (fun _ => ?_) (fun h => by cases h)
      refine yS fun _ K12 => ?_
      refine yR ?_
      refine yM rfl rfl ?_
      refine yA rfl rfl ?_
      refine yN ?_
      dsimp only [St.put]
      refine K12 _ ?_
      refine aw_ret ?_
      refine ends_1 rfl (by constructor) zN zS ?_
      rfl
    skip
    refine aops_n rfl (n_not rfl rfl) ?_
    refine aops_n rfl (n_pf rfl rfl (by constructor)) ?_
    refine yM rfl rfl ?_
    refine yK rfl ?_
    refine yK rfl ?_
    refine yK rfl ?_
    refine yK rfl ?_
    refine aops_n rfl (n_pt rfl rfl (by constructor)) ?_
    refine yM rfl rfl ?_
    refine yK rfl ?_
    refine yK rfl ?_
    refine aops_n rfl (n_pt rfl rfl (by constructor)) ?_
    refine yN ?_
    dsimp only [St.put]
    refine K4 _ ?_
    refine aw_cond rfl (fun _ => ?_) (fun h => by cases h)
    refine yS fun _ K13 => ?_
    refine yR ?_
    refine yM rfl rfl ?_
    refine yA rfl rfl ?_
    refine yN ?_
    dsimp only [St.put]
    refine K13 _ ?_
    refine aw_ret ?_
    refine ends_1 rfl (by constructor) zN zS ?_
    rfl
  skip
  refine aops_n rfl (n_not rfl rfl) ?_
  refine yM rfl rfl ?_
  refine yK rfl ?_
  refine yK rfl ?_
  refine yK rfl ?_
  refine yK rfl ?_
  refine aops_n rfl (n_pt rfl rfl (by constructor)) ?_
  refine yM rfl rfl ?_
  refine yK rfl ?_
  refine yK rfl ?_
  refine yK rfl ?_
  refine yK rfl ?_
  refine aops_n rfl (n_pt rfl rfl (by constructor)) ?_
  refine yM rfl rfl ?_
  refine yK rfl ?_
  refine yK rfl ?_
  refine aops_n rfl (n_pt rfl rfl (by constructor)) ?_
  refine yN ?_
  dsimp only [St.put]
  refine K4 _ ?_
  refine aw_cond rfl (fun _ => ?_) (fun h => by cases h)
  refine yS fun _ K14 => ?_
  refine yR ?_
  refine yM rfl rfl ?_
  refine yA rfl rfl ?_
  refine yN ?_
  dsimp only [St.put]
  refine K14 _ ?_
  refine aw_ret ?_
  refine ends_1 rfl (by constructor) zN zS ?_
  rfl
end Go.Proofs.YtjjklfgpffgnfaaGreatDoor
