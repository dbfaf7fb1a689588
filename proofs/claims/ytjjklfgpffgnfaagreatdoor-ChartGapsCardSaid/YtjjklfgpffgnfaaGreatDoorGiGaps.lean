/-
  The law ChartGaps: its walk.
-/
import Derived.Test.YtjjklfgpffgnfaaGreatDoorGrpG
import Derived.Test.YtjjklfgpffgnfaaGreatDoorFgNear
namespace Go.AB
open Go Go.RowKit
open Go.AB.Enc (cells)
open Go.PB (Chap TextD PlaceD ReadingD CopyD WayD)
/-- it is of the line of a place -/
def onLn (p q : PlaceD) : Bool := decide (q.ch = p.ch) && decide (q.ln = p.ln)
section
variable {t : TextD} {e : EditionD} {p q : PlaceD}
theorem gapsE_eq (h : soundEr t e = 0) : gapsE t e = gapsP (asOf e.ss) (linesT t) := by
  obtain ⟨h0, _⟩ := soundEr_check h
  obtain ⟨ht, hl, he⟩ := checkEr_text h0
  rw [gaps_same he]
  simp [gapsE, h0]
theorem gaps_mem : q ∈ gapsP (asOf e.ss) (linesT t) ↔ (q.ch, q.ln) ∈ linesT t ∧ asOf e.ss (q.ch, q.ln) = none ∧ q.wd = 0 := by
  unfold gapsP
  constructor
  · intro h
    obtain ⟨x, hx, rfl⟩ := List.mem_map.1 h
    obtain ⟨h1, h2⟩ := List.mem_filter.1 hx
    exact ⟨h1, by simpa using h2, rfl⟩
  rintro ⟨h1, h2, h3⟩
  refine List.mem_map.2 ⟨(q.ch, q.ln), List.mem_filter.2 ⟨h1, by simp [h2]⟩, ?_⟩
  obtain ⟨a, b, c⟩ := q
  dsimp only at h3 ⊢
  rw [h3]
theorem gap_place (h : soundEr t e = 0) (hq : q ∈ gapsE t e) : placeB t q = true ∧ q.wd = 0 := by
  rw [gapsE_eq h] at hq
  obtain ⟨h1, h2, h3⟩ := gaps_mem.1 hq
  obtain ⟨l, hl⟩ := mem_lines.1 h1
  have := words_bd (soundEr_sound h).tx hl
  exact ⟨placeB_true.2 ⟨l, hl, by omega, by omega⟩, h3⟩
theorem gaps_sorted (h : soundEr t e = 0) : (gapsE t e).Pairwise fun a b => cmpL (keyP a) (keyP b) < 0 := by
  rw [gapsE_eq h]
  unfold gapsP
  rw [List.pairwise_map]
  refine List.Pairwise.imp (fun {a b} hab => ?_) ((linesT_sorted t).filter _)
  rw [keyP, keyP, lt3]
  rcases hab with h1 | ⟨h1, h2⟩
  · exact .inl h1
  exact .inr ⟨h1, .inl h2⟩
theorem gaps_before (h : soundEr t e = 0) {k : Nat} {a b : PlaceD} (ha : (gapsE t e)[k - 1]? = some a) (hb : (gapsE t e)[k]? = some b) (hk : 0 < k) : cmpL (keyP a) (keyP b) < 0 := by
  obtain ⟨h1, h2⟩ := List.getElem?_eq_some_iff.1 ha
  obtain ⟨h3, h4⟩ := List.getElem?_eq_some_iff.1 hb
  have := List.pairwise_iff_getElem.1 (gaps_sorted h) (k - 1) k h1 h3 (by omega)
  rwa [h2, h4] at this
theorem gaps_any (h : soundEr t e = 0) (hp : placeB t p = true) : (gapsE t e).any (onLn p) = true ↔ asOf e.ss (p.ch, p.ln) = none := by
  rw [gapsE_eq h, List.any_eq_true]
  constructor
  · rintro ⟨q, hq, ho⟩
    obtain ⟨_, h2, _⟩ := gaps_mem.1 hq
    simp only [onLn, Bool.and_eq_true, decide_eq_true_eq] at ho
    rw [ho.1, ho.2] at h2
    exact h2
  intro h0
  obtain ⟨l, hl, _⟩ := placeB_true.1 hp
  exact ⟨⟨p.ch, p.ln, 0⟩, gaps_mem.2 ⟨mem_lines.2 ⟨l, hl⟩, h0, rfl⟩, by simp [onLn]⟩
theorem refer_six (h : soundEr t e = 0) (hp : placeB t p = true) : referEr t e p = 6 ↔ asOf e.ss (p.ch, p.ln) = none := by
  by_cases h0 : referEr t e p = 0
  · obtain ⟨v, hv, _⟩ := refer_some h hp h0
    rw [h0, hv]; simp
  obtain ⟨h1, h2, _⟩ := refer_none h hp h0
  simp [h1, h2]
theorem has_none {ss : List StretchD} {x : L2} : asOf ss x = none ↔ (ss.all fun s => !hasB s x) = true := by
  simp [asOf, List.find?_eq_none]
theorem has_some (h : soundEr t e = 0) (hp : placeB t p = true) {s : StretchD} (hs : s ∈ e.ss) (hb : hasB s (p.ch, p.ln) = true) : referEr t e p = 0 ∧ referV t e p = ⟨s.au, s.fi + p.ln - s.fr, p.wd + 1⟩ := by
  have hv := (asOf_iff (soundEr_check h).2).2 ⟨s, hs, hb, rfl⟩
  obtain ⟨h1, h2⟩ := referEr_eq h hp hv
  refine ⟨h1, h2.trans ?_⟩
  simp only [toE, RefD.mk.injEq, true_and, and_true]
  omega
end
end Go.AB
namespace Go.Proofs.YtjjklfgpffgnfaaGreatDoor
set_option maxRecDepth 10000
open Go.RowKit Go.AB
open Go.AB.Enc (cells)
open Go.PB (Chap TextD PlaceD ReadingD CopyD WayD)
theorem Before_true {a b : PlaceD} (h : cmpL (keyP a) (keyP b) < 0) : Pure Tryz.prog 20 [val a, val b] (.v (.bool true)) := by
  have := Before_pure a b
  rwa [decide_eq_true h] at this
set_option maxHeartbeats 4000000 in
theorem gaps_pureF (t : TextD) (e : EditionD) (a b c : Int) : PureF chkF Tryz.prog 4 [textC t, val e, .v (.int .u8 a), .v (.int .u8 b), .v (.int .u8 c)] (.v (.bool true)) := by
  refine pureF_of_body Tryz.func4 rfl (fun m => .v) fun G nx hF => ?_
  simp only [Tryz.ntmps4, List.length_cons, List.length_nil, Nat.reduceAdd, Nat.reduceSub]
  refine aw_lt fun hlt => ?_
  dsimp only at hlt
  have hnx := hlt 0 _ hF
  refine aw_fit 2 (fun hfa => ?_)
  refine aw_fit 3 (fun hfb => ?_)
  refine aw_fit 4 (fun hfc => ?_)
  replace hfa := u8_fit hfa
  replace hfb := u8_fit hfb
  replace hfc := u8_fit hfc
  refine yS fun _ K1 => ?_
  refine yR ?_
  try dsimp only [St.put]
  refine yB rfl rfl rfl ?_
  try dsimp only [St.put]
  refine yB rfl rfl rfl ?_
  refine yA rfl rfl ?_
  refine yN ?_
  dsimp only [St.put]
  refine K1 _ ?_
  refine yS fun _ K2 => ?_
  refine yR ?_
  try dsimp only [St.put]
  refine aops_e rfl (e_call_f rfl rfl rfl (alive_pureF) zG ?_)
  refine yA rfl rfl ?_
  refine yN ?_
  dsimp only [St.put]
  refine K2 _ ?_
  refine yS fun _ K3 => ?_
  refine yS fun _ K4 => ?_
  refine yR ?_
  try dsimp only [St.put]
  refine aops_s rfl (s_load_agg' rfl rfl rfl) ?_
  refine yE rfl rfl rfl ?_
  try dsimp only [St.put]
  refine aops_e rfl (e_call_pure rfl rfl rfl (lawReady_pure t e) ?_)
  refine aops_split (fun hs => ?_) (fun hs => ?_)
  · obtain ⟨⟨hle, hgt⟩, h0⟩ := readyB_true.1 hs
    have hS := soundEr_sound h0
    refine aops_n rfl (n_not rfl rfl) ?_
    refine yM rfl rfl ?_
    refine yM rfl rfl ?_
    refine aops_n rfl (n_not rfl rfl) ?_
    refine aops_n rfl (n_pf rfl rfl (by constructor)) ?_
    refine yN ?_
    dsimp only [St.put]
    refine K4 _ ?_
    refine aw_cond rfl (fun h => by cases h) (fun _ => ?_)
    refine aw_skip ?_
    refine K3 _ ?_
    refine yS fun _ K5 => ?_
    refine yR ?_
    try dsimp only [St.put]
    refine aops_s rfl (s_load_agg' rfl rfl rfl) ?_
    refine yE rfl rfl rfl ?_
    try dsimp only [St.put]
    refine aops_e rfl (e_call_f rfl rfl rfl (chartGaps_pureF t e hle) zG ?_)
    refine yM rfl rfl ?_
    refine yX rfl rfl rfl rfl ?_
    refine yX rfl rfl rfl rfl ?_
    refine yA rfl rfl ?_
    refine yA rfl rfl ?_
    refine yN ?_
    dsimp only [St.put]
    rw [(soundEr_check h0).1]
    obtain ⟨L, hL⟩ : ∃ L, gapsE t e = L := ⟨_, rfl⟩
    have hLl : L.length ≤ 60 := by rw [← hL, gapsE_eq h0]; exact Nat.le_trans (gapsP_len _ _) (linesT_len hS.tx)
    rw [hL]
    refine K5 _ ?_
    refine yS fun _ K6 => ?_
    refine yR ?_
    try dsimp only [St.put]
    refine aops_s rfl (s_load_agg' rfl rfl rfl) ?_
    refine yM rfl rfl ?_
    refine yM rfl rfl ?_
    refine yM rfl rfl ?_
    try dsimp only [St.put]
    refine aops_e rfl (e_call_pure rfl rfl rfl (lawPick_pure t a b c hS.tx hfa hfb hfc) ?_)
    try dsimp only [St.put]
    refine aops_e rfl (e_allocC rfl ?_)
    try dsimp only [St.put]
    refine aops_e rfl (e_store_all rfl rfl rfl zG rfl rfl (by rfl) ?_)
    refine yN ?_
    dsimp only [St.put]
    obtain ⟨p, hpp⟩ : ∃ p, pickP t a b c = p := ⟨_, rfl⟩
    have hp : placeB t p = true := hpp ▸ pick_place hS.tx hfa.1 hfb.1 hfc.1
    rw [hpp]
    have hpb := place_bd hS.tx hp
    refine K6 _ ?_
    refine aw_commitD (i := 14) rfl zG (by first | exact List.cons_ne_nil _ _ | (simp; done) | (simp [putAt]; done)) ?_
    dsimp only
    refine yS fun _ K7 => ?_
    refine yR ?_
    try dsimp only [St.put]
    refine aops_s rfl (s_load_agg' rfl rfl rfl) ?_
    refine yE rfl rfl rfl ?_
    refine yE rfl rfl rfl ?_
    try dsimp only [St.put]
    refine aops_e rfl (e_call_f rfl rfl rfl (chartRefer_pureF t e p hle) zG ?_)
    refine yM rfl rfl ?_
    refine yX rfl rfl rfl rfl ?_
    refine yX rfl rfl rfl rfl ?_
    try dsimp only [St.put]
    refine aops_e rfl (e_allocC rfl ?_)
    try dsimp only [St.put]
    refine aops_e rfl (e_store_all rfl rfl rfl zG rfl rfl (by rfl) ?_)
    refine yA rfl rfl ?_
    refine yN ?_
    dsimp only [St.put]
    refine K7 _ ?_
    refine aw_commitD (i := 15) rfl zG (by first | exact List.cons_ne_nil _ _ | (simp; done) | (simp [putAt]; done)) ?_
    dsimp only
    refine yS fun _ K8 => ?_
    refine yS fun _ K9 => ?_
    refine yR ?_
    refine yM rfl rfl ?_
    refine aops_n rfl (n_bool (n_neq rfl rfl rfl) (not_dec_f (by omega))) ?_
    refine yN ?_
    dsimp only [St.put]
    refine K9 _ ?_
    refine aw_cond rfl (fun h => by cases h) (fun _ => ?_)
    refine aw_skip ?_
    refine K8 _ ?_
    refine yS fun _ K10 => ?_
    refine yR ?_
    refine yA rfl rfl ?_
    refine yN ?_
    dsimp only [St.put]
    refine K10 _ ?_
    refine yS fun _ K11 => ?_
    refine yS fun _ K12 => ?_
    refine yR ?_
    refine yM rfl rfl ?_
    refine aops_n rfl (n_len' rfl rfl (List.length_map _)) ?_
    refine yM rfl rfl ?_
    refine yN ?_
    dsimp only [St.put]
    refine K12 _ ?_
    refine aw_block ?_
    refine aw_wipe 58 ?_
    simp only [firsts, getA, Nat.reduceAdd, List.getD_cons_zero, List.getD_cons_succ, List.getD_nil, natBeq, Nat.reduceBEq, cond_true, cond_false]
    refine aw_forget (G) zX ?_
    dsimp only
    refine aw_loopD (X := Nat × Bool) (fun x => x.1 ≤ L.length ∧ x.2 = (L.take x.1).any (onLn p)) (fun x => L.length - x.1) (fun x => [(17, .v (.bool x.2)), (18, .any), (19, .any), (20, .any), (21, .any), (57, .v (.int .i64 (x.1 : Int)))]) (fun x G' => G') (0, false) rfl ?_ ?_ (fun _ _ h => h) ?_ ?_ ?_
    · exact ⟨Nat.zero_le _, rfl⟩
    · exact zF
    · rintro ⟨k, g⟩ hI
      exact zL
    · exact fun _ _ _ _ h => .inl h
    rintro ⟨k, g⟩ hI
    dsimp only at hI ⊢
    refine yS fun _ K13 => ?_
    refine yR ?_
    refine aops_n rfl (n_lss rfl rfl rfl) ?_
    refine yN ?_
    dsimp only [St.put]
    refine K13 _ ?_
    refine yS fun _ K14 => ?_
    refine aw_cond rfl (fun hc => ?_) (fun hc => ?_)
    · replace hc := of_decide_eq_true hc
      obtain ⟨q, hq⟩ : ∃ x, L[k]? = some x := some_of_lt (by omega)
      obtain ⟨hqp, hqw⟩ := gap_place h0 (hL ▸ mem_of_get hq : q ∈ gapsE t e)
      have hq0 := placed_ok hS.tx hqp
      refine aw_skip ?_
      refine K14 _ ?_
      refine yS fun _ K15 => ?_
      refine aw_block ?_
      refine yS fun _ K16 => ?_
      refine yR ?_
      refine yM rfl rfl ?_
      refine aops_n rfl (n_indexAddr rfl rfl rfl rfl (map_get (by assumption)) (Enc.len _)) ?_
      refine yE rfl rfl rfl ?_
      try dsimp only [St.put]
      refine aops_e rfl (e_allocC rfl ?_)
      refine yA rfl rfl ?_
      try dsimp only [St.put]
      refine aops_e rfl (e_store_all rfl rfl rfl zG rfl rfl (by rfl) ?_)
      refine yN ?_
      dsimp only [St.put]
      refine K16 _ ?_
      refine aw_commitD (i := 19) rfl zG (by first | exact List.cons_ne_nil _ _ | (simp; done) | (simp [putAt]; done)) ?_
      dsimp only
      refine yS fun _ K17 => ?_
      refine yR ?_
      try dsimp only [St.put]
      refine aops_s rfl (s_load_agg' rfl rfl rfl) ?_
      refine yE rfl rfl rfl ?_
      try dsimp only [St.put]
      refine aops_e rfl (e_call_pure rfl rfl rfl (leafAt_pure t q) ?_)
      refine yM rfl rfl ?_
      refine yX rfl rfl rfl rfl ?_
      refine yX rfl rfl rfl rfl ?_
      refine yA rfl rfl ?_
      refine yA rfl rfl ?_
      refine yN ?_
      dsimp only [St.put]
      rw [hq0]
      refine K17 _ ?_
      refine yS fun _ K18 => ?_
      refine yS fun _ K19 => ?_
      refine aw_draw [(0, none), (1, none), (2, none), (3, none), (4, none), (5, none), (6, none), (7, none), (8, none), (9, none), (10, none), (11, none), (12, none), (13, none), (14, none), (15, none), (16, none), (17, none), (18, none), (19, none), (20, none)] (fun i => [17].contains i) (fun i => [17].contains i) (fun i => [0, 1, 2, 3, 5, 6, 7, 8, 9, 10, 11, 12, 13, 14, 18, 19, 20].contains i) [] (by kernel_rfl) (by kernel_rfl) ?_
      refine xM rfl rfl rfl rfl rfl ?_
      refine acan1_n rfl rfl rfl rfl (n_bool (n_neq rfl rfl rfl) (not_dec_f (by omega))) ?_
      refine xM rfl rfl rfl rfl rfl ?_
      refine acan1_n rfl rfl rfl rfl (n_fieldAddr' rfl rfl rfl) ?_
      try dsimp only [St.put]
      refine acan1_s rfl rfl rfl rfl (s_load rfl rfl) ?_
      refine acan1_n rfl rfl rfl rfl (n_bool (n_neq rfl rfl rfl) (not_dec_f (by omega))) ?_
      refine acan1_n rfl rfl rfl rfl (n_pf rfl rfl (by constructor)) ?_
      refine xM rfl rfl rfl rfl rfl ?_
      refine xM rfl rfl rfl rfl rfl ?_
      refine acan1_n rfl rfl rfl rfl (n_gtr rfl rfl rfl) ?_
      refine acan1_split (fun hs => ?_) (fun hs => ?_)
      · have hk0 : 0 < k := by have := of_decide_eq_true hs; omega
        obtain ⟨q1, hq1⟩ : ∃ x, L[k - 1]? = some x := some_of_lt (by omega)
        have hlq := gaps_before h0 (by rw [hL]; exact hq1) (by rw [hL]; exact hq) hk0
        refine xM rfl rfl rfl rfl rfl ?_
        refine xM rfl rfl rfl rfl rfl ?_
        refine xM rfl rfl rfl rfl rfl ?_
        refine acan1_n rfl rfl rfl rfl (n_sub rfl rfl rfl (by omega)) ?_
        try dsimp only [St.put]
        refine acan1_n rfl rfl rfl rfl ((n_indexAddr (k := k - 1) rfl rfl rfl (by omega) (map_get hq1) (Enc.len _))) ?_
        try dsimp only [St.put]
        refine acan1_s rfl rfl rfl rfl (s_load_agg' rfl rfl (Enc.len _)) ?_
        try dsimp only [St.put]
        refine acan1_s rfl rfl rfl rfl (s_load_agg' rfl rfl (Enc.len _)) ?_
        refine acan1_two ?_
        try dsimp only [St.put]
        refine acan2_late rfl rfl rfl rfl (e_call_pure rfl rfl rfl (Before_true hlq) ?_)
        refine acan2_n rfl rfl rfl rfl (n_not rfl rfl) ?_
        refine acan2_n rfl rfl rfl rfl (n_pt rfl rfl (by constructor)) ?_
        refine acan2_n rfl rfl rfl rfl (n_pf rfl rfl (by constructor)) ?_
        refine acan2_nil ?_
        dsimp only [St.put]
        refine K19 _ ?_
        refine aw_cond rfl (fun h => by cases h) (fun _ => ?_)
        refine aw_skip ?_
        refine K18 _ ?_
        refine yR ?_
        refine yM rfl rfl ?_
        refine aops_split (fun hs => ?_) (fun hs => ?_)
        · have hg : g = true := hs
          have hA : true = (L.take (k + 1)).any (onLn p) := by rw [any_take hq, ← hI.2, hg]; rfl
          refine yM rfl rfl ?_
          refine yK rfl ?_
          refine yK rfl ?_
          refine yK rfl ?_
          refine yK rfl ?_
          refine yK rfl ?_
          refine yK rfl ?_
          refine yK rfl ?_
          refine yK rfl ?_
          refine yK rfl ?_
          refine yK rfl ?_
          refine yK rfl ?_
          refine yK rfl ?_
          refine aops_n rfl (n_pt rfl rfl (by constructor)) ?_
          refine yA rfl rfl ?_
          refine yN ?_
          dsimp only [St.put]
          refine K15 _ ?_
          refine yR ?_
          refine aops_n rfl (n_add rfl rfl rfl (by omega)) ?_
          refine yM rfl rfl ?_
          refine yN ?_
          dsimp only [St.put]
          first
            | exact ⟨(k + 1, true), by (dsimp only; omega), ⟨by (dsimp only; omega), hA⟩, ⟨⟨rfl, rfl⟩, zF, zB, zN, zX⟩⟩
            | exact ⟨(k + 1, false), by (dsimp only; omega), ⟨by (dsimp only; omega), hA⟩, ⟨⟨rfl, rfl⟩, zF, zB, zN, zX⟩⟩
        have hg : g = false := hs
        refine yM rfl rfl ?_
        refine yF rfl rfl rfl rfl ?_
        refine yL rfl rfl rfl ?_
        refine yF rfl rfl rfl rfl ?_
        refine yL rfl rfl rfl ?_
        refine aops_n rfl (n_eql rfl rfl rfl) ?_
        refine aops_split (fun hs => ?_) (fun hs => ?_)
        · have hg1 := of_decide_eq_true hs
          refine yM rfl rfl ?_
          refine yF rfl rfl rfl rfl ?_
          refine yL rfl rfl rfl ?_
          refine yF rfl rfl rfl rfl ?_
          refine yL rfl rfl rfl ?_
          refine aops_n rfl (n_eql rfl rfl rfl) ?_
          refine aops_split (fun hs => ?_) (fun hs => ?_)
          · have hg2 := of_decide_eq_true hs
            have hA : true = (L.take (k + 1)).any (onLn p) := by rw [any_take hq, ← hI.2, hg]; simp [onLn, hg1, hg2]
            refine aops_n rfl (n_pt rfl rfl (by constructor)) ?_
            refine aops_n rfl (n_pf rfl rfl (by constructor)) ?_
            refine yA rfl rfl ?_
            refine yN ?_
            dsimp only [St.put]
            refine K15 _ ?_
            refine yR ?_
            refine aops_n rfl (n_add rfl rfl rfl (by omega)) ?_
            refine yM rfl rfl ?_
            refine yN ?_
            dsimp only [St.put]
            first
              | exact ⟨(k + 1, true), by (dsimp only; omega), ⟨by (dsimp only; omega), hA⟩, ⟨⟨rfl, rfl⟩, zF, zB, zN, zX⟩⟩
              | exact ⟨(k + 1, false), by (dsimp only; omega), ⟨by (dsimp only; omega), hA⟩, ⟨⟨rfl, rfl⟩, zF, zB, zN, zX⟩⟩
          have hg2 := of_decide_eq_false hs
          have hA : false = (L.take (k + 1)).any (onLn p) := by rw [any_take hq, ← hI.2, hg]; simp [onLn, hg2]
          refine aops_n rfl (n_pt rfl rfl (by constructor)) ?_
          refine aops_n rfl (n_pf rfl rfl (by constructor)) ?_
          refine yA rfl rfl ?_
          refine yN ?_
          dsimp only [St.put]
          refine K15 _ ?_
          refine yR ?_
          refine aops_n rfl (n_add rfl rfl rfl (by omega)) ?_
          refine yM rfl rfl ?_
          refine yN ?_
          dsimp only [St.put]
          first
            | exact ⟨(k + 1, true), by (dsimp only; omega), ⟨by (dsimp only; omega), hA⟩, ⟨⟨rfl, rfl⟩, zF, zB, zN, zX⟩⟩
            | exact ⟨(k + 1, false), by (dsimp only; omega), ⟨by (dsimp only; omega), hA⟩, ⟨⟨rfl, rfl⟩, zF, zB, zN, zX⟩⟩
        have hg1 := of_decide_eq_false hs
        have hA : false = (L.take (k + 1)).any (onLn p) := by rw [any_take hq, ← hI.2, hg]; simp [onLn, hg1]
        refine yM rfl rfl ?_
        refine yK rfl ?_
        refine yK rfl ?_
        refine yK rfl ?_
        refine yK rfl ?_
        refine yK rfl ?_
        refine aops_n rfl (n_pf rfl rfl (by constructor)) ?_
        refine aops_n rfl (n_pf rfl rfl (by constructor)) ?_
        refine yA rfl rfl ?_
        refine yN ?_
        dsimp only [St.put]
        refine K15 _ ?_
        refine yR ?_
        refine aops_n rfl (n_add rfl rfl rfl (by omega)) ?_
        refine yM rfl rfl ?_
        refine yN ?_
        dsimp only [St.put]
        first
          | exact ⟨(k + 1, true), by (dsimp only; omega), ⟨by (dsimp only; omega), hA⟩, ⟨⟨rfl, rfl⟩, zF, zB, zN, zX⟩⟩
          | exact ⟨(k + 1, false), by (dsimp only; omega), ⟨by (dsimp only; omega), hA⟩, ⟨⟨rfl, rfl⟩, zF, zB, zN, zX⟩⟩
      skip
      refine xM rfl rfl rfl rfl rfl ?_
      refine acan1_skip rfl rfl rfl ?_
      refine acan1_skip rfl rfl rfl ?_
      refine acan1_skip rfl rfl rfl ?_
      refine acan1_skip rfl rfl rfl ?_
      refine acan1_skip rfl rfl rfl ?_
      refine acan1_skip rfl rfl rfl ?_
      refine acan1_two ?_
      refine acan2_skipE rfl rfl rfl ?_
      refine acan2_skip rfl rfl rfl ?_
      refine acan2_n rfl rfl rfl rfl (n_pf rfl rfl (by constructor)) ?_
      refine acan2_n rfl rfl rfl rfl (n_pf rfl rfl (by constructor)) ?_
      refine acan2_nil ?_
      dsimp only [St.put]
      refine K19 _ ?_
      refine aw_cond rfl (fun h => by cases h) (fun _ => ?_)
      refine aw_skip ?_
      refine K18 _ ?_
      refine yR ?_
      refine yM rfl rfl ?_
      refine aops_split (fun hs => ?_) (fun hs => ?_)
      · have hg : g = true := hs
        have hA : true = (L.take (k + 1)).any (onLn p) := by rw [any_take hq, ← hI.2, hg]; rfl
        refine yM rfl rfl ?_
        refine yK rfl ?_
        refine yK rfl ?_
        refine yK rfl ?_
        refine yK rfl ?_
        refine yK rfl ?_
        refine yK rfl ?_
        refine yK rfl ?_
        refine yK rfl ?_
        refine yK rfl ?_
        refine yK rfl ?_
        refine yK rfl ?_
        refine yK rfl ?_
        refine aops_n rfl (n_pt rfl rfl (by constructor)) ?_
        refine yA rfl rfl ?_
        refine yN ?_
        dsimp only [St.put]
        refine K15 _ ?_
        refine yR ?_
        refine aops_n rfl (n_add rfl rfl rfl (by omega)) ?_
        refine yM rfl rfl ?_
        refine yN ?_
        dsimp only [St.put]
        first
          | exact ⟨(k + 1, true), by (dsimp only; omega), ⟨by (dsimp only; omega), hA⟩, ⟨⟨rfl, rfl⟩, zF, zB, zN, zX⟩⟩
          | exact ⟨(k + 1, false), by (dsimp only; omega), ⟨by (dsimp only; omega), hA⟩, ⟨⟨rfl, rfl⟩, zF, zB, zN, zX⟩⟩
      have hg : g = false := hs
      refine yM rfl rfl ?_
      refine yF rfl rfl rfl rfl ?_
      refine yL rfl rfl rfl ?_
      refine yF rfl rfl rfl rfl ?_
      refine yL rfl rfl rfl ?_
      refine aops_n rfl (n_eql rfl rfl rfl) ?_
      refine aops_split (fun hs => ?_) (fun hs => ?_)
      · have hg1 := of_decide_eq_true hs
        refine yM rfl rfl ?_
        refine yF rfl rfl rfl rfl ?_
        refine yL rfl rfl rfl ?_
        refine yF rfl rfl rfl rfl ?_
        refine yL rfl rfl rfl ?_
        refine aops_n rfl (n_eql rfl rfl rfl) ?_
        refine aops_split (fun hs => ?_) (fun hs => ?_)
        · have hg2 := of_decide_eq_true hs
          have hA : true = (L.take (k + 1)).any (onLn p) := by rw [any_take hq, ← hI.2, hg]; simp [onLn, hg1, hg2]
          refine aops_n rfl (n_pt rfl rfl (by constructor)) ?_
          refine aops_n rfl (n_pf rfl rfl (by constructor)) ?_
          refine yA rfl rfl ?_
          refine yN ?_
          dsimp only [St.put]
          refine K15 _ ?_
          refine yR ?_
          refine aops_n rfl (n_add rfl rfl rfl (by omega)) ?_
          refine yM rfl rfl ?_
          refine yN ?_
          dsimp only [St.put]
          first
            | exact ⟨(k + 1, true), by (dsimp only; omega), ⟨by (dsimp only; omega), hA⟩, ⟨⟨rfl, rfl⟩, zF, zB, zN, zX⟩⟩
            | exact ⟨(k + 1, false), by (dsimp only; omega), ⟨by (dsimp only; omega), hA⟩, ⟨⟨rfl, rfl⟩, zF, zB, zN, zX⟩⟩
        have hg2 := of_decide_eq_false hs
        have hA : false = (L.take (k + 1)).any (onLn p) := by rw [any_take hq, ← hI.2, hg]; simp [onLn, hg2]
        refine aops_n rfl (n_pt rfl rfl (by constructor)) ?_
        refine aops_n rfl (n_pf rfl rfl (by constructor)) ?_
        refine yA rfl rfl ?_
        refine yN ?_
        dsimp only [St.put]
        refine K15 _ ?_
        refine yR ?_
        refine aops_n rfl (n_add rfl rfl rfl (by omega)) ?_
        refine yM rfl rfl ?_
        refine yN ?_
        dsimp only [St.put]
        first
          | exact ⟨(k + 1, true), by (dsimp only; omega), ⟨by (dsimp only; omega), hA⟩, ⟨⟨rfl, rfl⟩, zF, zB, zN, zX⟩⟩
          | exact ⟨(k + 1, false), by (dsimp only; omega), ⟨by (dsimp only; omega), hA⟩, ⟨⟨rfl, rfl⟩, zF, zB, zN, zX⟩⟩
      have hg1 := of_decide_eq_false hs
      have hA : false = (L.take (k + 1)).any (onLn p) := by rw [any_take hq, ← hI.2, hg]; simp [onLn, hg1]
      refine yM rfl rfl ?_
      refine yK rfl ?_
      refine yK rfl ?_
      refine yK rfl ?_
      refine yK rfl ?_
      refine yK rfl ?_
      refine aops_n rfl (n_pf rfl rfl (by constructor)) ?_
      refine aops_n rfl (n_pf rfl rfl (by constructor)) ?_
      refine yA rfl rfl ?_
      refine yN ?_
      dsimp only [St.put]
      refine K15 _ ?_
      refine yR ?_
      refine aops_n rfl (n_add rfl rfl rfl (by omega)) ?_
      refine yM rfl rfl ?_
      refine yN ?_
      dsimp only [St.put]
      first
        | exact ⟨(k + 1, true), by (dsimp only; omega), ⟨by (dsimp only; omega), hA⟩, ⟨⟨rfl, rfl⟩, zF, zB, zN, zX⟩⟩
        | exact ⟨(k + 1, false), by (dsimp only; omega), ⟨by (dsimp only; omega), hA⟩, ⟨⟨rfl, rfl⟩, zF, zB, zN, zX⟩⟩
    replace hc := of_decide_eq_false hc
    have hgA : g = true ↔ asOf e.ss (p.ch, p.ln) = none := by
      rw [← gaps_any h0 hp, hL, hI.2, take_all (show L.length ≤ k by omega)]
    refine aw_exit ?_
    refine K11 _ ?_
    refine yS fun _ K20 => ?_
    refine yR ?_
    refine yA rfl rfl ?_
    refine yN ?_
    dsimp only [St.put]
    refine K20 _ ?_
    refine yS fun _ K21 => ?_
    refine yS fun _ K22 => ?_
    refine yR ?_
    refine yF rfl rfl rfl rfl ?_
    refine yL rfl rfl rfl ?_
    refine aops_n rfl (n_len' rfl rfl (List.length_map _)) ?_
    refine yM rfl rfl ?_
    refine yN ?_
    dsimp only [St.put]
    refine K22 _ ?_
    refine aw_block ?_
    refine aw_wipe 109 ?_
    simp only [firsts, getA, Nat.reduceAdd, List.getD_cons_zero, List.getD_cons_succ, List.getD_nil, natBeq, Nat.reduceBEq, cond_true, cond_false]
    refine aw_forget (G) zX ?_
    dsimp only
    refine aw_loopD (X := Nat × Nat) (fun x => x.1 ≤ e.ss.length ∧ x.2 ≤ x.1 ∧ (x.2 = 0 ↔ ((e.ss.take x.1).all fun s => !hasB s (p.ch, p.ln)) = true)) (fun x => e.ss.length - x.1) (fun x => [(22, .v (.int .i64 (x.2 : Int))), (23, .any), (24, .any), (108, .v (.int .i64 (x.1 : Int)))]) (fun x G' => G') (0, 0) rfl ?_ ?_ (fun _ _ h => h) ?_ ?_ ?_
    · exact ⟨Nat.zero_le _, Nat.le_refl _, by simp⟩
    · exact zF
    · rintro ⟨j, m⟩ hI
      exact zL
    · exact fun _ _ _ _ h => .inl h
    rintro ⟨j, m⟩ hJ
    dsimp only at hJ ⊢
    refine yS fun _ K23 => ?_
    refine yR ?_
    refine aops_n rfl (n_lss rfl rfl rfl) ?_
    refine yN ?_
    dsimp only [St.put]
    refine K23 _ ?_
    refine yS fun _ K24 => ?_
    refine aw_cond rfl (fun hc => ?_) (fun hc => ?_)
    · replace hc := of_decide_eq_true hc
      obtain ⟨s, hs1⟩ : ∃ x, e.ss[j]? = some x := some_of_lt (by omega)
      obtain ⟨o1, o2, o3, o4, o5, o6⟩ := id (hS.ok s (mem_of_get hs1))
      refine aw_skip ?_
      refine K24 _ ?_
      refine yS fun _ K25 => ?_
      refine aw_block ?_
      refine yS fun _ K26 => ?_
      refine yR ?_
      refine aops_n rfl (n_indexAddr rfl rfl rfl rfl (map_get (by assumption)) (Enc.len _)) ?_
      refine yE rfl rfl rfl ?_
      try dsimp only [St.put]
      refine aops_e rfl (e_allocC rfl ?_)
      try dsimp only [St.put]
      refine aops_e rfl (e_store_all rfl rfl rfl zG rfl rfl (by rfl) ?_)
      refine yN ?_
      dsimp only [St.put]
      refine K26 _ ?_
      refine aw_commitD (i := 24) rfl zG (by first | exact List.cons_ne_nil _ _ | (simp; done) | (simp [putAt]; done)) ?_
      dsimp only
      refine yS fun _ K27 => ?_
      refine yR ?_
      refine yF rfl rfl rfl rfl ?_
      refine yL rfl rfl rfl ?_
      refine yF rfl rfl rfl rfl ?_
      refine yL rfl rfl rfl ?_
      refine aops_n rfl (n_eql rfl rfl rfl) ?_
      refine aops_split (fun hs => ?_) (fun hs => ?_)
      · have q1 := of_decide_eq_true hs
        refine yM rfl rfl ?_
        refine yF rfl rfl rfl rfl ?_
        refine yL rfl rfl rfl ?_
        refine yF rfl rfl rfl rfl ?_
        refine yL rfl rfl rfl ?_
        refine aops_n rfl (n_geq rfl rfl rfl) ?_
        refine aops_split (fun hs => ?_) (fun hs => ?_)
        · have q2 := of_decide_eq_true hs
          refine aops_n rfl (n_pt rfl rfl (by constructor)) ?_
          refine yM rfl rfl ?_
          refine yF rfl rfl rfl rfl ?_
          refine yL rfl rfl rfl ?_
          refine yF rfl rfl rfl rfl ?_
          refine yL rfl rfl rfl ?_
          refine aops_n rfl (n_lss rfl rfl rfl) ?_
          refine aops_split (fun hs => ?_) (fun hs => ?_)
          · have q3 := of_decide_eq_true hs
            refine aops_n rfl (n_pt rfl rfl (by constructor)) ?_
            refine yN ?_
            dsimp only [St.put]
            refine K27 _ ?_
            refine aw_cond rfl (fun _ => ?_) (fun h => by cases h)
            have hh : hasB s (p.ch, p.ln) = true := by rw [hasB_true]; dsimp only; omega
            obtain ⟨hE, hV⟩ := has_some h0 hp (mem_of_get hs1) hh
            have hN : m + 1 = 0 ↔ ((e.ss.take (j + 1)).all fun s => !hasB s (p.ch, p.ln)) = true := by rw [all_take hs1, hh]; simp
            refine yS fun _ K28 => ?_
            refine yR ?_
            refine yM rfl rfl ?_
            refine aops_n rfl (n_add rfl rfl rfl (by omega)) ?_
            refine yA rfl rfl ?_
            refine yN ?_
            dsimp only [St.put]
            refine K28 _ ?_
            refine yS fun _ K29 => ?_
            refine aw_draw [(0, none), (1, none), (2, none), (3, none), (4, none), (5, none), (6, none), (7, none), (8, none), (9, none), (10, none), (11, none), (12, none), (13, none), (14, none), (15, none), (16, none), (17, none), (18, none), (19, none)] (fun i => [].contains i) (fun i => [17].contains i) (fun i => [0, 1, 2, 4, 6, 8, 10, 11, 13, 14, 16, 18, 19].contains i) [] (by kernel_rfl) (by kernel_rfl) ?_
            refine xM rfl rfl rfl rfl rfl ?_
            refine acan1_n rfl rfl rfl rfl ((n_bool (c := false) (n_neq rfl rfl rfl) (not_dec_f hE))) ?_
            refine xM rfl rfl rfl rfl rfl ?_
            try dsimp only [St.put]
            refine acan1_s rfl rfl rfl rfl (s_load_agg' rfl rfl (Enc.len _)) ?_
            refine acan1_n rfl rfl rfl rfl (n_fieldAddr' rfl rfl rfl) ?_
            try dsimp only [St.put]
            refine acan1_s rfl rfl rfl rfl (s_load rfl rfl) ?_
            refine acan1_n rfl rfl rfl rfl (n_fieldAddr' rfl rfl rfl) ?_
            try dsimp only [St.put]
            refine acan1_s rfl rfl rfl rfl (s_load rfl rfl) ?_
            refine acan1_n rfl rfl rfl rfl (n_fieldAddr' rfl rfl rfl) ?_
            try dsimp only [St.put]
            refine acan1_s rfl rfl rfl rfl (s_load rfl rfl) ?_
            refine acan1_n rfl rfl rfl rfl (n_add rfl rfl rfl (by omega)) ?_
            refine acan1_n rfl rfl rfl rfl (n_fieldAddr' rfl rfl rfl) ?_
            try dsimp only [St.put]
            refine acan1_s rfl rfl rfl rfl (s_load rfl rfl) ?_
            refine acan1_n rfl rfl rfl rfl (n_sub rfl rfl rfl (by omega)) ?_
            refine acan1_n rfl rfl rfl rfl (n_fieldAddr' rfl rfl rfl) ?_
            try dsimp only [St.put]
            refine acan1_s rfl rfl rfl rfl (s_load rfl rfl) ?_
            refine acan1_n rfl rfl rfl rfl (n_add rfl rfl rfl (by omega)) ?_
            refine acan1_two ?_
            try dsimp only [St.put]
            refine acan2_e rfl rfl rfl (e_call_pure rfl rfl rfl (lawRef_pure _ _ _) ⟨zD, ?_⟩)
            refine acan2_n rfl rfl rfl rfl ((n_bool (c := false) (n_agg_neq (x := referV t e p) (y := (⟨s.au, s.fi + p.ln - s.fr, p.wd + 1⟩ : RefD)) rfl rfl rfl) (not_dec_f hV))) ?_
            refine acan2_n rfl rfl rfl rfl (n_pf rfl rfl (by constructor)) ?_
            refine acan2_nil ?_
            dsimp only [St.put]
            refine K29 _ ?_
            refine aw_cond rfl (fun h => by cases h) (fun _ => ?_)
            refine aw_skip ?_
            refine K25 _ ?_
            refine yR ?_
            refine aops_n rfl (n_add rfl rfl rfl (by omega)) ?_
            refine yM rfl rfl ?_
            refine yN ?_
            dsimp only [St.put]
            first
              | exact ⟨(j + 1, m + 1), by (dsimp only; omega), ⟨by (dsimp only; omega), by (dsimp only; omega), hN⟩, ⟨⟨rfl, rfl⟩, zF, zB, zN, zX⟩⟩
              | exact ⟨(j + 1, m), by (dsimp only; omega), ⟨by (dsimp only; omega), by (dsimp only; omega), hN⟩, ⟨⟨rfl, rfl⟩, zF, zB, zN, zX⟩⟩
          have q3 := of_decide_eq_false hs
          refine aops_n rfl (n_pt rfl rfl (by constructor)) ?_
          refine yN ?_
          dsimp only [St.put]
          refine K27 _ ?_
          refine aw_cond rfl (fun h => by cases h) (fun _ => ?_)
          have hh : hasB s (p.ch, p.ln) = false := by rw [← Bool.not_eq_true, hasB_true]; dsimp only; omega
          have hN : m = 0 ↔ ((e.ss.take (j + 1)).all fun s => !hasB s (p.ch, p.ln)) = true := by rw [all_take hs1, hh, Bool.not_false, Bool.and_true]; exact hJ.2.2
          refine aw_skip ?_
          refine K25 _ ?_
          refine yR ?_
          refine aops_n rfl (n_add rfl rfl rfl (by omega)) ?_
          refine yM rfl rfl ?_
          refine yN ?_
          dsimp only [St.put]
          first
            | exact ⟨(j + 1, m + 1), by (dsimp only; omega), ⟨by (dsimp only; omega), by (dsimp only; omega), hN⟩, ⟨⟨rfl, rfl⟩, zF, zB, zN, zX⟩⟩
            | exact ⟨(j + 1, m), by (dsimp only; omega), ⟨by (dsimp only; omega), by (dsimp only; omega), hN⟩, ⟨⟨rfl, rfl⟩, zF, zB, zN, zX⟩⟩
        have q2 := of_decide_eq_false hs
        refine aops_n rfl (n_pt rfl rfl (by constructor)) ?_
        refine yM rfl rfl ?_
        refine yK rfl ?_
        refine yK rfl ?_
        refine yK rfl ?_
        refine yK rfl ?_
        refine yK rfl ?_
        refine aops_n rfl (n_pf rfl rfl (by constructor)) ?_
        refine yN ?_
        dsimp only [St.put]
        refine K27 _ ?_
        refine aw_cond rfl (fun h => by cases h) (fun _ => ?_)
        have hh : hasB s (p.ch, p.ln) = false := by rw [← Bool.not_eq_true, hasB_true]; dsimp only; omega
        have hN : m = 0 ↔ ((e.ss.take (j + 1)).all fun s => !hasB s (p.ch, p.ln)) = true := by rw [all_take hs1, hh, Bool.not_false, Bool.and_true]; exact hJ.2.2
        refine aw_skip ?_
        refine K25 _ ?_
        refine yR ?_
        refine aops_n rfl (n_add rfl rfl rfl (by omega)) ?_
        refine yM rfl rfl ?_
        refine yN ?_
        dsimp only [St.put]
        first
          | exact ⟨(j + 1, m + 1), by (dsimp only; omega), ⟨by (dsimp only; omega), by (dsimp only; omega), hN⟩, ⟨⟨rfl, rfl⟩, zF, zB, zN, zX⟩⟩
          | exact ⟨(j + 1, m), by (dsimp only; omega), ⟨by (dsimp only; omega), by (dsimp only; omega), hN⟩, ⟨⟨rfl, rfl⟩, zF, zB, zN, zX⟩⟩
      have q1 := of_decide_eq_false hs
      refine yM rfl rfl ?_
      refine yK rfl ?_
      refine yK rfl ?_
      refine yK rfl ?_
      refine yK rfl ?_
      refine yK rfl ?_
      refine aops_n rfl (n_pf rfl rfl (by constructor)) ?_
      refine yM rfl rfl ?_
      refine yK rfl ?_
      refine yK rfl ?_
      refine yK rfl ?_
      refine yK rfl ?_
      refine yK rfl ?_
      refine aops_n rfl (n_pf rfl rfl (by constructor)) ?_
      refine yN ?_
      dsimp only [St.put]
      refine K27 _ ?_
      refine aw_cond rfl (fun h => by cases h) (fun _ => ?_)
      have hh : hasB s (p.ch, p.ln) = false := by rw [← Bool.not_eq_true, hasB_true]; dsimp only; omega
      have hN : m = 0 ↔ ((e.ss.take (j + 1)).all fun s => !hasB s (p.ch, p.ln)) = true := by rw [all_take hs1, hh, Bool.not_false, Bool.and_true]; exact hJ.2.2
      refine aw_skip ?_
      refine K25 _ ?_
      refine yR ?_
      refine aops_n rfl (n_add rfl rfl rfl (by omega)) ?_
      refine yM rfl rfl ?_
      refine yN ?_
      dsimp only [St.put]
      first
        | exact ⟨(j + 1, m + 1), by (dsimp only; omega), ⟨by (dsimp only; omega), by (dsimp only; omega), hN⟩, ⟨⟨rfl, rfl⟩, zF, zB, zN, zX⟩⟩
        | exact ⟨(j + 1, m), by (dsimp only; omega), ⟨by (dsimp only; omega), by (dsimp only; omega), hN⟩, ⟨⟨rfl, rfl⟩, zF, zB, zN, zX⟩⟩
    replace hc := of_decide_eq_false hc
    have hmA : m = 0 ↔ asOf e.ss (p.ch, p.ln) = none := by
      rw [has_none, hJ.2.2, take_all (show e.ss.length ≤ j by omega)]
    refine aw_exit ?_
    refine K21 _ ?_
    refine yS fun _ K30 => ?_
    refine yR ?_
    refine yM rfl rfl ?_
    refine yM rfl rfl ?_
    refine yM rfl rfl ?_
    refine yM rfl rfl ?_
    refine aops_n rfl (n_eql rfl rfl rfl) ?_
    refine aops_n rfl ((n_bool (c := true) (n_beql rfl rfl rfl (by kernel_rfl)) (beq_iff (hgA.trans (refer_six h0 hp).symm)))) ?_
    refine aops_n rfl (n_pt rfl rfl (by constructor)) ?_
    refine yM rfl rfl ?_
    refine yM rfl rfl ?_
    refine yM rfl rfl ?_
    refine aops_n rfl (n_eql rfl rfl rfl) ?_
    refine aops_n rfl ((n_bool (c := true) (n_beql rfl rfl rfl (by kernel_rfl)) (beq_iff (hgA.trans (hmA.symm.trans ⟨fun h => by omega, fun h => by omega⟩))))) ?_
    refine aops_n rfl (n_pt rfl rfl (by constructor)) ?_
    refine yA rfl rfl ?_
    refine yN ?_
    dsimp only [St.put]
    refine K30 _ ?_
    refine aw_ret ?_
    refine ends_1 rfl (by constructor) zN zS ?_
    rfl
  skip
  refine aops_n rfl (n_not rfl rfl) ?_
  refine yM rfl rfl ?_
  refine yK rfl ?_
  refine yK rfl ?_
  refine aops_n rfl (n_pt rfl rfl (by constructor)) ?_
  refine yN ?_
  dsimp only [St.put]
  refine K4 _ ?_
  refine aw_cond rfl (fun _ => ?_) (fun h => by cases h)
  refine yS fun _ K31 => ?_
  refine yR ?_
  refine yM rfl rfl ?_
  refine yA rfl rfl ?_
  refine yN ?_
  dsimp only [St.put]
  refine K31 _ ?_
  refine aw_ret ?_
  refine ends_1 rfl (by constructor) zN zS ?_
  rfl
end Go.Proofs.YtjjklfgpffgnfaaGreatDoor
