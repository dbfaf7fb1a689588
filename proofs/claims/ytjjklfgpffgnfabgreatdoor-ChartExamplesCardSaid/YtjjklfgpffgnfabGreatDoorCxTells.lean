/-
 Contracts of the program's functions of charts: what clashes, gaps, sound editions, plain ones.
-/
import Derived.Test.YtjjklfgpffgnfabGreatDoorCwLines
namespace Go.AB
open Go Go.RowKit
open Go.AB.Enc (cells)
open Go.PB (Chap TextD PlaceD ReadingD CopyD WayD)
def gapsP (f : L2 → Option L2) (l : List L2) : List PlaceD := (l.filter fun p => (f p).isNone).map fun p => ⟨p.1, p.2, 0⟩
theorem gapsP_yes {f : L2 → Option L2} {l : List LV} {x : LV} (h : f x.1 = none) : gapsP f ((l ++ [x]).map (·.1)) = gapsP f (l.map (·.1)) ++ [⟨x.1.1, x.1.2, 0⟩] := by
 unfold gapsP
 rw [List.map_append, List.filter_append, List.map_append]
 simp [h]
theorem gapsP_no {f : L2 → Option L2} {l : List LV} {x : LV} (h : f x.1 ≠ none) : gapsP f ((l ++ [x]).map (·.1)) = gapsP f (l.map (·.1)) := by
 unfold gapsP
 rw [List.map_append, List.filter_append, List.map_append]
 cases hf : f x.1 with
 | none => exact absurd hf h
 | some v => simp [hf]
theorem gapsP_len (f : L2 → Option L2) (l : List L2) : (gapsP f l).length ≤ l.length := by
 unfold gapsP
 rw [List.length_map]
 exact List.length_filter_le _ _
theorem gapsR_P {ss : List StretchD} : ∀ {l : List RowD}, (∀ r ∈ l, decide (r.au = 0) = (asOf ss (r.ch, r.ln)).isNone) → gapsR l = gapsP (asOf ss) (l.map fun r => (r.ch, r.ln))
 | [], _ => rfl
 | r :: l, h => by
  have ih := gapsR_P (l := l) fun r hr => h r (List.mem_cons_of_mem _ hr)
  unfold gapsR gapsP at ih ⊢
  have h1 := h r (List.mem_cons_self ..)
  rw [List.map_cons, List.filter_cons, List.filter_cons, h1]
  cases (asOf ss (r.ch, r.ln)).isNone
  ·exact ih
  show _ :: _ = _ :: _
  exact congrArg _ ih
theorem rows_none {t : TextD} {ss : List StretchD} (he : ∀ s ∈ ss, SOk s) : ∀ r ∈ rowsT t ss, decide (r.au = 0) = (asOf ss (r.ch, r.ln)).isNone := fun r hr => by
 obtain ⟨h1, _⟩ := rows_spec hr
 rw [h1]
 cases hv : asOf ss (r.ch, r.ln) with
 | none => rfl
 | some v =>
  have := asOf_pos he hv
  simp only [Option.getD_some, Option.isNone_some, decide_eq_false_iff_not]; omega
theorem gaps_same {t : TextD} {ss : List StretchD} (he : ∀ s ∈ ss, SOk s) : gapsP (asOf ss) (linesT t) = gapsR (rowsT t ss) := by
 rw [gapsR_P (rows_none he), rows_lines]
theorem plainR_S {f : L2 → Option L2} : ∀ (l : List RowD) (out : List StretchD), (∀ r ∈ l, (f (r.ch, r.ln) = none ∧ r.au = 0) ∨ (f (r.ch, r.ln) = some (r.au, r.nu) ∧ r.au ≠ 0)) →
  l.foldl (fun out r => bif decide (r.au = 0) then out else mergeS out (r.ch, r.ln) (r.au, r.nu)) out = (l.map fun r => ((r.ch, r.ln) : L2)).foldl (mergeO f) out
 | [], _, _ => rfl
 | r :: l, out, h => by
  rw [List.foldl_cons, List.map_cons, List.foldl_cons, plainR_S l _ fun r hr => h r (List.mem_cons_of_mem _ hr)]
  congr 1
  rcases h r (List.mem_cons_self ..) with ⟨h1, h2⟩ | ⟨h1, h2⟩
  ·simp [mergeO, h1, h2]
  simp [mergeO, h1, h2]
theorem plain_same {t : TextD} {ss : List StretchD} (he : ∀ s ∈ ss, SOk s) : plainS (asOf ss) (linesT t) = plainR (rowsT t ss) := by
 unfold plainS plainR
 rw [plainR_S (f := asOf ss) _ _ fun r hr => ?_, rows_lines]
 obtain ⟨h1, h2⟩ := rows_spec hr
 cases hv : asOf ss (r.ch, r.ln) with
 | none => rw [hv] at h1; exact .inl ⟨rfl, h1⟩
 | some v =>
  have := asOf_pos he hv
  rw [hv] at h1 h2
  simp only [Option.getD_some] at h1 h2
  exact .inr ⟨by rw [h1, h2], by omega⟩
theorem linesT_len {t : TextD} (ht : textB t = true) : (linesT t).length ≤ 60 := by
 rw [← rows_lines t [], List.length_map]
 exact rowsT_all ht []
theorem soundEr_err {t : TextD} {e : EditionD} (h : soundEr t e ≠ 0) : checkEr t e ≠ 0 ∧ soundEr t e = checkEr t e ∨ checkEr t e = 0 ∧ (firstC e.ss).isSome = true ∧ soundEr t e = 8 := by
 unfold soundEr at h ⊢
 by_cases h0 : checkEr t e = 0
 ·right
  rw [decide_eq_true h0] at h ⊢
  cases hf : (firstC e.ss).isSome with
  | false => rw [hf] at h; exact absurd rfl h
  | true => exact ⟨h0, rfl, rfl⟩
 left
 rw [decide_eq_false h0]
 exact ⟨h0, rfl⟩
end Go.AB
namespace Go.Proofs.YtjjklfgpffgnfabGreatDoor
set_option maxRecDepth 10000
open Go.RowKit Go.AB
open Go.AB.Enc (cells)
open Go.PB (Chap TextD PlaceD ReadingD CopyD WayD)
theorem chartClash_pureF (t : TextD) (e : EditionD) (hl : e.ss.length ≤ 20) : PureF chkF Tryz.prog 8 [textC t, val e] (.tup [.v (.int .i64 (clashA t e)), .v (.int .i64 (clashBv t e)), .v (.int .i64 (clashEr t e))]) := by
 refine pureF_of_body Tryz.func8 rfl (fun m => .tup (low_cons .v (low_cons .v (low_cons .v low_nil)))) fun G nx hF => ?_
 simp only [Tryz.ntmps8, List.length_cons, List.length_nil, Nat.reduceAdd, Nat.reduceSub]
 refine aw_lt fun hlt => ?_
 dsimp only at hlt
 have hnx := hlt 0 _ hF
 refine yS fun _ K1 => ?_
 refine yR ?_
 try dsimp only [St.put]
 refine yB rfl rfl rfl ?_
 try dsimp only [St.put]
 refine yB rfl rfl rfl ?_
 refine yA rfl rfl ?_
 refine yA rfl rfl ?_
 refine yA rfl rfl ?_
 refine yN ?_
 dsimp only [St.put]
 refine K1 _ ?_
 refine yS fun _ K2 => ?_
 refine yS fun _ K3 => ?_
 refine yR ?_
 try dsimp only [St.put]
 refine aops_s rfl (s_load_agg' rfl rfl rfl) ?_
 refine yE rfl rfl rfl ?_
 try dsimp only [St.put]
 refine aops_e rfl (e_call_f rfl rfl rfl (chartCheck_pureF t e hl) zG ?_)
 refine yA rfl rfl ?_
 refine yN ?_
 dsimp only [St.put]
 refine K3 _ ?_
 refine yS fun _ K4 => ?_
 refine yR ?_
 refine yM rfl rfl ?_
 refine aops_n rfl (n_neq rfl rfl rfl) ?_
 refine yN ?_
 dsimp only [St.put]
 refine K4 _ ?_
 refine aw_cond rfl (fun hc => ?_) (fun hc => ?_)
 ·have h0 : ¬ checkEr t e = 0 := nd_t hc
  refine yS fun _ K5 => ?_
  refine yR ?_
  refine yM rfl rfl ?_
  refine yA rfl rfl ?_
  refine yA rfl rfl ?_
  refine yA rfl rfl ?_
  refine yN ?_
  dsimp only [St.put]
  refine K5 _ ?_
  refine aw_ret ?_
  refine ends_3 rfl (by constructor) (by constructor) (by constructor) zN zS ?_ ?_ ?_
  ·exact vi (by simp [clashA, h0])
  ·exact vi (by simp [clashBv, h0])
  exact vi (by simp [clashEr, h0])
 have h0 : checkEr t e = 0 := nd_f hc
 obtain ⟨ht, hl12, he⟩ := checkEr_text h0
 refine aw_skip ?_
 refine K2 _ ?_
 refine yS fun _ K6 => ?_
 refine yR ?_
 try dsimp only [St.put]
 refine aops_s rfl (s_load_agg' rfl rfl rfl) ?_
 refine yE rfl rfl rfl ?_
 try dsimp only [St.put]
 refine aops_e rfl (e_call_namedX rfl rfl rfl (opened_pc t e hl12 he _ _) (fun y => ?_))
 refine yM rfl rfl ?_
 refine yX rfl rfl rfl rfl ?_
 refine yX rfl rfl rfl rfl ?_
 refine yX rfl rfl rfl rfl ?_
 refine yX rfl rfl rfl rfl ?_
 refine yA rfl rfl ?_
 refine yA rfl rfl ?_
 refine yA rfl rfl ?_
 refine yA rfl rfl ?_
 refine yN ?_
 dsimp only [St.put]
 refine K6 _ ?_
 refine yS fun _ K7 => ?_
 refine yS fun _ K8 => ?_
 refine yR ?_
 refine yM rfl rfl ?_
 refine aops_n rfl (n_not rfl rfl) ?_
 refine yN ?_
 dsimp only [St.put]
 refine K8 _ ?_
 refine aw_cond rfl (fun hc => ?_) (fun hc => ?_)
 ·have hf : firstC e.ss = none := by simpa using hc
  refine yS fun _ K9 => ?_
  refine yR ?_
  refine yA rfl rfl ?_
  refine yA rfl rfl ?_
  refine yA rfl rfl ?_
  refine yN ?_
  dsimp only [St.put]
  refine K9 _ ?_
  refine aw_ret ?_
  refine ends_3 rfl (by constructor) (by constructor) (by constructor) zN zS ?_ ?_ ?_
  ·exact vi (by simp [clashA, h0, (clN hf).1])
  ·exact vi (by simp [clashBv, h0, (clN hf).2])
  exact vi (by simp [clashEr, h0, hf])
 obtain ⟨p, hf⟩ : ∃ p, firstC e.ss = some p := Option.isSome_iff_exists.1 (by simpa using hc)
 refine aw_skip ?_
 refine K7 _ ?_
 refine yS fun _ K10 => ?_
 refine yR ?_
 refine yM rfl rfl ?_
 refine yM rfl rfl ?_
 refine yA rfl rfl ?_
 refine yA rfl rfl ?_
 refine yA rfl rfl ?_
 refine yN ?_
 dsimp only [St.put]
 refine K10 _ ?_
 refine aw_ret ?_
 refine ends_3 rfl (by constructor) (by constructor) (by constructor) zN zS ?_ ?_ ?_
 ·exact vi (by simp [clashA, h0, (clV hf).1, hf, oneOf])
 ·exact vi (by simp [clashBv, h0, (clV hf).2, hf, twoOf])
 exact vi (by simp [clashEr, h0, hf])
theorem chartGaps_pureF (t : TextD) (e : EditionD) (hl : e.ss.length ≤ 20) : PureF chkF Tryz.prog 10 [textC t, val e] (.tup [lst (gapsE t e), .v (.int .i64 (checkEr t e))]) := by
 refine pureF_of_body Tryz.func10 rfl (fun m => .tup (low_cons (lst_low _ _) (low_cons .v low_nil))) fun G nx hF => ?_
 simp only [Tryz.ntmps10, List.length_cons, List.length_nil, Nat.reduceAdd, Nat.reduceSub]
 refine aw_lt fun hlt => ?_
 dsimp only at hlt
 have hnx := hlt 0 _ hF
 refine yS fun _ K1 => ?_
 refine yR ?_
 try dsimp only [St.put]
 refine yB rfl rfl rfl ?_
 try dsimp only [St.put]
 refine yB rfl rfl rfl ?_
 refine yA rfl rfl ?_
 refine yA rfl rfl ?_
 refine yN ?_
 dsimp only [St.put]
 refine K1 _ ?_
 refine yS fun _ K2 => ?_
 refine yS fun _ K3 => ?_
 refine yR ?_
 try dsimp only [St.put]
 refine aops_s rfl (s_load_agg' rfl rfl rfl) ?_
 refine yE rfl rfl rfl ?_
 try dsimp only [St.put]
 refine aops_e rfl (e_call_f rfl rfl rfl (chartCheck_pureF t e hl) zG ?_)
 refine yA rfl rfl ?_
 refine yN ?_
 dsimp only [St.put]
 refine K3 _ ?_
 refine yS fun _ K4 => ?_
 refine yR ?_
 refine yM rfl rfl ?_
 refine aops_n rfl (n_neq rfl rfl rfl) ?_
 refine yN ?_
 dsimp only [St.put]
 refine K4 _ ?_
 refine aw_cond rfl (fun hc => ?_) (fun hc => ?_)
 ·have h0 : ¬ checkEr t e = 0 := nd_t hc
  refine yS fun _ K5 => ?_
  refine yR ?_
  refine yM rfl rfl ?_
  refine yA rfl rfl ?_
  refine yA rfl rfl ?_
  refine yN ?_
  dsimp only [St.put]
  refine K5 _ ?_
  refine aw_ret ?_
  refine ends_v2 rfl (rv_tmp (by constructor)) (rv_tmp (by constructor)) zN zS ?_ ?_
  ·rw [show gapsE t e = [] by simp [gapsE, h0]]
   exact zW
  exact Wk.refl _
 have h0 : checkEr t e = 0 := nd_f hc
 obtain ⟨ht, hl12, he⟩ := checkEr_text h0
 refine aw_skip ?_
 refine K2 _ ?_
 refine yS fun _ K6 => ?_
 refine yR ?_
 try dsimp only [St.put]
 refine aops_s rfl (s_load_agg' rfl rfl rfl) ?_
 refine yE rfl rfl rfl ?_
 try dsimp only [St.put]
 refine aops_e rfl (e_call_namedX rfl rfl rfl (opened_pc t e hl12 he _ _) (fun y => ?_))
 refine yM rfl rfl ?_
 refine yX rfl rfl rfl rfl ?_
 refine yX rfl rfl rfl rfl ?_
 refine yX rfl rfl rfl rfl ?_
 refine yX rfl rfl rfl rfl ?_
 try dsimp only [St.put]
 refine aops_e rfl (e_allocC rfl ?_)
 try dsimp only [St.put]
 refine aops_e rfl (e_store_all rfl rfl rfl zG rfl rfl (by rfl) ?_)
 refine yA rfl rfl ?_
 refine yA rfl rfl ?_
 refine yA rfl rfl ?_
 refine yN ?_
 dsimp only [St.put]
 refine K6 _ ?_
 refine aw_commitD (i := 7) rfl zG (by first | exact List.cons_ne_nil _ _ | (simp; done) | (simp [putAt]; done)) ?_
 dsimp only
 refine yS fun _ K7 => ?_
 refine yR ?_
 try dsimp only [St.put]
 refine aops_e rfl (e_allocC rfl ?_)
 refine yN ?_
 dsimp only [St.put]
 refine K7 _ ?_
 refine aw_adopt_box (nx + 1 + 1 + 1) 0 _ _ 49 3 zG rfl (by decide) ?_
 dsimp only [List.set_cons_zero, List.set_cons_succ]
 refine yS fun _ K8 => ?_
 refine yS fun _ K9 => ?_
 refine yR ?_
 refine yL rfl rfl rfl ?_
 try dsimp only [St.put]
 refine aops_e rfl (e_call_one rfl rfl rfl (lines_pc t e _ _ _ _ (by dsimp only [St.put]; omega) (by dsimp only [St.put]; omega)) ?_)
 refine yN ?_
 dsimp only [St.put]
 refine K9 _ ?_
 refine aw_block ?_
 refine aw_wipe 31 ?_
 simp only [firsts, getA, Nat.reduceAdd, List.getD_cons_zero, List.getD_cons_succ, List.getD_nil, natBeq, Nat.reduceBEq, cond_true, cond_false]
 refine aw_forget (setG (setG (setG (setG G nx (gmap Tryz.prog 95 y.1 (capp ((asOf e.ss))))) (nx + 1) (gmap Tryz.prog 95 y.2 (capp ((backOf e.ss))))) (nx + 1 + 1 + 1) (.box 0 [.list [] (.tip (nx + 1 + 1 + 1 + 1))])) (nx + 1 + 1 + 1 + 1) (.tip 0 49 3)) zX ?_
 dsimp only
 refine aw_rangeFuncX (clL) [31, 32] (fun zs => (setG (setG (setG (setG G nx (gmap Tryz.prog 95 y.1 (capp ((asOf e.ss))))) (nx + 1) (gmap Tryz.prog 95 y.2 (capp ((backOf e.ss))))) (nx + 1 + 1 + 1) (.box ((gapsP (asOf e.ss) (zs.map (·.1)))).length [.list (((gapsP (asOf e.ss) (zs.map (·.1)))).map cells) (.tip (nx + 1 + 1 + 1 + 1))])) (nx + 1 + 1 + 1 + 1) (.tip ((gapsP (asOf e.ss) (zs.map (·.1)))).length 49 3))) (fun _ _ (_ : Unit) => False) (fun _ => fun _ => none) (fun x => [(32, .v x.2), (31, .agg [.v (.int .i64 x.1.1), .v (.int .i64 x.1.2)])]) (lines_iter t e nx (nx + 1)) rfl rfl (fun _ => rfl) (fun xs hX => hX.cl) ?_ ?_ ?_ (fun _ _ _ h => h.elim) (fun xs hX lr pre x hx hlen hpre => ?_) (fun _ _ _ _ _ _ h => h.elim) (fun xs hX => ?_)
 ·intro pre x
  rfl
 ·exact zX
 ·intro zs
  exact (by (repeat' (refine lowG_set ?_ (by (try dsimp only); omega) ?_)); all_goals (first | exact lowG_base zS | (repeat' (first | exact trivial | refine ⟨?_, ?_⟩ | exact .v | exact .any | refine .elem ?_ | exact lst_low _ _ | exact cells_low _ _ | exact val_low _ _ | exact data_low _ (by (try dsimp only); omega) | exact .box (by (try dsimp only); omega) | exact nil_low | exact low_nil | exact gmap_low (capp_low _ _) | refine set_low ?_ ?_ | exact .arr (by (try dsimp only); omega) | exact .own (by (try dsimp only); omega) | exact .map (by (try dsimp only); omega) | exact flatC_low _ | refine low_cons ?_ ?_ | exact lst_low _ _))))
 ·have hpl : (gapsP (asOf e.ss) (pre.map (·.1))).length ≤ 60 := by
   have h1 := gapsP_len (asOf e.ss) (pre.map (·.1))
   have h2 := linesT_len ht
   rw [← hX.fst, List.length_map] at h2
   rw [List.length_map] at h1
   omega
  refine yR ?_
  try dsimp only [St.put]
  refine aops_e rfl (e_allocC rfl ?_)
  try dsimp only [St.put]
  refine aops_e rfl (e_store_all rfl rfl rfl zG rfl rfl (by rfl) ?_)
  refine yN ?_
  dsimp only [St.put]
  show AW _ _ _ _ _
  refine aw_commitD (i := 12) rfl zG (by first | exact List.cons_ne_nil _ _ | (simp; done) | (simp [putAt]; done)) ?_
  dsimp only
  refine aw_block ?_
  refine yS fun _ K10 => ?_
  obtain ⟨v1, hv1⟩ : ∃ v : L2, (capp (asOf e.ss) x.1).getD (constC (.agg #[.int .i64 0, .int .i64 0])) = .agg [.v (.int .i64 v.1), .v (.int .i64 v.2)] := capp_get _ _
  obtain ⟨b1, hb1⟩ : ∃ b, (capp (asOf e.ss) x.1).isSome = b := ⟨_, rfl⟩
  refine aw_draw [(0, none), (1, none), (2, none), (3, none), (4, none), (5, none), (6, none), (7, none), (8, none), (9, none), (10, none), (11, none)] (fun i => [10].contains i) (fun i => [9, 10].contains i) (fun i => [1, 2, 6, 7, 8, 11].contains i) [nx] (by kernel_rfl) (by kernel_rfl) ?_
  try dsimp only [St.put]
  refine acan1_s rfl rfl rfl rfl (s_load rfl rfl) ?_
  refine acan1_n rfl rfl rfl rfl (n_nilCheck rfl rfl) ?_
  refine acan1_n rfl rfl rfl rfl (n_fieldAddr' rfl rfl rfl) ?_
  try dsimp only [St.put]
  refine acan1_s rfl rfl rfl rfl (s_load rfl rfl) ?_
  try dsimp only [St.put]
  refine acan1_s rfl rfl rfl rfl (s_load_agg' rfl rfl rfl) ?_
  try dsimp only [St.put]
  refine acan1_s rfl rfl rfl rfl (s_lookupOk' x.1 rfl rfl zG (by simp) rfl hv1 hb1) ?_
  refine xM rfl rfl rfl rfl rfl ?_
  refine acan1_n rfl rfl rfl rfl (n_extract rfl rfl rfl) ?_
  refine acan1_n rfl rfl rfl rfl (n_extract rfl rfl rfl) ?_
  refine acan1_two ?_
  try dsimp only [St.put]
  refine acan2_e rfl rfl rfl (e_allocC rfl ⟨zD, ?_⟩)
  try dsimp only [St.put]
  refine acan2_late rfl rfl rfl rfl (e_store_all rfl rfl rfl zG rfl rfl (by rfl) ?_)
  refine acan2_n rfl rfl rfl rfl (n_as rfl (by constructor)) ?_
  refine acan2_nil ?_
  dsimp only [St.put]
  refine K10 _ ?_
  refine yS fun _ K11 => ?_
  refine yR ?_
  refine yM rfl rfl ?_
  refine aops_n rfl (n_not rfl rfl) ?_
  refine yN ?_
  dsimp only [St.put]
  refine K11 _ ?_
  refine aw_cond rfl (fun hc => ?_) (fun hc => ?_)
  ·have hno : asOf e.ss x.1 = none := by
    have : b1 = false := by simpa using hc
    rw [this] at hb1
    exact capp_none.1 (by simpa using hb1)
   refine yR ?_
   try dsimp only [St.put]
   refine aops_s rfl (s_load_box rfl rfl zG trivial (by first | rfl | assumption)) ?_
   try dsimp only [St.put]
   refine aops_n rfl (n_indexAddr_aelem (k := 0) rfl rfl rfl (by first | exact rfl | omega) (by first | decide | omega) rfl) ?_
   refine yL rfl rfl rfl ?_
   try dsimp only [St.put]
   refine aops_n rfl (n_indexAddr_aelem (k := 1) rfl rfl rfl (by first | exact rfl | omega) (by first | decide | omega) rfl) ?_
   refine yL rfl rfl rfl ?_
   refine aops_n rfl (n_build rfl rfl) ?_
   try dsimp only [St.put]
   refine aops_e rfl (e_buildSlice rfl rfl rfl (by decide) (by decide) zR (by decide) ?_)
   try dsimp only [St.put]
   refine aops_e rfl (e_append ([(⟨x.1.1, x.1.2, 0⟩ : PlaceD)]) rfl rfl zG (by first | rfl | simp) rfl rfl zA ?_ zA)
   try dsimp only [St.put]
   refine aops_e rfl (e_store_all rfl rfl rfl zG rfl rfl (by rfl) ?_)
   refine yN ?_
   dsimp only [St.put]
   unfold ABlock RPost
   dsimp only
   first
   | (rw [gapsP_yes hno]
      simp only [List.length_append]
      exact zX)
   | (rw [gapsP_no hys]
      exact zX)
  have hys : asOf e.ss x.1 ≠ none := fun h0 => by
   have : b1 = true := by simpa using hc
   rw [this, capp_none.2 h0] at hb1
   cases hb1
  refine aw_skip ?_
  unfold ABlock RPost
  dsimp only
  first
  | (rw [gapsP_yes hno]
     simp only [List.length_append]
     exact zX)
  | (rw [gapsP_no hys]
     exact zX)
 dsimp only
 rw [hX.fst]
 refine K8 _ ?_
 refine yS fun _ K12 => ?_
 refine yR ?_
 try dsimp only [St.put]
 refine aops_s rfl (s_load_box rfl rfl zG trivial (by first | rfl | assumption)) ?_
 refine yA rfl rfl ?_
 refine yA rfl rfl ?_
 refine yN ?_
 dsimp only [St.put]
 refine K12 _ ?_
 refine aw_ret ?_
 refine ends_v2 rfl (rv_tmp (by constructor)) (rv_tmp (by constructor)) zN zS ?_ ?_
 ·rw [show gapsE t e = gapsP (asOf e.ss) (linesT t) by rw [gaps_same he]; simp [gapsE, h0]]
  exact zW
 exact Wk.of_eq (vi h0.symm)
end Go.Proofs.YtjjklfgpffgnfabGreatDoor
