/-
 The law ChartNearest: its walk.
-/
import Derived.Test.YtjjklfgpffgnfabGreatDoorGsNumber
namespace Go.AB
open Go Go.RowKit
open Go.AB.Enc (cells)
open Go.PB (Chap TextD PlaceD ReadingD CopyD WayD)
section
variable {t : TextD} {e : EditionD} {p q : PlaceD} {a b : Option PlaceD}
theorem nearV_there (h0 : soundEr t e = 0) (hp : placeB t p = true) (hc : referEr t e p = 0) : nearEr t e p = 0 ∧ nearV t e p = [p] := by
 obtain ⟨v, hv, _⟩ := refer_some h0 hp hc
 exact nearEr_eq h0 hp (by simp [nearL, hv]) (by simp)
theorem nearV_ok (h0 : soundEr t e = 0) (hp : placeB t p = true) (hc : nearEr t e p = 0) : nearV t e p = nearL t e.ss p ∧ nearL t e.ss p ≠ [] := by
 refine ⟨by simp [nearV, hc], fun hn => ?_⟩
 simp [nearEr, h0, hp, hn] at hc
theorem nearV_no (h0 : soundEr t e = 0) (hp : placeB t p = true) (hc : nearEr t e p ≠ 0) : nearEr t e p = 6 ∧ nearV t e p = [] ∧ nearL t e.ss p = [] := by
 by_cases hn : nearL t e.ss p = []
 ·have : nearEr t e p = 6 := by simp [nearEr, h0, hp, hn]
  exact ⟨this, by simp [nearV, this], hn⟩
 exact absurd (by simp [nearEr, h0, hp, hn]) hc
theorem near_ne (h0 : soundEr t e = 0) (hp : placeB t p = true) (hno : asOf e.ss (p.ch, p.ln) = none) (hq : q ∈ wordsF t (asOf e.ss)) : q ≠ p := fun h => by
 have := (mem_words.1 hq).2
 rw [h, hno] at this
 cases this
theorem near_none (h0 : soundEr t e = 0) (hp : placeB t p = true) (hno : asOf e.ss (p.ch, p.ln) = none) (hn : nearL t e.ss p = []) (hq : placeB t q = true) : referEr t e q ≠ 0 := fun h1 => by
 obtain ⟨a, b, hL, ha, hb⟩ := near_ok (t := t) hno
 rw [hn] at hL
 have ha0 : a = none := by cases a with | none => rfl | some w => simp at hL
 have hb0 : b = none := by cases b with | none => rfl | some w => simp at hL
 obtain ⟨hw, _⟩ := refer_words h0 hq h1
 exact near_ne h0 hp hno hw (keyP_inj (ltW_tri rfl (ha.none ha0 q hw) (hb.none hb0 q hw)))
/-- the number of the first one -/
def nbL (t : TextD) : List PlaceD → Int
 | [] => -1
 | y :: _ => (numP t y : Int)
theorem near_mem (hp : placeB t p = true) (ha : IsLo (wordsF t (asOf e.ss)) keyP (keyP p) a) (hb : IsHi (wordsF t (asOf e.ss)) keyP (keyP p) b) {k : Nat} (h : (a.toList ++ b.toList)[k]? = some q) :
  q ∈ wordsF t (asOf e.ss) ∧ ((a = some q ∧ k = 0 ∧ numP t q < numP t p) ∨ (b = some q ∧ k = a.toList.length ∧ numP t p < numP t q)) := by
 rcases two_step h with ⟨h1, h2⟩ | ⟨h1, h2⟩
 ·obtain ⟨k1, k2, _⟩ := ha.some q h1
  exact ⟨k1, .inl ⟨h1, h2, (num_lt (mem_words.1 k1).1 hp).2 k2⟩⟩
 obtain ⟨k1, k2, _⟩ := hb.some q h1
 exact ⟨k1, .inr ⟨h1, h2, (num_lt hp (mem_words.1 k1).1).2 k2⟩⟩
theorem near_lo (hp : placeB t p = true) (ha : IsLo (wordsF t (asOf e.ss)) keyP (keyP p) a) (hq : q ∈ wordsF t (asOf e.ss)) (h : numP t q < numP t p) : (numP t q : Int) ≤ nbL t a.toList := by
 have h1 := (num_lt (mem_words.1 hq).1 hp).1 h
 cases a with
 | none => exact absurd h1 (ha.none rfl q hq)
 | some y =>
  obtain ⟨k1, _, k3⟩ := ha.some y rfl
  have := mt (num_lt (mem_words.1 k1).1 (mem_words.1 hq).1).1 (k3 q hq h1)
  show (numP t q : Int) ≤ (numP t y : Int)
  omega
theorem near_hi (hp : placeB t p = true) (hb : IsHi (wordsF t (asOf e.ss)) keyP (keyP p) b) (hq : q ∈ wordsF t (asOf e.ss)) (h : numP t p < numP t q) : 0 ≤ nbL t b.toList ∧ nbL t b.toList ≤ (numP t q : Int) := by
 have h1 := (num_lt hp (mem_words.1 hq).1).1 h
 cases b with
 | none => exact absurd h1 (hb.none rfl q hq)
 | some y =>
  obtain ⟨k1, _, k3⟩ := hb.some y rfl
  have := mt (num_lt (mem_words.1 hq).1 (mem_words.1 k1).1).1 (k3 q hq h1)
  show 0 ≤ (numP t y : Int) ∧ (numP t y : Int) ≤ (numP t q : Int)
  omega
theorem numE_eq (ht : textB t = true) (hp : placeB t p = true) : numE t p = (numP t p : Int) := by simp [numE, placed_ok ht hp]
end
end Go.AB
namespace Go.Proofs.YtjjklfgpffgnfabGreatDoor
set_option maxRecDepth 10000
open Go.RowKit Go.AB
open Go.AB.Enc (cells)
open Go.PB (Chap TextD PlaceD ReadingD CopyD WayD)
theorem lawThere_pureF (t : TextD) (e : EditionD) (p : PlaceD) (hl : e.ss.length ≤ 20) : PureF chkF Tryz.prog 29 [textC t, val e, val p] (.v (.bool (decide (referEr t e p = 0)))) := by
 refine pureF_of_body Tryz.func29 rfl (fun m => .v) fun G nx hF => ?_
 simp only [Tryz.ntmps29, List.length_cons, List.length_nil, Nat.reduceAdd, Nat.reduceSub]
 refine aw_lt fun hlt => ?_
 dsimp only at hlt
 have hnx := hlt 0 _ hF
 refine yS fun _ K1 => ?_
 refine yR ?_
 try dsimp only [St.put]
 refine yB rfl rfl rfl ?_
 try dsimp only [St.put]
 refine yB rfl rfl rfl ?_
 try dsimp only [St.put]
 refine yB rfl rfl rfl ?_
 refine yA rfl rfl ?_
 refine yN ?_
 dsimp only [St.put]
 refine K1 _ ?_
 refine yS fun _ K2 => ?_
 refine yR ?_
 try dsimp only [St.put]
 refine aops_s rfl (s_load_agg' rfl rfl rfl) ?_
 refine yE rfl rfl rfl ?_
 refine yE rfl rfl rfl ?_
 try dsimp only [St.put]
 refine aops_e rfl (e_call_f rfl rfl rfl (chartRefer_pureF t e p hl) zG ?_)
 refine yM rfl rfl ?_
 refine yX rfl rfl rfl rfl ?_
 refine yX rfl rfl rfl rfl ?_
 try dsimp only [St.put]
 refine aops_e rfl (e_allocC rfl ?_)
 try dsimp only [St.put]
 refine aops_e rfl (e_store_all rfl rfl rfl zG rfl rfl (by rfl) ?_)
 refine yA rfl rfl ?_
 refine yN ?_
 dsimp only [St.put]
 refine K2 _ ?_
 refine yS fun _ K3 => ?_
 refine yR ?_
 refine yM rfl rfl ?_
 refine aops_n rfl (n_eql rfl rfl rfl) ?_
 refine yA rfl rfl ?_
 refine yN ?_
 dsimp only [St.put]
 refine K3 _ ?_
 refine aw_ret ?_
 refine ends_1 rfl (by constructor) zN zS ?_
 rfl
theorem lawThere_yes {t : TextD} {e : EditionD} {p : PlaceD} (hl : e.ss.length ≤ 20) (h : referEr t e p = 0) : PureF chkF Tryz.prog 29 [textC t, val e, val p] (.v (.bool true)) := by
 have := lawThere_pureF t e p hl
 rwa [decide_eq_true h] at this
theorem lawThere_no {t : TextD} {e : EditionD} {p : PlaceD} (hl : e.ss.length ≤ 20) (h : referEr t e p ≠ 0) : PureF chkF Tryz.prog 29 [textC t, val e, val p] (.v (.bool false)) := by
 have := lawThere_pureF t e p hl
 rwa [decide_eq_false h] at this
set_option maxHeartbeats 8000000 in
theorem nearest_pureF (t : TextD) (e : EditionD) (a b c d f g : Int) : PureF chkF Tryz.prog 4 [textC t, val e, .v (.int .u8 a), .v (.int .u8 b), .v (.int .u8 c), .v (.int .u8 d), .v (.int .u8 f), .v (.int .u8 g)] (.v (.bool true)) := by
 refine pureF_of_body Tryz.func4 rfl (fun m => .v) fun G nx hF => ?_
 simp only [Tryz.ntmps4, List.length_cons, List.length_nil, Nat.reduceAdd, Nat.reduceSub]
 refine aw_lt fun hlt => ?_
 dsimp only at hlt
 have hnx := hlt 0 _ hF
 refine aw_fit 2 (fun hfa => ?_)
 refine aw_fit 3 (fun hfb => ?_)
 refine aw_fit 4 (fun hfc => ?_)
 refine aw_fit 5 (fun hfd => ?_)
 refine aw_fit 6 (fun hff => ?_)
 refine aw_fit 7 (fun hfg => ?_)
 replace hfa := u8_fit hfa
 replace hfb := u8_fit hfb
 replace hfc := u8_fit hfc
 replace hfd := u8_fit hfd
 replace hff := u8_fit hff
 replace hfg := u8_fit hfg
 refine yS fun _ K1 => ?_
 refine yR ?_
 try dsimp only [St.put]
 refine yB rfl rfl rfl ?_
 try dsimp only [St.put]
 refine yB rfl rfl rfl ?_
 refine yA rfl rfl ?_
 refine yN ?_
 dsimp only [St.put]
 refine K1 _ ?_
 refine yS fun _ K2 => ?_
 refine yR ?_
 try dsimp only [St.put]
 refine aops_e rfl (e_call_f rfl rfl rfl (alive_pureF) zG ?_)
 refine yA rfl rfl ?_
 refine yN ?_
 dsimp only [St.put]
 refine K2 _ ?_
 refine yS fun _ K3 => ?_
 refine yS fun _ K4 => ?_
 refine yR ?_
 try dsimp only [St.put]
 refine aops_s rfl (s_load_agg' rfl rfl rfl) ?_
 refine yE rfl rfl rfl ?_
 try dsimp only [St.put]
 refine aops_e rfl (e_call_pure rfl rfl rfl (lawReady_pure t e) ?_)
 refine aops_split (fun hs => ?_) (fun hs => ?_)
 ·obtain ⟨⟨hle, hgt⟩, h0⟩ := readyB_true.1 hs
  have hS := soundEr_sound h0
  obtain ⟨p, hpp⟩ : ∃ p, pickP t a b c = p := ⟨_, rfl⟩
  have hp : placeB t p = true := hpp ▸ pick_place hS.tx hfa.1 hfb.1 hfc.1
  have hPk := lawPick_pure t a b c hS.tx hfa hfb hfc
  rw [hpp] at hPk
  obtain ⟨q, hqq⟩ : ∃ q, pickP t d f g = q := ⟨_, rfl⟩
  have hq : placeB t q = true := hqq ▸ pick_place hS.tx hfd.1 hff.1 hfg.1
  have hQk := lawPick_pure t d f g hS.tx hfd hff hfg
  rw [hqq] at hQk
  have hnp := numE_eq hS.tx hp
  have hnq := numE_eq hS.tx hq
  have hp0 := placed_ok hS.tx hp
  have hq0 := placed_ok hS.tx hq
  have hnpb := num_bd hS.tx hp
  have hnqb := num_bd hS.tx hq
  refine aops_n rfl (n_not rfl rfl) ?_
  refine yM rfl rfl ?_
  refine yM rfl rfl ?_
  refine aops_n rfl (n_not rfl rfl) ?_
  refine aops_n rfl (n_pf rfl rfl (by constructor)) ?_
  refine yN ?_
  dsimp only [St.put]
  refine K4 _ ?_
  refine aw_cond rfl (fun h => by cases h) (fun _ => ?_)
  refine aw_skip ?_
  refine K3 _ ?_
  refine aw_wipe 20 ?_
  simp only [firsts, getA, Nat.reduceAdd, List.getD_cons_zero, List.getD_cons_succ, List.getD_nil, natBeq, Nat.reduceBEq, cond_true, cond_false]
  refine aw_forget (G) zX ?_
  dsimp only
  refine aw_cutD (X := Unit) (fun _ => True) (fun _ => [(18, .elem (cells p)), (19, .elem (cells q))]) (fun _ G' => G') rfl ?_ (fun _ _ _ _ h => .inl h) ?_ ?_
  ·rintro _ hI
   exact zL
  ·refine aw_drawT [(0, none), (1, none), (2, none), (3, none), (5, none), (6, none), (7, none), (8, none)] (fun _ => false) (fun i => [1, 2, 3, 6, 7, 8].contains i) 6 [true, true, true, true, false, true, true, true, true, false, false, false, false, false] (by kernel_rfl) (by kernel_rfl) ?_
   try dsimp only [St.put]
   refine acan1_s rfl rfl rfl rfl (s_load_agg' rfl rfl rfl) ?_
   refine xM rfl rfl rfl rfl rfl ?_
   refine xM rfl rfl rfl rfl rfl ?_
   refine xM rfl rfl rfl rfl rfl ?_
   try dsimp only [St.put]
   refine acan1_s rfl rfl rfl rfl (s_load_agg' rfl rfl rfl) ?_
   refine xM rfl rfl rfl rfl rfl ?_
   refine xM rfl rfl rfl rfl rfl ?_
   refine xM rfl rfl rfl rfl rfl ?_
   refine acan1_nil ?_
   repeat' (first
    | with_reducible exact aeach_nil
    | with_reducible refine aeach_cons ?_ ?_
    | ((with_reducible show AOne _ _ _ _ _ _ 4 _); (try dsimp only [St.put]); (refine aone_e rfl rfl rfl (e_call_pure rfl rfl rfl (hPk) ?_)); (try dsimp only [List.set_cons_zero, List.set_cons_succ]))
    | ((with_reducible show AOne _ _ _ _ _ _ 9 _); (try dsimp only [St.put]); (refine aone_e rfl rfl rfl (e_call_pure rfl rfl rfl (hQk) ?_)); (try dsimp only [List.set_cons_zero, List.set_cons_succ]))
    | ((with_reducible show AOne _ _ _ _ _ _ 10 _); (try dsimp only [St.put]); (refine aone_e rfl rfl rfl (e_allocC rfl ?_)); (try dsimp only [List.set_cons_zero, List.set_cons_succ]))
    | ((with_reducible show AOne _ _ _ _ _ _ 11 _); (try dsimp only [St.put]); (refine aone_e rfl rfl rfl (e_allocC rfl ?_)); (try dsimp only [List.set_cons_zero, List.set_cons_succ]))
    | ((with_reducible show AOne _ _ _ _ _ _ 12 _); (try dsimp only [St.put]); (first | refine aone_e rfl rfl rfl (e_store_all rfl rfl rfl zG rfl rfl (by rfl) ?_) | refine aone_e rfl rfl rfl (e_store_one rfl rfl rfl zG (by constructor) rfl (by first | (simp; done) | (simp; omega) | exact Nat.lt_of_lt_of_eq (by decide) (Enc.len _).symm) ?_)); (try dsimp only [List.set_cons_zero, List.set_cons_succ]))
    | ((with_reducible show AOne _ _ _ _ _ _ 13 _); (try dsimp only [St.put]); (first | refine aone_e rfl rfl rfl (e_store_all rfl rfl rfl zG rfl rfl (by rfl) ?_) | refine aone_e rfl rfl rfl (e_store_one rfl rfl rfl zG (by constructor) rfl (by first | (simp; done) | (simp; omega) | exact Nat.lt_of_lt_of_eq (by decide) (Enc.len _).symm) ?_)); (try dsimp only [List.set_cons_zero, List.set_cons_succ]))
    | with_reducible refine aany_step (listed := [true, true, true, true, false, true, true, true, true, false, false, false, false, false]) [4, 10, 11] (by kernel_rfl) (by simp) ?_
    | with_reducible refine aany_step (listed := [true, true, true, true, true, true, true, true, true, false, false, false, false, false]) [9, 10, 11] (by kernel_rfl) (by simp) ?_
    | with_reducible refine aany_step (listed := [true, true, true, true, true, true, true, true, true, true, false, false, false, false]) [10, 11] (by kernel_rfl) (by simp) ?_
    | with_reducible refine aany_step (listed := [true, true, true, true, true, true, true, true, true, true, true, false, false, false]) [11] (by kernel_rfl) (by simp) ?_
    | with_reducible refine aany_step (listed := [true, true, true, true, true, true, true, true, true, true, true, true, false, false]) [12] (by kernel_rfl) (by simp) ?_
    | with_reducible refine aany_step (listed := [true, true, true, true, true, true, true, true, true, true, true, true, true, false]) [13] (by kernel_rfl) (by simp) ?_
    | with_reducible refine aany_step (listed := [true, true, true, true, true, true, true, true, true, true, false, true, false, false]) [10] (by kernel_rfl) (by simp) ?_
    | with_reducible refine aany_step (listed := [true, true, true, true, true, true, true, true, true, false, true, false, false, false]) [9, 11] (by kernel_rfl) (by simp) ?_
    | with_reducible refine aany_step (listed := [true, true, true, true, true, true, true, true, true, false, true, true, false, false]) [9] (by kernel_rfl) (by simp) ?_
    | with_reducible refine aany_step (listed := [true, true, true, true, true, true, true, true, true, false, false, true, false, false]) [9, 10] (by kernel_rfl) (by simp) ?_
    | with_reducible refine aany_step (listed := [true, true, true, true, false, true, true, true, true, false, true, false, false, false]) [4, 11] (by kernel_rfl) (by simp) ?_
    | with_reducible refine aany_step (listed := [true, true, true, true, false, true, true, true, true, false, true, true, false, false]) [4] (by kernel_rfl) (by simp) ?_
    | with_reducible refine aany_step (listed := [true, true, true, true, false, true, true, true, true, false, false, true, false, false]) [4, 10] (by kernel_rfl) (by simp) ?_
    | ((with_reducible show AAny _ _ _ _ _ [true, true, true, true, true, true, true, true, true, true, true, true, true, true] _)
       try dsimp only [St.put]
       refine aany_of_tr (tr_commit (i := 18) rfl zG (by first | exact List.cons_ne_nil _ _ | (simp; done) | (simp [putAt]; done))) ?_
       refine aany_of_tr (tr_commit (i := 19) rfl zG (by first | exact List.cons_ne_nil _ _ | (simp; done) | (simp [putAt]; done))) ?_
       dsimp only
       refine aany_nil (by kernel_rfl) ?_
       exact ⟨(), trivial, ⟨⟨rfl, rfl⟩, zF, zB, zN, zX⟩⟩))
  rintro _ hU
  dsimp only at hU ⊢
  refine yS fun _ K6 => ?_
  refine yR ?_
  try dsimp only [St.put]
  refine aops_s rfl (s_load_agg' rfl rfl rfl) ?_
  refine yE rfl rfl rfl ?_
  refine yE rfl rfl rfl ?_
  try dsimp only [St.put]
  refine aops_e rfl (e_call_f rfl rfl rfl (chartNear_pureF t e p hle) zG ?_)
  refine yM rfl rfl ?_
  refine yX rfl rfl rfl rfl ?_
  refine yX rfl rfl rfl rfl ?_
  refine yA rfl rfl ?_
  refine yA rfl rfl ?_
  refine yN ?_
  dsimp only [St.put]
  refine K6 _ ?_
  refine yS fun _ K7 => ?_
  refine yS fun _ K8 => ?_
  refine yR ?_
  try dsimp only [St.put]
  refine aops_s rfl (s_load_agg' rfl rfl rfl) ?_
  refine yE rfl rfl rfl ?_
  refine yE rfl rfl rfl ?_
  try dsimp only [St.put]
  refine aops_e rfl (e_call_f rfl rfl rfl (lawThere_pureF t e p hle) zG ?_)
  refine yN ?_
  dsimp only [St.put]
  refine K8 _ ?_
  refine aw_cond rfl (fun hc => ?_) (fun hc => ?_)
  ·replace hc := of_decide_eq_true hc
   obtain ⟨hE, hV⟩ := nearV_there h0 hp hc
   rw [hE, hV]
   refine yS fun _ K9 => ?_
   refine yR ?_
   refine yM rfl rfl ?_
   refine yM rfl rfl ?_
   refine yM rfl rfl ?_
   refine yM rfl rfl ?_
   refine yE rfl rfl rfl ?_
   try dsimp only [St.put]
   refine aops_e rfl (e_buildSlice rfl rfl rfl (by decide) (by decide) zR (by decide) ?_)
   try dsimp only [St.put]
   refine aops_e rfl (e_call_pure rfl rfl rfl (lawNear_self [p]) ?_)
   refine aops_n rfl (n_pt rfl rfl (by constructor)) ?_
   refine yA rfl rfl ?_
   refine yN ?_
   dsimp only [St.put]
   refine K9 _ ?_
   refine aw_ret ?_
   refine ends_1 rfl (by constructor) zN zS ?_
   rfl
  replace hc := of_decide_eq_false hc
  obtain ⟨hno, _, _⟩ := refer_none h0 hp hc
  refine aw_skip ?_
  refine K7 _ ?_
  refine yS fun _ K10 => ?_
  refine yS fun _ K11 => ?_
  refine yR ?_
  refine yM rfl rfl ?_
  refine aops_n rfl (n_neq rfl rfl rfl) ?_
  refine yN ?_
  dsimp only [St.put]
  refine K11 _ ?_
  refine aw_cond rfl (fun hc => ?_) (fun hc => ?_)
  ·replace hc := nd_t hc
   obtain ⟨hE, hV, hL⟩ := nearV_no h0 hp hc
   have hqn := near_none h0 hp hno hL hq
   rw [hE, hV]
   refine yS fun _ K12 => ?_
   refine yR ?_
   refine yM rfl rfl ?_
   refine yM rfl rfl ?_
   refine yM rfl rfl ?_
   refine aops_n rfl (n_bool (n_eql rfl rfl rfl) (decide_eq_true (by omega))) ?_
   refine aops_n rfl (n_pt rfl rfl (by constructor)) ?_
   refine yM rfl rfl ?_
   refine yM rfl rfl ?_
   refine aops_n rfl (n_len' rfl rfl (List.length_map _)) ?_
   refine aops_n rfl (n_bool (c := true) (n_eql rfl rfl rfl) (decide_eq_true (by rfl))) ?_
   refine aops_n rfl (n_pt rfl rfl (by constructor)) ?_
   refine yM rfl rfl ?_
   try dsimp only [St.put]
   refine aops_s rfl (s_load_agg' rfl rfl rfl) ?_
   refine yE rfl rfl rfl ?_
   refine yE rfl rfl rfl ?_
   try dsimp only [St.put]
   refine aops_e rfl (e_call_f rfl rfl rfl (lawThere_no hle hqn) zG ?_)
   refine aops_n rfl (n_not rfl rfl) ?_
   refine aops_n rfl (n_pt rfl rfl (by constructor)) ?_
   refine yA rfl rfl ?_
   refine yN ?_
   dsimp only [St.put]
   refine K12 _ ?_
   refine aw_ret ?_
   refine ends_1 rfl (by constructor) zN zS ?_
   rfl
  replace hc := nd_f hc
  obtain ⟨hV, hne⟩ := nearV_ok h0 hp hc
  obtain ⟨lo, hi, hL, hlo, hhi⟩ := near_ok (t := t) hno
  rw [hV, hL]
  rw [hL] at hne
  have hLl : (lo.toList ++ hi.toList).length ≤ 2 := by cases lo <;> cases hi <;> simp
  have hLn : 0 < (lo.toList ++ hi.toList).length := List.length_pos_iff.2 hne
  refine aw_skip ?_
  refine K10 _ ?_
  refine yS fun _ K13 => ?_
  refine yR ?_
  try dsimp only [St.put]
  refine aops_s rfl (s_load_agg' rfl rfl rfl) ?_
  refine yE rfl rfl rfl ?_
  try dsimp only [St.put]
  refine aops_e rfl (e_call_pure rfl rfl rfl (leafNumber_pure t p) ?_)
  refine yM rfl rfl ?_
  refine yX rfl rfl rfl rfl ?_
  refine yX rfl rfl rfl rfl ?_
  refine yA rfl rfl ?_
  refine yA rfl rfl ?_
  refine yN ?_
  dsimp only [St.put]
  rw [hnp, hp0]
  refine K13 _ ?_
  refine yS fun _ K14 => ?_
  refine yR ?_
  try dsimp only [St.put]
  refine aops_s rfl (s_load_agg' rfl rfl rfl) ?_
  refine yE rfl rfl rfl ?_
  try dsimp only [St.put]
  refine aops_e rfl (e_call_pure rfl rfl rfl (leafNumber_pure t q) ?_)
  refine yM rfl rfl ?_
  refine yX rfl rfl rfl rfl ?_
  refine yX rfl rfl rfl rfl ?_
  refine yA rfl rfl ?_
  refine yA rfl rfl ?_
  refine yN ?_
  dsimp only [St.put]
  rw [hnq, hq0]
  refine K14 _ ?_
  refine yS fun _ K15 => ?_
  refine yS fun _ K16 => ?_
  refine yR ?_
  refine yM rfl rfl ?_
  refine aops_n rfl (n_bool (n_neq rfl rfl rfl) (not_dec_f (by omega))) ?_
  refine yM rfl rfl ?_
  refine yM rfl rfl ?_
  refine aops_n rfl (n_bool (n_neq rfl rfl rfl) (not_dec_f (by omega))) ?_
  refine aops_n rfl (n_pf rfl rfl (by constructor)) ?_
  refine yM rfl rfl ?_
  refine yM rfl rfl ?_
  refine aops_n rfl (n_len' rfl rfl (List.length_map _)) ?_
  refine aops_n rfl (n_bool (n_lss rfl rfl rfl) (decide_eq_false (by omega))) ?_
  refine aops_n rfl (n_pf rfl rfl (by constructor)) ?_
  refine yM rfl rfl ?_
  refine yM rfl rfl ?_
  refine aops_n rfl (n_len' rfl rfl (List.length_map _)) ?_
  refine aops_n rfl (n_bool (n_gtr rfl rfl rfl) (decide_eq_false (by omega))) ?_
  refine aops_n rfl (n_pf rfl rfl (by constructor)) ?_
  refine yN ?_
  dsimp only [St.put]
  refine K16 _ ?_
  refine aw_cond rfl (fun h => by cases h) (fun _ => ?_)
  refine aw_skip ?_
  refine K15 _ ?_
  refine yS fun _ K17 => ?_
  refine yR ?_
  refine yA rfl rfl ?_
  refine yA rfl rfl ?_
  refine yN ?_
  dsimp only [St.put]
  refine K17 _ ?_
  refine yS fun _ K18 => ?_
  refine yS fun _ K19 => ?_
  refine yR ?_
  refine yM rfl rfl ?_
  refine aops_n rfl (n_len' rfl rfl (List.length_map _)) ?_
  refine yM rfl rfl ?_
  refine yN ?_
  dsimp only [St.put]
  refine K19 _ ?_
  refine aw_block ?_
  refine aw_wipe 121 ?_
  simp only [firsts, getA, Nat.reduceAdd, List.getD_cons_zero, List.getD_cons_succ, List.getD_nil, natBeq, Nat.reduceBEq, cond_true, cond_false]
  refine aw_forget (G) zX ?_
  dsimp only
  refine aw_loopD (X := Nat × Int × Int) (fun x => x.1 ≤ (lo.toList ++ hi.toList).length ∧ x.2.1 = nbL t (lo.toList.take x.1) ∧ x.2.2 = nbL t (hi.toList.take (x.1 - lo.toList.length))) (fun x => (lo.toList ++ hi.toList).length - x.1) (fun x => [(26, .v (.int .i64 x.2.1)), (27, .v (.int .i64 x.2.2)), (28, .any), (29, .any), (30, .any), (31, .any), (120, .v (.int .i64 (x.1 : Int)))]) (fun x G' => G') (0, -1, -1) rfl ?_ ?_ (fun _ _ h => h) ?_ ?_ ?_
  ·exact ⟨Nat.zero_le _, rfl, by simp [nbL]⟩
  ·exact zF
  ·rintro ⟨k, bf, bh⟩ hI
   exact zL
  ·exact fun _ _ _ _ h => .inl h
  rintro ⟨k, bf, bh⟩ hI
  dsimp only at hI ⊢
  refine yS fun _ K20 => ?_
  refine yR ?_
  refine aops_n rfl (n_lss rfl rfl rfl) ?_
  refine yN ?_
  dsimp only [St.put]
  refine K20 _ ?_
  refine yS fun _ K21 => ?_
  refine aw_cond rfl (fun hc => ?_) (fun hc => ?_)
  ·replace hc := of_decide_eq_true hc
   obtain ⟨y, hy⟩ : ∃ x, (lo.toList ++ hi.toList)[k]? = some x := some_of_lt (by omega)
   obtain ⟨hyw, hyc⟩ := near_mem hp hlo hhi hy
   obtain ⟨hyp, hyE, _⟩ := words_refer h0 hyw
   have hny := numE_eq hS.tx hyp
   have hy0 := placed_ok hS.tx hyp
   have hnyb := num_bd hS.tx hyp
   refine aw_skip ?_
   refine K21 _ ?_
   refine yS fun _ K22 => ?_
   refine aw_block ?_
   refine yS fun _ K23 => ?_
   refine yR ?_
   refine aops_n rfl (n_indexAddr rfl rfl rfl rfl (map_get (by assumption)) (Enc.len _)) ?_
   refine yE rfl rfl rfl ?_
   try dsimp only [St.put]
   refine aops_e rfl (e_allocC rfl ?_)
   try dsimp only [St.put]
   refine aops_e rfl (e_store_all rfl rfl rfl zG rfl rfl (by rfl) ?_)
   refine yN ?_
   dsimp only [St.put]
   refine K23 _ ?_
   refine aw_commitD (i := 29) rfl zG (by first | exact List.cons_ne_nil _ _ | (simp; done) | (simp [putAt]; done)) ?_
   dsimp only
   refine yS fun _ K24 => ?_
   refine yR ?_
   try dsimp only [St.put]
   refine aops_s rfl (s_load_agg' rfl rfl rfl) ?_
   refine yE rfl rfl rfl ?_
   try dsimp only [St.put]
   refine aops_e rfl (e_call_pure rfl rfl rfl (leafNumber_pure t y) ?_)
   refine yM rfl rfl ?_
   refine yX rfl rfl rfl rfl ?_
   refine yX rfl rfl rfl rfl ?_
   refine yA rfl rfl ?_
   refine yA rfl rfl ?_
   refine yN ?_
   dsimp only [St.put]
   rw [hny, hy0]
   refine K24 _ ?_
   refine aw_block ?_
   refine yS fun _ K25 => ?_
   refine yR ?_
   refine yM rfl rfl ?_
   refine aops_n rfl (n_bool (n_neq rfl rfl rfl) (not_dec_f (by omega))) ?_
   refine yM rfl rfl ?_
   try dsimp only [St.put]
   refine aops_s rfl (s_load_agg' rfl rfl rfl) ?_
   refine yE rfl rfl rfl ?_
   refine yE rfl rfl rfl ?_
   try dsimp only [St.put]
   refine aops_e rfl (e_call_f rfl rfl rfl (lawThere_yes hle hyE) zG ?_)
   refine aops_n rfl (n_not rfl rfl) ?_
   refine aops_n rfl (n_pf rfl rfl (by constructor)) ?_
   refine yM rfl rfl ?_
   refine yM rfl rfl ?_
   refine yM rfl rfl ?_
   refine aops_n rfl (n_bool (n_eql rfl rfl rfl) (decide_eq_false (by omega))) ?_
   refine aops_n rfl (n_pf rfl rfl (by constructor)) ?_
   refine yA rfl rfl ?_
   refine yN ?_
   dsimp only [St.put]
   refine K25 _ ?_
   refine aw_cond rfl (fun h => by cases h) (fun _ => ?_)
   refine yS fun _ K26 => ?_
   refine yR ?_
   refine yM rfl rfl ?_
   refine yM rfl rfl ?_
   refine aops_n rfl (n_lss rfl rfl rfl) ?_
   refine aops_split (fun hs => ?_) (fun hs => ?_)
   ·have hlt1 := of_decide_eq_true hs
    obtain ⟨ha1, hk0⟩ : lo = some y ∧ k = 0 := by
     rcases hyc with h | h
     ·exact ⟨h.1, h.2.1⟩
     exact absurd hlt1 (by omega)
    have hu0 : bf = -1 := by rw [hI.2.1, hk0]; rfl
    have hw0 : bh = -1 := by rw [hI.2.2, hk0]; simp [nbL]
    have hN1 : (numP t y : Int) = nbL t (lo.toList.take (k + 1)) := by rw [ha1, hk0]; rfl
    have hN2 : bh = nbL t (hi.toList.take (k + 1 - lo.toList.length)) := by rw [hI.2.2, ha1, hk0]; simp
    refine yM rfl rfl ?_
    refine yM rfl rfl ?_
    refine aops_n rfl (n_bool (n_lss rfl rfl rfl) (decide_eq_true (by omega))) ?_
    refine aops_n rfl (n_pt rfl rfl (by constructor)) ?_
    refine yM rfl rfl ?_
    refine yM rfl rfl ?_
    refine aops_n rfl (n_bool (n_lss rfl rfl rfl) (decide_eq_true (by omega))) ?_
    refine aops_n rfl (n_pt rfl rfl (by constructor)) ?_
    refine yA rfl rfl ?_
    refine yN ?_
    dsimp only [St.put]
    refine K26 _ ?_
    refine aw_cond rfl (fun _ => ?_) (fun h => by cases h)
    refine yR ?_
    refine yM rfl rfl ?_
    refine yA rfl rfl ?_
    refine yN ?_
    dsimp only [St.put]
    refine K22 _ ?_
    refine yR ?_
    refine aops_n rfl (n_add rfl rfl rfl (by omega)) ?_
    refine yM rfl rfl ?_
    refine yN ?_
    dsimp only [St.put]
    first
     | exact ⟨(k + 1, (numP t y : Int), bh), by (dsimp only; omega), ⟨by (dsimp only; omega), hN1, hN2⟩, ⟨⟨rfl, rfl⟩, zF, zB, zN, zX⟩⟩
     | exact ⟨(k + 1, bf, (numP t y : Int)), by (dsimp only; omega), ⟨by (dsimp only; omega), hN1, hN2⟩, ⟨⟨rfl, rfl⟩, zF, zB, zN, zX⟩⟩
   have hlt1 := of_decide_eq_false hs
   obtain ⟨hb1, hk0, hgt1⟩ : hi = some y ∧ k = lo.toList.length ∧ numP t p < numP t y := by
    rcases hyc with h | h
    ·exact absurd h.2.2 (by omega)
    exact h
   have hw0 : bh = -1 := by rw [hI.2.2, hk0]; simp [nbL]
   have hN1 : bf = nbL t (lo.toList.take (k + 1)) := by rw [hI.2.1, hk0, List.take_of_length_le (Nat.le_refl _), List.take_of_length_le (Nat.le_succ _)]
   have hN2 : (numP t y : Int) = nbL t (hi.toList.take (k + 1 - lo.toList.length)) := by rw [hb1, hk0, show lo.toList.length + 1 - lo.toList.length = 1 by omega]; rfl
   refine yM rfl rfl ?_
   refine yK rfl ?_
   refine yK rfl ?_
   refine aops_n rfl (n_pf rfl rfl (by constructor)) ?_
   refine yM rfl rfl ?_
   refine yK rfl ?_
   refine yK rfl ?_
   refine aops_n rfl (n_pf rfl rfl (by constructor)) ?_
   refine yA rfl rfl ?_
   refine yN ?_
   dsimp only [St.put]
   refine K26 _ ?_
   refine aw_cond rfl (fun h => by cases h) (fun _ => ?_)
   refine yS fun _ K27 => ?_
   refine yR ?_
   refine yM rfl rfl ?_
   refine yM rfl rfl ?_
   refine aops_n rfl (n_bool (n_gtr rfl rfl rfl) (decide_eq_true (by omega))) ?_
   refine yM rfl rfl ?_
   refine yM rfl rfl ?_
   refine aops_n rfl (n_bool (n_lss rfl rfl rfl) (decide_eq_true (by omega))) ?_
   refine aops_n rfl (n_pt rfl rfl (by constructor)) ?_
   refine yA rfl rfl ?_
   refine yN ?_
   dsimp only [St.put]
   refine K27 _ ?_
   refine aw_cond rfl (fun _ => ?_) (fun h => by cases h)
   refine yR ?_
   refine yM rfl rfl ?_
   refine yA rfl rfl ?_
   refine yN ?_
   dsimp only [St.put]
   refine K22 _ ?_
   refine yR ?_
   refine aops_n rfl (n_add rfl rfl rfl (by omega)) ?_
   refine yM rfl rfl ?_
   refine yN ?_
   dsimp only [St.put]
   first
    | exact ⟨(k + 1, (numP t y : Int), bh), by (dsimp only; omega), ⟨by (dsimp only; omega), hN1, hN2⟩, ⟨⟨rfl, rfl⟩, zF, zB, zN, zX⟩⟩
    | exact ⟨(k + 1, bf, (numP t y : Int)), by (dsimp only; omega), ⟨by (dsimp only; omega), hN1, hN2⟩, ⟨⟨rfl, rfl⟩, zF, zB, zN, zX⟩⟩
  replace hc := of_decide_eq_false hc
  obtain ⟨hk1, hbf, hbh⟩ := hI
  rw [List.take_of_length_le (show lo.toList.length ≤ k by rw [List.length_append] at hc; omega)] at hbf
  rw [List.take_of_length_le (show hi.toList.length ≤ k - lo.toList.length by rw [List.length_append] at hc; omega)] at hbh
  refine aw_exit ?_
  refine K18 _ ?_
  refine yS fun _ K28 => ?_
  refine yS fun _ K29 => ?_
  refine yR ?_
  try dsimp only [St.put]
  refine aops_s rfl (s_load_agg' rfl rfl rfl) ?_
  refine yE rfl rfl rfl ?_
  refine yE rfl rfl rfl ?_
  try dsimp only [St.put]
  refine aops_e rfl (e_call_f rfl rfl rfl (lawThere_pureF t e q hle) zG ?_)
  refine aops_n rfl (n_not rfl rfl) ?_
  refine yN ?_
  dsimp only [St.put]
  refine K29 _ ?_
  refine aw_cond rfl (fun hc => ?_) (fun hc => ?_)
  ·skip
   refine yS fun _ K30 => ?_
   refine yR ?_
   refine yM rfl rfl ?_
   refine yA rfl rfl ?_
   refine yN ?_
   dsimp only [St.put]
   refine K30 _ ?_
   refine aw_ret ?_
   refine ends_1 rfl (by constructor) zN zS ?_
   rfl
  have hqE : referEr t e q = 0 := by simpa using hc
  obtain ⟨hqw, _⟩ := refer_words h0 hq hqE
  have hqp := near_ne h0 hp hno hqw
  have hnn := mt (num_eq hq hp).1 hqp
  refine aw_skip ?_
  refine K28 _ ?_
  refine yS fun _ K31 => ?_
  refine yR ?_
  refine yM rfl rfl ?_
  refine yM rfl rfl ?_
  refine yM rfl rfl ?_
  refine yM rfl rfl ?_
  refine aops_n rfl (n_lss rfl rfl rfl) ?_
  refine aops_split (fun hs => ?_) (fun hs => ?_)
  ·have hlt1 := of_decide_eq_true hs
   have hfin := near_lo hp hlo hqw (by omega)
   refine yM rfl rfl ?_
   refine yM rfl rfl ?_
   refine yM rfl rfl ?_
   refine aops_n rfl (n_bool (n_leq rfl rfl rfl) (decide_eq_true (by omega))) ?_
   refine aops_n rfl (n_pt rfl rfl (by constructor)) ?_
   refine yM rfl rfl ?_
   refine yK rfl ?_
   refine yK rfl ?_
   refine yK rfl ?_
   refine yK rfl ?_
   refine yK rfl ?_
   refine yK rfl ?_
   refine yK rfl ?_
   refine yK rfl ?_
   refine yK rfl ?_
   refine yK rfl ?_
   refine yK rfl ?_
   refine yK rfl ?_
   refine aops_n rfl (n_pt rfl rfl (by constructor)) ?_
   refine aops_n rfl (n_pt rfl rfl (by constructor)) ?_
   refine yA rfl rfl ?_
   refine yN ?_
   dsimp only [St.put]
   refine K31 _ ?_
   refine aw_ret ?_
   refine ends_1 rfl (by constructor) zN zS ?_
   rfl
  have hlt1 := of_decide_eq_false hs
  have hfin := near_hi hp hhi hqw (by omega)
  refine yM rfl rfl ?_
  refine yK rfl ?_
  refine yK rfl ?_
  refine yK rfl ?_
  refine aops_n rfl (n_pf rfl rfl (by constructor)) ?_
  refine yM rfl rfl ?_
  refine yM rfl rfl ?_
  refine yM rfl rfl ?_
  refine aops_n rfl (n_bool (n_gtr rfl rfl rfl) (decide_eq_true (by omega))) ?_
  refine yM rfl rfl ?_
  refine yM rfl rfl ?_
  refine aops_n rfl (n_bool (n_geq rfl rfl rfl) (decide_eq_true (by omega))) ?_
  refine aops_n rfl (n_pt rfl rfl (by constructor)) ?_
  refine yM rfl rfl ?_
  refine yM rfl rfl ?_
  refine yM rfl rfl ?_
  refine aops_n rfl (n_bool (n_geq rfl rfl rfl) (decide_eq_true (by omega))) ?_
  refine aops_n rfl (n_pt rfl rfl (by constructor)) ?_
  refine aops_n rfl (n_pf rfl rfl (by constructor)) ?_
  refine aops_n rfl (n_pt rfl rfl (by constructor)) ?_
  refine yA rfl rfl ?_
  refine yN ?_
  dsimp only [St.put]
  refine K31 _ ?_
  refine aw_ret ?_
  refine ends_1 rfl (by constructor) zN zS ?_
  rfl
 skip
 refine aops_n rfl (n_not rfl rfl) ?_
 refine yM rfl rfl ?_
 refine yK rfl ?_
 refine yK rfl ?_
 refine aops_n rfl (n_pt rfl rfl (by constructor)) ?_
 refine yN ?_
 dsimp only [St.put]
 refine K4 _ ?_
 refine aw_cond rfl (fun _ => ?_) (fun h => by cases h)
 refine yS fun _ K32 => ?_
 refine yR ?_
 refine yM rfl rfl ?_
 refine yA rfl rfl ?_
 refine yN ?_
 dsimp only [St.put]
 refine K32 _ ?_
 refine aw_ret ?_
 refine ends_1 rfl (by constructor) zN zS ?_
 rfl
end Go.Proofs.YtjjklfgpffgnfabGreatDoor
