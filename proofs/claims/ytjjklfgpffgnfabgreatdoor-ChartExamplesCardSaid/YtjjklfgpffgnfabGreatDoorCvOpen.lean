/-
 Contracts of the program's functions of charts: what is valid; books.
-/
import Derived.Test.YtjjklfgpffgnfabGreatDoorCuFuncs
import Derived.Test.YtjjklfgpffgnfabGreatDoorLcCheck
namespace Go.AB
open Go Go.RowKit
open Go.AB.Enc (cells)
open Go.PB (Chap TextD PlaceD)
/-- the cells of an open book -/
def bookC (t : TextD) (e : EditionD) (n m : Nat) : List C := [.v (.int .i64 e.id), lst e.ss, lst t, .map n, .map m]
theorem capp_low (f : L2 → Option L2) (n : Nat) : ∀ x c, capp f x = some c → C.low n c := by
 intro x c h
 unfold capp at h
 cases hf : f x with
 | none => rw [hf] at h; cases h
 | some v =>
  rw [hf] at h
  cases h
  exact .agg (low_cons .v (low_cons .v low_nil))
theorem capp_get (f : L2 → Option L2) (p : L2) : ∃ v : L2, (capp f p).getD (constC (.agg #[.int .i64 0, .int .i64 0])) = .agg [.v (.int .i64 v.1), .v (.int .i64 v.2)] := by
 unfold capp
 cases f p with
 | none => exact ⟨(0, 0), rfl⟩
 | some v => exact ⟨v, rfl⟩
theorem take_cut {ss : List StretchD} {k i : Nat} {s : StretchD} (hs : ss[k]? = some s) (hi : s.tt = s.fr + i) : ss.take k ++ [cutS s i] = ss.take (k + 1) := by
 rw [cutS_all hi, List.take_add_one, hs]; rfl
end Go.AB
namespace Go.Proofs.YtjjklfgpffgnfabGreatDoor
set_option maxRecDepth 10000
open Go.RowKit Go.AB
open Go.AB.Enc (cells)
open Go.PB (Chap TextD PlaceD ReadingD CopyD WayD)
theorem chartCheck_pureF (t : TextD) (e : EditionD) (hl : e.ss.length ≤ 20) : PureF chkF Tryz.prog 26 [textC t, val e] (.v (.int .i64 (checkEr t e))) := by
 refine pureF_of_body Tryz.func26 rfl (fun m => .v) fun G nx hF => ?_
 simp only [Tryz.ntmps26, List.length_cons, List.length_nil, Nat.reduceAdd, Nat.reduceSub]
 refine aw_lt fun hlt => ?_
 dsimp only at hlt
 have hnx := hlt 0 _ hF
 refine yS fun _ K1 => ?_
 refine yR ?_
 try dsimp only [St.put]
 refine yB rfl rfl rfl ?_
 try dsimp only [St.put]
 refine yB rfl rfl rfl ?_
 refine yA rfl rfl ?_
 refine yN ?_
 dsimp only [St.put]
 refine K1 _ ?_
 refine yS fun _ K2 => ?_
 refine yS fun _ K3 => ?_
 refine yR ?_
 try dsimp only [St.put]
 refine aops_s rfl (s_load_agg' rfl rfl rfl) ?_
 try dsimp only [St.put]
 refine aops_e rfl (e_call_pure rfl rfl rfl (leafCheck_pure t) ?_)
 refine yA rfl rfl ?_
 refine yN ?_
 dsimp only [St.put]
 refine K3 _ ?_
 refine yS fun _ K4 => ?_
 refine yR ?_
 refine yM rfl rfl ?_
 refine aops_n rfl (n_neq rfl rfl rfl) ?_
 refine yN ?_
 dsimp only [St.put]
 refine K4 _ ?_
 refine aw_cond rfl (fun hc => ?_) (fun hc => ?_)
 ·have htx : textB t = false := by
   cases h : textB t
   ·rfl
   simp [textEr, h] at hc
  refine yS fun _ K5 => ?_
  refine yR ?_
  refine yM rfl rfl ?_
  refine yA rfl rfl ?_
  refine yN ?_
  dsimp only [St.put]
  refine K5 _ ?_
  refine aw_ret ?_
  refine ends_1 rfl (by constructor) zN zS ?_
  exact vi (by simp [checkEr, textEr, htx])
 have htx : textB t = true := by
  cases h : textB t
  ·simp [textEr, h] at hc
  rfl
 refine aw_skip ?_
 refine K2 _ ?_
 refine yS fun _ K6 => ?_
 refine yR ?_
 refine yF rfl rfl rfl rfl ?_
 refine yL rfl rfl rfl ?_
 refine aops_n rfl (n_makeFunc rfl rfl) ?_
 try dsimp only [St.put]
 refine aops_e rfl (e_call_f rfl rfl rfl (picked_pureF e.ss (fun s => !strB t s) _ _ hl fun s _ => chartCheck1_pureF t s htx) zG ?_)
 refine yA rfl rfl ?_
 refine yN ?_
 dsimp only [St.put]
 have hfl := List.length_filter_le (fun s => !strB t s) e.ss
 refine K6 _ ?_
 refine yS fun _ K7 => ?_
 refine aw_wipe 16 ?_
 simp only [firsts, getA, Nat.reduceAdd, List.getD_cons_zero, List.getD_cons_succ, List.getD_nil, natBeq, Nat.reduceBEq, cond_true, cond_false]
 refine aw_cutD (X := Bool) (fun b => b = !editionB t e) (fun b => [(31, .v (.bool b))]) (fun b G' => G') rfl ?_ (fun _ _ _ _ h => .inl h) ?_ ?_
 ·rintro b hI
  exact zL
 ·refine yR ?_
  refine yF rfl rfl rfl rfl ?_
  refine yL rfl rfl rfl ?_
  try dsimp only [St.put]
  refine aops_e rfl (e_buildSlice rfl rfl rfl (by decide) (by decide) zR (by decide) ?_)
  try dsimp only [St.put]
  refine aops_e rfl (e_call_pure rfl rfl rfl (chartIn_pure _ _ [e.id]) ?_)
  refine aops_n rfl (n_not rfl rfl) ?_
  refine yM rfl rfl ?_
  refine aops_split (fun hs => ?_) (fun hs => ?_)
  ·have h5 : inB e.id 0 9999 = false := by rw [inAll_one] at hs; simpa using hs
   refine yK rfl ?_
   refine yK rfl ?_
   refine yK rfl ?_
   refine yK rfl ?_
   refine aops_n rfl (n_pt rfl rfl (by constructor)) ?_
   refine yM rfl rfl ?_
   refine yK rfl ?_
   refine yK rfl ?_
   refine yK rfl ?_
   refine aops_n rfl (n_pt rfl rfl (by constructor)) ?_
   refine yN ?_
   dsimp only [St.put]
   refine ⟨_, ?_, ⟨⟨rfl, rfl⟩, zF, zB, zN, zX⟩⟩
   rw [editionB_wrong]
   (rw [h5]; rfl)
  have h5 : inB e.id 0 9999 = true := by rw [inAll_one] at hs; simpa using hs
  refine yF rfl rfl rfl rfl ?_
  refine yL rfl rfl rfl ?_
  refine aops_n rfl (n_len' rfl rfl (List.length_map _)) ?_
  refine aops_n rfl (n_gtr rfl rfl rfl) ?_
  refine aops_n rfl (n_pf rfl rfl (by constructor)) ?_
  refine yM rfl rfl ?_
  refine aops_split (fun hs => ?_) (fun hs => ?_)
  ·have h11 : decide (e.ss.length ≤ 12) = false := by have := of_decide_eq_true hs; rw [decide_eq_false_iff_not]; omega
   refine yK rfl ?_
   refine yK rfl ?_
   refine yK rfl ?_
   refine aops_n rfl (n_pt rfl rfl (by constructor)) ?_
   refine yN ?_
   dsimp only [St.put]
   refine ⟨_, ?_, ⟨⟨rfl, rfl⟩, zF, zB, zN, zX⟩⟩
   rw [editionB_wrong]
   (rw [h5, h11]; rfl)
  have h11 : decide (e.ss.length ≤ 12) = true := by have := of_decide_eq_false hs; rw [decide_eq_true_eq]; omega
  refine yM rfl rfl ?_
  refine aops_n rfl (n_len' rfl rfl (List.length_map _)) ?_
  refine aops_n rfl (n_gtr rfl rfl rfl) ?_
  refine aops_n rfl (n_pf rfl rfl (by constructor)) ?_
  refine yN ?_
  dsimp only [St.put]
  refine ⟨_, ?_, ⟨⟨rfl, rfl⟩, zF, zB, zN, zX⟩⟩
  rw [editionB_wrong]
  (rw [h5, h11]; simp only [Bool.true_and]; rw [← decide_not, decide_eq_decide]; omega)
 rintro b hst
 dsimp only at hst ⊢
 refine aw_cond rfl (fun hc => ?_) (fun hc => ?_)
 ·have he : editionB t e = false := by rw [hc] at hst; simpa using hst.symm
  refine yS fun _ K9 => ?_
  refine yR ?_
  refine yA rfl rfl ?_
  refine yN ?_
  dsimp only [St.put]
  refine K9 _ ?_
  refine aw_ret ?_
  refine ends_1 rfl (by constructor) zN zS ?_
  exact vi (by simp [checkEr, htx, he])
 have he : editionB t e = true := by rw [hc] at hst; simpa using hst.symm
 refine aw_skip ?_
 refine K7 _ ?_
 refine yS fun _ K10 => ?_
 refine yR ?_
 refine yA rfl rfl ?_
 refine yN ?_
 dsimp only [St.put]
 refine K10 _ ?_
 refine aw_ret ?_
 refine ends_1 rfl (by constructor) zN zS ?_
 exact vi (by simp [checkEr, htx, he])
theorem meets_pure (a b : StretchD) (ha : SOk a) (hb : SOk b) : Pure Tryz.prog 75 [val a, val b] (.v (.bool (clashB a b))) := by
 refine pure_of_body Tryz.func75 rfl (fun m => .v) fun G nx => ?_
 simp only [Tryz.ntmps75, List.length_cons, List.length_nil, Nat.reduceAdd, Nat.reduceSub]
 refine aw_lt fun hlt => ?_
 dsimp only at hlt
 rw [← meets_clash ha hb]
 obtain ⟨a1, a2, a3, a4, a5, a6⟩ := ha
 obtain ⟨b1, b2, b3, b4, b5, b6⟩ := hb
 refine yS fun _ K1 => ?_
 refine yR ?_
 try dsimp only [St.put]
 refine yB rfl rfl rfl ?_
 try dsimp only [St.put]
 refine yB rfl rfl rfl ?_
 refine yA rfl rfl ?_
 refine yN ?_
 dsimp only [St.put]
 refine K1 _ ?_
 refine aw_wipe 6 ?_
 simp only [firsts, getA, Nat.reduceAdd, List.getD_cons_zero, List.getD_cons_succ, List.getD_nil, natBeq, Nat.reduceBEq, cond_true, cond_false]
 refine aw_cutD (X := Bool) (fun b1 => b1 = (decide (a.ch = b.ch) && decide (max a.fr b.fr < min a.tt b.tt))) (fun b1 => [(5, .v (.bool b1))]) (fun b1 G' => G') rfl ?_ (fun _ _ _ _ h => .inl h) ?_ ?_
 ·rintro b1 hI
  exact zL
 ·refine yR ?_
  refine yF rfl rfl rfl rfl ?_
  refine yL rfl rfl rfl ?_
  refine yF rfl rfl rfl rfl ?_
  refine yL rfl rfl rfl ?_
  refine aops_n rfl (n_eql rfl rfl rfl) ?_
  refine yM rfl rfl ?_
  refine aops_split (fun hs => ?_) (fun hs => ?_)
  ·have h5 := of_decide_eq_true hs
   refine yF rfl rfl rfl rfl ?_
   refine yL rfl rfl rfl ?_
   refine yF rfl rfl rfl rfl ?_
   refine yL rfl rfl rfl ?_
   refine aops_n rfl (n_max rfl rfl rfl rfl) ?_
   refine yF rfl rfl rfl rfl ?_
   refine yL rfl rfl rfl ?_
   refine yF rfl rfl rfl rfl ?_
   refine yL rfl rfl rfl ?_
   refine aops_n rfl (n_min rfl rfl rfl rfl) ?_
   refine aops_n rfl (n_lss rfl rfl rfl) ?_
   refine aops_n rfl (n_pt rfl rfl (by constructor)) ?_
   refine yA rfl rfl ?_
   refine yN ?_
   dsimp only [St.put]
   refine ⟨_, ?_, ⟨⟨rfl, rfl⟩, zF, zB, zN, zX⟩⟩
   simp [h5]
  have h5 := of_decide_eq_false hs
  refine yK rfl ?_
  refine yK rfl ?_
  refine yK rfl ?_
  refine yK rfl ?_
  refine yK rfl ?_
  refine yK rfl ?_
  refine yK rfl ?_
  refine yK rfl ?_
  refine yK rfl ?_
  refine yK rfl ?_
  refine yK rfl ?_
  refine aops_n rfl (n_pf rfl rfl (by constructor)) ?_
  refine yA rfl rfl ?_
  refine yN ?_
  dsimp only [St.put]
  refine ⟨_, ?_, ⟨⟨rfl, rfl⟩, zF, zB, zN, zX⟩⟩
  simp [h5]
 rintro b1 hst
 dsimp only at hst ⊢
 refine yS fun _ K3 => ?_
 refine yR ?_
 refine yM rfl rfl ?_
 refine yM rfl rfl ?_
 refine aops_split (fun hs => ?_) (fun hs => ?_)
 ·have h1 := hs
  refine yK rfl ?_
  refine yK rfl ?_
  refine yK rfl ?_
  refine yK rfl ?_
  refine yK rfl ?_
  refine yK rfl ?_
  refine yK rfl ?_
  refine yK rfl ?_
  refine yK rfl ?_
  refine yK rfl ?_
  refine yK rfl ?_
  refine yK rfl ?_
  refine yK rfl ?_
  refine yK rfl ?_
  refine yK rfl ?_
  refine yK rfl ?_
  refine yK rfl ?_
  refine yK rfl ?_
  refine yK rfl ?_
  refine yK rfl ?_
  refine yK rfl ?_
  refine yK rfl ?_
  refine yK rfl ?_
  refine yK rfl ?_
  refine yK rfl ?_
  refine yK rfl ?_
  refine yK rfl ?_
  refine yK rfl ?_
  refine yK rfl ?_
  refine yK rfl ?_
  refine aops_n rfl (n_pt rfl rfl (by constructor)) ?_
  refine yA rfl rfl ?_
  refine yN ?_
  dsimp only [St.put]
  refine K3 _ ?_
  refine aw_ret ?_
  refine ends_1 rfl (by constructor) zN zS ?_
  first
  | (refine vb ?_; rw [h1] at hst; simp [meetsB, ← hst]; done)
  | (refine vb ?_; rw [h1] at hst; simp [meetsB, ← hst, h7]; done)
  | (refine vb ?_; rw [h1] at hst; simp only [meetsB, ← hst, Bool.false_or]; simp [h7])
 have h1 := hs
 refine yF rfl rfl rfl rfl ?_
 refine yL rfl rfl rfl ?_
 refine yF rfl rfl rfl rfl ?_
 refine yL rfl rfl rfl ?_
 refine aops_n rfl (n_eql rfl rfl rfl) ?_
 refine yM rfl rfl ?_
 refine aops_split (fun hs => ?_) (fun hs => ?_)
 ·have h7 := of_decide_eq_true hs
  refine yF rfl rfl rfl rfl ?_
  refine yL rfl rfl rfl ?_
  refine yF rfl rfl rfl rfl ?_
  refine yL rfl rfl rfl ?_
  refine aops_n rfl (n_max rfl rfl rfl rfl) ?_
  refine yF rfl rfl rfl rfl ?_
  refine yL rfl rfl rfl ?_
  refine yF rfl rfl rfl rfl ?_
  refine yL rfl rfl rfl ?_
  refine aops_n rfl (n_add rfl rfl rfl (by omega)) ?_
  refine yF rfl rfl rfl rfl ?_
  refine yL rfl rfl rfl ?_
  refine aops_n rfl (n_sub rfl rfl rfl (by omega)) ?_
  refine yF rfl rfl rfl rfl ?_
  refine yL rfl rfl rfl ?_
  refine yF rfl rfl rfl rfl ?_
  refine yL rfl rfl rfl ?_
  refine aops_n rfl (n_add rfl rfl rfl (by omega)) ?_
  refine yF rfl rfl rfl rfl ?_
  refine yL rfl rfl rfl ?_
  refine aops_n rfl (n_sub rfl rfl rfl (by omega)) ?_
  refine aops_n rfl (n_min rfl rfl rfl rfl) ?_
  refine aops_n rfl (n_lss rfl rfl rfl) ?_
  refine aops_n rfl (n_pt rfl rfl (by constructor)) ?_
  refine aops_n rfl (n_pf rfl rfl (by constructor)) ?_
  refine yA rfl rfl ?_
  refine yN ?_
  dsimp only [St.put]
  refine K3 _ ?_
  refine aw_ret ?_
  refine ends_1 rfl (by constructor) zN zS ?_
  first
  | (refine vb ?_; rw [h1] at hst; simp [meetsB, ← hst]; done)
  | (refine vb ?_; rw [h1] at hst; simp [meetsB, ← hst, h7]; done)
  | (refine vb ?_; rw [h1] at hst; simp only [meetsB, ← hst, Bool.false_or]; simp [h7])
 have h7 := of_decide_eq_false hs
 refine yK rfl ?_
 refine yK rfl ?_
 refine yK rfl ?_
 refine yK rfl ?_
 refine yK rfl ?_
 refine yK rfl ?_
 refine yK rfl ?_
 refine yK rfl ?_
 refine yK rfl ?_
 refine yK rfl ?_
 refine yK rfl ?_
 refine yK rfl ?_
 refine yK rfl ?_
 refine yK rfl ?_
 refine yK rfl ?_
 refine yK rfl ?_
 refine yK rfl ?_
 refine yK rfl ?_
 refine yK rfl ?_
 refine yK rfl ?_
 refine yK rfl ?_
 refine yK rfl ?_
 refine yK rfl ?_
 refine aops_n rfl (n_pf rfl rfl (by constructor)) ?_
 refine aops_n rfl (n_pf rfl rfl (by constructor)) ?_
 refine yA rfl rfl ?_
 refine yN ?_
 dsimp only [St.put]
 refine K3 _ ?_
 refine aw_ret ?_
 refine ends_1 rfl (by constructor) zN zS ?_
 first
 | (refine vb ?_; rw [h1] at hst; simp [meetsB, ← hst]; done)
 | (refine vb ?_; rw [h1] at hst; simp [meetsB, ← hst, h7]; done)
 | (refine vb ?_; rw [h1] at hst; simp only [meetsB, ← hst, Bool.false_or]; simp [h7])
set_option maxHeartbeats 1000000 in
/-- what an opened book leaves: its maps, and how it clashes -/
theorem opened_pc (t : TextD) (e : EditionD) (hl : e.ss.length ≤ 12) (he : ∀ s ∈ e.ss, SOk s) (G : Nat → Option GObj) (nx : Nat) :
  PC Tryz.prog 40 [textC t, val e] G nx fun r G' nx' => ∃ y : Nat × Nat, r = .tup [.elem (bookC t e nx (nx + 1)), .v (.int .i64 (oneOf e.ss.length (firstC e.ss))), .v (.int .i64 (twoOf (firstC e.ss))), .v (.bool (firstC e.ss).isSome)] ∧ G' = (setG (setG G nx (gmap Tryz.prog 95 y.1 (capp ((asOf e.ss))))) (nx + 1) (gmap Tryz.prog 95 y.2 (capp ((backOf e.ss))))) ∧ nx' = nx + 1 + 1 := by
 refine pc_namedX_of_body (fun (y : Nat × Nat) => (setG (setG G nx (gmap Tryz.prog 95 y.1 (capp ((asOf e.ss))))) (nx + 1) (gmap Tryz.prog 95 y.2 (capp ((backOf e.ss)))))) (nx + 1 + 1) Tryz.func40 rfl (.tup (low_cons (.elem (low_cons .v (low_cons (lst_low _ _) (low_cons (lst_low _ _) (low_cons (.map (show nx < nx + 1 + 1 by omega)) (low_cons (.map (show nx + 1 < nx + 1 + 1 by omega)) low_nil)))))) (low_cons .v (low_cons .v (low_cons .v low_nil))))) zN (fun hlt y => (by (repeat' (refine lowG_set ?_ (by (try dsimp only); omega) ?_)); all_goals (first | exact lowG_base zS | (repeat' (first | exact trivial | refine ⟨?_, ?_⟩ | exact .v | exact .any | refine .elem ?_ | exact lst_low _ _ | exact cells_low _ _ | exact val_low _ _ | exact data_low _ (by (try dsimp only); omega) | exact .box (by (try dsimp only); omega) | exact nil_low | exact low_nil | exact gmap_low (capp_low _ _) | refine set_low ?_ ?_ | exact .arr (by (try dsimp only); omega) | exact .own (by (try dsimp only); omega) | exact .map (by (try dsimp only); omega) | exact flatC_low _ | refine low_cons ?_ ?_ | exact lst_low _ _))))) ?_
 simp only [Tryz.ntmps40, List.length_cons, List.length_nil, Nat.reduceAdd, Nat.reduceSub]
 refine aw_lt fun hlt => ?_
 dsimp only at hlt
 refine yS fun _ K1 => ?_
 refine yR ?_
 try dsimp only [St.put]
 refine yB rfl rfl rfl ?_
 try dsimp only [St.put]
 refine yB rfl rfl rfl ?_
 refine yA rfl rfl ?_
 refine yA rfl rfl ?_
 refine yA rfl rfl ?_
 refine yA rfl rfl ?_
 refine yN ?_
 dsimp only [St.put]
 refine K1 _ ?_
 refine aw_scope ?_
 refine yS fun _ K2 => ?_
 refine yR ?_
 refine yE rfl rfl rfl ?_
 try dsimp only [St.put]
 refine aops_s rfl (s_load_agg' rfl rfl rfl) ?_
 try dsimp only [St.put]
 refine aops_e rfl (e_makeMap (α := Int × Int) rfl ?_)
 try dsimp only [St.put]
 refine aops_e rfl (e_makeMap (α := Int × Int) rfl ?_)
 refine aops_n rfl (n_build rfl rfl) ?_
 try dsimp only [St.put]
 refine aops_e rfl (e_box (cs := bookC t e nx (nx + 1)) rfl rfl (by simp [bookC]) ?_)
 refine yA rfl rfl ?_
 refine yN ?_
 dsimp only [St.put]
 refine K2 _ ?_
 refine yS fun _ K3 => ?_
 refine yR ?_
 refine yF rfl rfl rfl rfl ?_
 refine yL rfl rfl rfl ?_
 refine aops_n rfl (n_len' rfl rfl (List.length_map _)) ?_
 refine yA rfl rfl ?_
 refine yN ?_
 dsimp only [St.put]
 refine K3 _ ?_
 refine yS fun _ K4 => ?_
 refine aw_label ?_
 refine K4 _ ?_
 refine yS fun _ K5 => ?_
 refine yS fun _ K6 => ?_
 refine yR ?_
 refine yF rfl rfl rfl rfl ?_
 refine yL rfl rfl rfl ?_
 refine aops_n rfl (n_len' rfl rfl (List.length_map _)) ?_
 refine yM rfl rfl ?_
 refine yN ?_
 dsimp only [St.put]
 refine K6 _ ?_
 refine aw_block ?_
 refine aw_wipe 32 ?_
 simp only [firsts, getA, Nat.reduceAdd, List.getD_cons_zero, List.getD_cons_succ, List.getD_nil, natBeq, Nat.reduceBEq, cond_true, cond_false]
 refine aw_forget ((setG (setG G nx (gmap Tryz.prog 95 0 (capp ((asOf (e.ss.take 0)))))) (nx + 1) (gmap Tryz.prog 95 0 (capp ((backOf (e.ss.take 0))))))) zX ?_
 dsimp only
 refine aw_loopD (X := Nat × Option (Nat × Nat) × Nat × Nat) (fun x => x.1 ≤ e.ss.length ∧ FirstC (e.ss.take x.1) x.2.1) (fun x => e.ss.length - x.1) (fun x => [(5, .v (.int .i64 (oneOf e.ss.length x.2.1 : Int))), (6, .v (.int .i64 (twoOf x.2.1 : Int))), (7, .v (.bool x.2.1.isSome)), (8, .any), (9, .any), (10, .any), (11, .any), (12, .any), (13, .any), (14, .any), (15, .any), (16, .any), (17, .any), (18, .any), (31, .v (.int .i64 (x.1 : Int)))]) (fun x G' => (setG (setG G nx (gmap Tryz.prog 95 x.2.2.1 (capp ((asOf (e.ss.take x.1)))))) (nx + 1) (gmap Tryz.prog 95 x.2.2.2 (capp ((backOf (e.ss.take x.1))))))) (0, none, 0, 0) rfl ?_ ?_ ?_ ?_ ?_ ?_
 ·exact ⟨Nat.zero_le _, firstC_start _⟩
 ·exact zF
 ·exact zX
 ·rintro ⟨k, oc, V, W⟩ hI
  exact (by (try dsimp only); repeat' (first | exact trivial | refine ⟨?_, ?_⟩ | exact .v | exact .any | refine .elem ?_ | exact lst_low _ _ | exact cells_low _ _ | exact val_low _ _ | exact data_low _ (by (try dsimp only); omega) | exact .box (by (try dsimp only); omega) | exact nil_low | exact low_nil | exact gmap_low (capp_low _ _) | refine set_low ?_ ?_ | exact .arr (by (try dsimp only); omega) | exact .own (by (try dsimp only); omega) | exact .map (by (try dsimp only); omega) | exact flatC_low _ | refine low_cons ?_ ?_ | exact lst_low _ _))
 ·rintro ⟨k, oc, V, W⟩ hI
  exact (by (repeat' (refine lowG_set ?_ (by (try dsimp only); omega) ?_)); all_goals (first | exact lowG_base zS | (repeat' (first | exact trivial | refine ⟨?_, ?_⟩ | exact .v | exact .any | refine .elem ?_ | exact lst_low _ _ | exact cells_low _ _ | exact val_low _ _ | exact data_low _ (by (try dsimp only); omega) | exact .box (by (try dsimp only); omega) | exact nil_low | exact low_nil | exact gmap_low (capp_low _ _) | refine set_low ?_ ?_ | exact .arr (by (try dsimp only); omega) | exact .own (by (try dsimp only); omega) | exact .map (by (try dsimp only); omega) | exact flatC_low _ | refine low_cons ?_ ?_ | exact lst_low _ _))))
 rintro ⟨k, oc, V, W⟩ hI
 dsimp only at hI ⊢
 refine yS fun _ K7 => ?_
 refine yR ?_
 refine aops_n rfl (n_lss rfl rfl rfl) ?_
 refine yN ?_
 dsimp only [St.put]
 refine K7 _ ?_
 refine yS fun _ K8 => ?_
 refine aw_cond rfl (fun hc => ?_) (fun hc => ?_)
 ·replace hc := of_decide_eq_true hc
  obtain ⟨s, hk⟩ : ∃ x, e.ss[k]? = some x := some_of_lt (by omega)
  have hso := he s (mem_of_get hk)
  obtain ⟨o1, o2, o3, o4, o5, o6⟩ := id hso
  refine aw_skip ?_
  refine K8 _ ?_
  refine yS fun _ K9 => ?_
  refine aw_block ?_
  refine yS fun _ K10 => ?_
  refine yR ?_
  refine yM rfl rfl ?_
  refine aops_n rfl (n_indexAddr rfl rfl rfl rfl (map_get (by assumption)) (Enc.len _)) ?_
  refine yE rfl rfl rfl ?_
  try dsimp only [St.put]
  refine aops_e rfl (e_allocC rfl ?_)
  refine yA rfl rfl ?_
  try dsimp only [St.put]
  refine aops_e rfl (e_store_all rfl rfl rfl zG rfl rfl (by rfl) ?_)
  refine yN ?_
  dsimp only [St.put]
  refine K10 _ ?_
  refine aw_commitD (i := 9) rfl zG (by first | exact List.cons_ne_nil _ _ | (simp; done) | (simp [putAt]; done)) ?_
  dsimp only
  refine yS fun _ K11 => ?_
  refine yS fun _ K12 => ?_
  refine yR ?_
  refine yF rfl rfl rfl rfl ?_
  refine yL rfl rfl rfl ?_
  refine yF rfl rfl rfl rfl ?_
  refine yL rfl rfl rfl ?_
  refine aops_n rfl (n_sub rfl rfl rfl (by omega)) ?_
  refine yM rfl rfl ?_
  refine yN ?_
  dsimp only [St.put]
  rw [← asOf_cut0 (e.ss.take k) s, ← backOf_cut0 (e.ss.take k) s]
  refine K12 _ ?_
  refine aw_block ?_
  refine aw_wipe 42 ?_
  simp only [firsts, getA, Nat.reduceAdd, List.getD_cons_zero, List.getD_cons_succ, List.getD_nil, natBeq, Nat.reduceBEq, cond_true, cond_false]
  refine aw_forget ((setG (setG G nx (gmap Tryz.prog 95 V (capp ((asOf (e.ss.take k ++ [cutS s 0])))))) (nx + 1) (gmap Tryz.prog 95 W (capp ((backOf (e.ss.take k ++ [cutS s 0]))))))) zX ?_
  dsimp only
  refine aw_loopD (X := Nat × Nat × Nat) (fun x => (x.1 : Int) ≤ s.tt - s.fr) (fun x => (s.tt - s.fr).toNat - x.1) (fun x => [(10, .any), (11, .any), (12, .any), (13, .any), (14, .any), (15, .any), (16, .any), (41, .v (.int .i64 (x.1 : Int)))]) (fun x G' => (setG (setG G nx (gmap Tryz.prog 95 x.2.1 (capp ((asOf (e.ss.take k ++ [cutS s x.1])))))) (nx + 1) (gmap Tryz.prog 95 x.2.2 (capp ((backOf (e.ss.take k ++ [cutS s x.1]))))))) (0, V, W) rfl ?_ ?_ ?_ ?_ ?_ ?_
  ·dsimp only; omega
  ·exact zF
  ·exact zX
  ·rintro ⟨i, V', W'⟩ hI
   exact (by (try dsimp only); repeat' (first | exact trivial | refine ⟨?_, ?_⟩ | exact .v | exact .any | refine .elem ?_ | exact lst_low _ _ | exact cells_low _ _ | exact val_low _ _ | exact data_low _ (by (try dsimp only); omega) | exact .box (by (try dsimp only); omega) | exact nil_low | exact low_nil | exact gmap_low (capp_low _ _) | refine set_low ?_ ?_ | exact .arr (by (try dsimp only); omega) | exact .own (by (try dsimp only); omega) | exact .map (by (try dsimp only); omega) | exact flatC_low _ | refine low_cons ?_ ?_ | exact lst_low _ _))
  ·rintro ⟨i, V', W'⟩ hI
   exact (by (repeat' (refine lowG_set ?_ (by (try dsimp only); omega) ?_)); all_goals (first | exact lowG_base zS | (repeat' (first | exact trivial | refine ⟨?_, ?_⟩ | exact .v | exact .any | refine .elem ?_ | exact lst_low _ _ | exact cells_low _ _ | exact val_low _ _ | exact data_low _ (by (try dsimp only); omega) | exact .box (by (try dsimp only); omega) | exact nil_low | exact low_nil | exact gmap_low (capp_low _ _) | refine set_low ?_ ?_ | exact .arr (by (try dsimp only); omega) | exact .own (by (try dsimp only); omega) | exact .map (by (try dsimp only); omega) | exact flatC_low _ | refine low_cons ?_ ?_ | exact lst_low _ _))))
  rintro ⟨i, V', W'⟩ hJ
  dsimp only at hJ ⊢
  refine yS fun _ K13 => ?_
  refine yR ?_
  refine aops_n rfl (n_lss rfl rfl rfl) ?_
  refine yN ?_
  dsimp only [St.put]
  refine K13 _ ?_
  refine yS fun _ K14 => ?_
  refine aw_cond rfl (fun hc => ?_) (fun hc => ?_)
  ·replace hc := of_decide_eq_true hc
   refine aw_skip ?_
   refine K14 _ ?_
   refine yS fun _ K15 => ?_
   refine aw_block ?_
   refine yS fun _ K16 => ?_
   refine yR ?_
   refine yM rfl rfl ?_
   refine yA rfl rfl ?_
   refine yN ?_
   dsimp only [St.put]
   refine K16 _ ?_
   refine yS fun _ K17 => ?_
   refine aw_draw [(0, none), (1, none), (2, none), (3, none), (4, none), (5, none), (6, none), (7, none), (8, none), (9, none), (10, none), (11, none), (12, none), (13, none), (14, some 15), (16, none), (17, none)] (fun i => [17].contains i) (fun i => [14, 15, 16, 17].contains i) (fun i => [0, 2, 4, 5, 6, 7, 9, 11, 12, 13].contains i) [] (by kernel_rfl) (by kernel_rfl) ?_
   refine acan1_n rfl rfl rfl rfl (n_fieldAddr' rfl rfl rfl) ?_
   try dsimp only [St.put]
   refine acan1_s rfl rfl rfl rfl (s_load rfl rfl) ?_
   refine acan1_n rfl rfl rfl rfl (n_fieldAddr' rfl rfl rfl) ?_
   try dsimp only [St.put]
   refine acan1_s rfl rfl rfl rfl (s_load rfl rfl) ?_
   refine xM rfl rfl rfl rfl rfl ?_
   refine acan1_n rfl rfl rfl rfl (n_add rfl rfl rfl (by omega)) ?_
   refine acan1_n rfl rfl rfl rfl (n_buildA rfl rfl) ?_
   refine acan1_n rfl rfl rfl rfl (n_fieldAddr' rfl rfl rfl) ?_
   try dsimp only [St.put]
   refine acan1_s rfl rfl rfl rfl (s_load rfl rfl) ?_
   refine acan1_n rfl rfl rfl rfl (n_fieldAddr' rfl rfl rfl) ?_
   try dsimp only [St.put]
   refine acan1_s rfl rfl rfl rfl (s_load rfl rfl) ?_
   refine xM rfl rfl rfl rfl rfl ?_
   refine acan1_n rfl rfl rfl rfl (n_add rfl rfl rfl (by omega)) ?_
   refine acan1_n rfl rfl rfl rfl (n_buildA rfl rfl) ?_
   refine acan1_two ?_
   refine acan2_allocs rfl rfl rfl rfl rfl rfl rfl rfl (by decide) (by simp) ?_
   try dsimp only [St.put]
   refine acan2_e rfl rfl rfl (e_store_all rfl rfl rfl zG rfl rfl (by rfl) ⟨zD, ?_⟩)
   try dsimp only [St.put]
   refine acan2_late rfl rfl rfl rfl (e_store_all rfl rfl rfl zG rfl rfl (by rfl) ?_)
   refine acan2_nil ?_
   dsimp only [St.put]
   refine K17 _ ?_
   refine aw_commitD (i := 11) rfl zG (by first | exact List.cons_ne_nil _ _ | (simp; done) | (simp [putAt]; done)) ?_
   refine aw_commitD (i := 12) rfl zG (by first | exact List.cons_ne_nil _ _ | (simp; done) | (simp [putAt]; done)) ?_
   dsimp only
   refine aw_wipe 42 ?_
   simp only [firsts, getA, Nat.reduceAdd, List.getD_cons_zero, List.getD_cons_succ, List.getD_nil, natBeq, Nat.reduceBEq, cond_true, cond_false]
   refine aw_cutD (X := Nat) (fun x => True) (fun x => []) (fun x G' => (setG (setG G nx (gmap Tryz.prog 95 x (capp ((asOf (e.ss.take k ++ [cutS s (i + 1)])))))) (nx + 1) (gmap Tryz.prog 95 W' (capp ((backOf (e.ss.take k ++ [cutS s i]))))))) rfl ?_ ?_ ?_ ?_
   ·rintro V2 hI
    exact (by (try dsimp only); repeat' (first | exact trivial | refine ⟨?_, ?_⟩ | exact .v | exact .any | refine .elem ?_ | exact lst_low _ _ | exact cells_low _ _ | exact val_low _ _ | exact data_low _ (by (try dsimp only); omega) | exact .box (by (try dsimp only); omega) | exact nil_low | exact low_nil | exact gmap_low (capp_low _ _) | refine set_low ?_ ?_ | exact .arr (by (try dsimp only); omega) | exact .own (by (try dsimp only); omega) | exact .map (by (try dsimp only); omega) | exact flatC_low _ | refine low_cons ?_ ?_ | exact lst_low _ _))
   ·rintro V2 hI
    exact (by (repeat' (refine lowG_set ?_ (by (try dsimp only); omega) ?_)); all_goals (first | exact lowG_base zS | (repeat' (first | exact trivial | refine ⟨?_, ?_⟩ | exact .v | exact .any | refine .elem ?_ | exact lst_low _ _ | exact cells_low _ _ | exact val_low _ _ | exact data_low _ (by (try dsimp only); omega) | exact .box (by (try dsimp only); omega) | exact nil_low | exact low_nil | exact gmap_low (capp_low _ _) | refine set_low ?_ ?_ | exact .arr (by (try dsimp only); omega) | exact .own (by (try dsimp only); omega) | exact .map (by (try dsimp only); omega) | exact flatC_low _ | refine low_cons ?_ ?_ | exact lst_low _ _))))
   ·refine yS fun _ K19 => ?_
    obtain ⟨v1, hv1⟩ : ∃ v : L2, (capp (asOf (e.ss.take k ++ [cutS s i])) (s.ch, s.fr + i)).getD (constC (.agg #[.int .i64 0, .int .i64 0])) = .agg [.v (.int .i64 v.1), .v (.int .i64 v.2)] := capp_get _ _
    obtain ⟨b1, hb1⟩ : ∃ b, (capp (asOf (e.ss.take k ++ [cutS s i])) (s.ch, s.fr + i)).isSome = b := ⟨_, rfl⟩
    refine aw_draw [(0, none), (1, none), (2, none), (3, none), (4, none), (5, none), (6, none), (7, none), (8, none), (9, none), (10, none), (11, none)] (fun i => [10].contains i) (fun i => [9, 10].contains i) (fun i => [0, 1, 2, 6, 7, 8, 11].contains i) [nx] (by kernel_rfl) (by kernel_rfl) ?_
    refine xM rfl rfl rfl rfl rfl ?_
    refine acan1_n rfl rfl rfl rfl (n_nilCheck rfl rfl) ?_
    refine acan1_n rfl rfl rfl rfl (n_fieldAddr' rfl rfl rfl) ?_
    try dsimp only [St.put]
    refine acan1_s rfl rfl rfl rfl (s_load rfl rfl) ?_
    try dsimp only [St.put]
    refine acan1_s rfl rfl rfl rfl (s_load_agg' rfl rfl rfl) ?_
    try dsimp only [St.put]
    refine acan1_s rfl rfl rfl rfl (s_lookupOk' (s.ch, s.fr + i) rfl rfl zG (by simp) rfl hv1 hb1) ?_
    refine xM rfl rfl rfl rfl rfl ?_
    refine acan1_n rfl rfl rfl rfl (n_extract rfl rfl rfl) ?_
    refine acan1_n rfl rfl rfl rfl (n_extract rfl rfl rfl) ?_
    refine acan1_two ?_
    try dsimp only [St.put]
    refine acan2_e rfl rfl rfl (e_allocC rfl ⟨zD, ?_⟩)
    try dsimp only [St.put]
    refine acan2_late rfl rfl rfl rfl (e_store_all rfl rfl rfl zG rfl rfl (by rfl) ?_)
    refine acan2_n rfl rfl rfl rfl (n_as rfl (by constructor)) ?_
    refine acan2_nil ?_
    dsimp only [St.put]
    refine K19 _ ?_
    refine yS fun _ K20 => ?_
    refine yR ?_
    refine yM rfl rfl ?_
    refine aops_n rfl (n_not rfl rfl) ?_
    refine yN ?_
    dsimp only [St.put]
    refine K20 _ ?_
    refine aw_cond rfl (fun hc => ?_) (fun hc => ?_)
    ·have hn1 : asOf (e.ss.take k ++ [cutS s i]) (s.ch, s.fr + i) = none := by
      have : b1 = false := by simpa using hc
      rw [this] at hb1
      exact capp_none.1 (by simpa using hb1)
     refine aw_draw [(0, none), (1, none), (2, none), (3, none), (4, none), (5, none), (6, none)] (fun i => [6].contains i) (fun i => [6].contains i) (fun i => [0, 1, 2].contains i) [] (by kernel_rfl) (by kernel_rfl) ?_
     refine xM rfl rfl rfl rfl rfl ?_
     refine acan1_n rfl rfl rfl rfl (n_nilCheck rfl rfl) ?_
     refine acan1_n rfl rfl rfl rfl (n_fieldAddr' rfl rfl rfl) ?_
     try dsimp only [St.put]
     refine acan1_s rfl rfl rfl rfl (s_load rfl rfl) ?_
     try dsimp only [St.put]
     refine acan1_s rfl rfl rfl rfl (s_load_agg' rfl rfl rfl) ?_
     try dsimp only [St.put]
     refine acan1_s rfl rfl rfl rfl (s_load_agg' rfl rfl rfl) ?_
     refine acan1_two ?_
     try dsimp only [St.put]
     refine acan2_late rfl rfl rfl rfl (e_mapUpdate ((s.ch, s.fr + i)) rfl rfl rfl zG rfl (or_new (asOf_cut (e.ss.take k) s i) hn1) ?_)
     refine acan2_nil ?_
     dsimp only [St.put]
     first
      | (rw [hgo]; exact ⟨V', trivial, ⟨⟨rfl, rfl⟩, zF, zB, zN, zX⟩⟩)
      | exact ⟨V' + 1, trivial, ⟨⟨rfl, rfl⟩, zF, zB, zN, zX⟩⟩
    have hgo := or_old (asOf_cut (e.ss.take k) s i) (fun h0 => by
     have : b1 = true := by simpa using hc
     rw [this, capp_none.2 h0] at hb1
     cases hb1)
    refine aw_skip ?_
    first
     | (rw [hgo]; exact ⟨V', trivial, ⟨⟨rfl, rfl⟩, zF, zB, zN, zX⟩⟩)
     | exact ⟨V' + 1, trivial, ⟨⟨rfl, rfl⟩, zF, zB, zN, zX⟩⟩
   rintro V2 hT
   dsimp only at hT ⊢
   refine yS fun _ K21 => ?_
   obtain ⟨v3, hv3⟩ : ∃ v : L2, (capp (backOf (e.ss.take k ++ [cutS s i])) (s.au, s.fi + i)).getD (constC (.agg #[.int .i64 0, .int .i64 0])) = .agg [.v (.int .i64 v.1), .v (.int .i64 v.2)] := capp_get _ _
   obtain ⟨b3, hb3⟩ : ∃ b, (capp (backOf (e.ss.take k ++ [cutS s i])) (s.au, s.fi + i)).isSome = b := ⟨_, rfl⟩
   refine aw_draw [(0, none), (1, none), (2, none), (3, none), (4, none), (5, none), (6, none), (7, none), (8, none), (9, none), (10, none), (11, none)] (fun i => [10].contains i) (fun i => [9, 10].contains i) (fun i => [0, 1, 2, 6, 7, 8, 11].contains i) [nx + 1] (by kernel_rfl) (by kernel_rfl) ?_
   refine xM rfl rfl rfl rfl rfl ?_
   refine acan1_n rfl rfl rfl rfl (n_nilCheck rfl rfl) ?_
   refine acan1_n rfl rfl rfl rfl (n_fieldAddr' rfl rfl rfl) ?_
   try dsimp only [St.put]
   refine acan1_s rfl rfl rfl rfl (s_load rfl rfl) ?_
   try dsimp only [St.put]
   refine acan1_s rfl rfl rfl rfl (s_load_agg' rfl rfl rfl) ?_
   try dsimp only [St.put]
   refine acan1_s rfl rfl rfl rfl (s_lookupOk' (s.au, s.fi + i) rfl rfl zG (by simp) rfl hv3 hb3) ?_
   refine xM rfl rfl rfl rfl rfl ?_
   refine acan1_n rfl rfl rfl rfl (n_extract rfl rfl rfl) ?_
   refine acan1_n rfl rfl rfl rfl (n_extract rfl rfl rfl) ?_
   refine acan1_two ?_
   try dsimp only [St.put]
   refine acan2_e rfl rfl rfl (e_allocC rfl ⟨zD, ?_⟩)
   try dsimp only [St.put]
   refine acan2_late rfl rfl rfl rfl (e_store_all rfl rfl rfl zG rfl rfl (by rfl) ?_)
   refine acan2_n rfl rfl rfl rfl (n_as rfl (by constructor)) ?_
   refine acan2_nil ?_
   dsimp only [St.put]
   refine K21 _ ?_
   refine yS fun _ K22 => ?_
   refine yR ?_
   refine yM rfl rfl ?_
   refine aops_n rfl (n_not rfl rfl) ?_
   refine yN ?_
   dsimp only [St.put]
   refine K22 _ ?_
   refine aw_cond rfl (fun hc => ?_) (fun hc => ?_)
   ·have hn3 : backOf (e.ss.take k ++ [cutS s i]) (s.au, s.fi + i) = none := by
     have : b3 = false := by simpa using hc
     rw [this] at hb3
     exact capp_none.1 (by simpa using hb3)
    refine aw_draw [(0, none), (1, none), (2, none), (3, none), (4, none), (5, none), (6, none)] (fun i => [6].contains i) (fun i => [6].contains i) (fun i => [0, 1, 2].contains i) [] (by kernel_rfl) (by kernel_rfl) ?_
    refine xM rfl rfl rfl rfl rfl ?_
    refine acan1_n rfl rfl rfl rfl (n_nilCheck rfl rfl) ?_
    refine acan1_n rfl rfl rfl rfl (n_fieldAddr' rfl rfl rfl) ?_
    try dsimp only [St.put]
    refine acan1_s rfl rfl rfl rfl (s_load rfl rfl) ?_
    try dsimp only [St.put]
    refine acan1_s rfl rfl rfl rfl (s_load_agg' rfl rfl rfl) ?_
    try dsimp only [St.put]
    refine acan1_s rfl rfl rfl rfl (s_load_agg' rfl rfl rfl) ?_
    refine acan1_two ?_
    try dsimp only [St.put]
    refine acan2_late rfl rfl rfl rfl (e_mapUpdate ((s.au, s.fi + i)) rfl rfl rfl zG rfl (or_new (backOf_cut (e.ss.take k) s i) hn3) ?_)
    refine acan2_nil ?_
    dsimp only [St.put]
    refine K15 _ ?_
    refine yR ?_
    refine aops_n rfl (n_add rfl rfl rfl (by omega)) ?_
    refine yM rfl rfl ?_
    refine yN ?_
    dsimp only [St.put]
    first
     | (rw [hgo]; exact ⟨(i + 1, V2, W'), by (dsimp only; omega), by (dsimp only; omega), ⟨⟨rfl, rfl⟩, zF, zB, zN, zX⟩⟩)
     | exact ⟨(i + 1, V2, W' + 1), by (dsimp only; omega), by (dsimp only; omega), ⟨⟨rfl, rfl⟩, zF, zB, zN, zX⟩⟩
   have hgo := or_old (backOf_cut (e.ss.take k) s i) (fun h0 => by
    have : b3 = true := by simpa using hc
    rw [this, capp_none.2 h0] at hb3
    cases hb3)
   refine aw_skip ?_
   refine K15 _ ?_
   refine yR ?_
   refine aops_n rfl (n_add rfl rfl rfl (by omega)) ?_
   refine yM rfl rfl ?_
   refine yN ?_
   dsimp only [St.put]
   first
    | (rw [hgo]; exact ⟨(i + 1, V2, W'), by (dsimp only; omega), by (dsimp only; omega), ⟨⟨rfl, rfl⟩, zF, zB, zN, zX⟩⟩)
    | exact ⟨(i + 1, V2, W' + 1), by (dsimp only; omega), by (dsimp only; omega), ⟨⟨rfl, rfl⟩, zF, zB, zN, zX⟩⟩
  replace hc := of_decide_eq_false hc
  rw [take_cut hk (show s.tt = s.fr + i by omega)]
  refine aw_exit ?_
  refine K11 _ ?_
  refine yS fun _ K23 => ?_
  refine yR ?_
  refine yF rfl rfl rfl rfl ?_
  refine yL rfl rfl rfl ?_
  refine yM rfl rfl ?_
  refine aops_n rfl (n_slice_h rfl rfl rfl (by first | exact rfl | omega) (by first | omega | (simp; omega))) ?_
  refine aops_n rfl (n_len' rfl rfl rfl) ?_
  refine yM rfl rfl ?_
  refine yN ?_
  dsimp only [St.put]
  simp only [← List.map_take, List.length_map]
  have hkl : (e.ss.take k).length = k := by rw [List.length_take]; omega
  rw [hkl]
  refine K23 _ ?_
  refine aw_block ?_
  refine aw_wipe 99 ?_
  simp only [firsts, getA, Nat.reduceAdd, List.getD_cons_zero, List.getD_cons_succ, List.getD_nil, natBeq, Nat.reduceBEq, cond_true, cond_false]
  refine aw_forget ((setG (setG G nx (gmap Tryz.prog 95 V' (capp ((asOf (e.ss.take (k + 1))))))) (nx + 1) (gmap Tryz.prog 95 W' (capp ((backOf (e.ss.take (k + 1)))))))) zX ?_
  dsimp only
  refine aw_loopD (X := Nat) (fun j => j ≤ k ∧ ∀ i, i < j → i < oneOf e.ss.length oc → ¬ isClash e.ss i k) (fun j => k - j) (fun j => [(17, .any), (18, .any), (98, .v (.int .i64 (j : Int)))]) (fun j G' => G') 0 rfl ?_ ?_ (fun _ _ h => h) ?_ ?_ ?_
  ·exact ⟨Nat.zero_le _, fun i h => by omega⟩
  ·exact zF
  ·rintro j hI
   exact (by (try dsimp only); repeat' (first | exact trivial | refine ⟨?_, ?_⟩ | exact .v | exact .any | refine .elem ?_ | exact lst_low _ _ | exact cells_low _ _ | exact val_low _ _ | exact data_low _ (by (try dsimp only); omega) | exact .box (by (try dsimp only); omega) | exact nil_low | exact low_nil | exact gmap_low (capp_low _ _) | refine set_low ?_ ?_ | exact .arr (by (try dsimp only); omega) | exact .own (by (try dsimp only); omega) | exact .map (by (try dsimp only); omega) | exact flatC_low _ | refine low_cons ?_ ?_ | exact lst_low _ _))
  ·exact fun _ _ _ _ h => .inl h
  rintro j hM
  dsimp only at hM ⊢
  refine yS fun _ K24 => ?_
  refine yR ?_
  refine aops_n rfl (n_lss rfl rfl rfl) ?_
  refine yN ?_
  dsimp only [St.put]
  refine K24 _ ?_
  refine yS fun _ K25 => ?_
  refine aw_cond rfl (fun hc => ?_) (fun hc => ?_)
  ·replace hc := of_decide_eq_true hc
   obtain ⟨u, hu⟩ : ∃ x, e.ss[j]? = some x := some_of_lt (by omega)
   have hu' : (e.ss.take k)[j]? = some u := by rw [List.getElem?_take, if_pos (by omega)]; exact hu
   have huo := he u (mem_of_get hu)
   refine aw_skip ?_
   refine K25 _ ?_
   refine yS fun _ K26 => ?_
   refine aw_block ?_
   refine yS fun _ K27 => ?_
   refine yR ?_
   refine yM rfl rfl ?_
   refine aops_n rfl (n_indexAddr rfl rfl rfl rfl (map_get (by assumption)) (Enc.len _)) ?_
   refine yE rfl rfl rfl ?_
   try dsimp only [St.put]
   refine aops_e rfl (e_allocC rfl ?_)
   refine yA rfl rfl ?_
   try dsimp only [St.put]
   refine aops_e rfl (e_store_all rfl rfl rfl zG rfl rfl (by rfl) ?_)
   refine yN ?_
   dsimp only [St.put]
   refine K27 _ ?_
   refine aw_commitD (i := 18) rfl zG (by first | exact List.cons_ne_nil _ _ | (simp; done) | (simp [putAt]; done)) ?_
   dsimp only
   refine aw_wipe 99 ?_
   simp only [firsts, getA, Nat.reduceAdd, List.getD_cons_zero, List.getD_cons_succ, List.getD_nil, natBeq, Nat.reduceBEq, cond_true, cond_false]
   refine aw_cutD (X := Bool) (fun b => (b = true → j < oneOf e.ss.length oc ∧ isClash e.ss j k) ∧ (b = false → j < oneOf e.ss.length oc → ¬ isClash e.ss j k)) (fun b => [(115, .v (.bool b))]) (fun b G' => G') rfl ?_ (fun _ _ _ _ h => .inl h) ?_ ?_
   ·rintro b hI
    exact (by (try dsimp only); repeat' (first | exact trivial | refine ⟨?_, ?_⟩ | exact .v | exact .any | refine .elem ?_ | exact lst_low _ _ | exact cells_low _ _ | exact val_low _ _ | exact data_low _ (by (try dsimp only); omega) | exact .box (by (try dsimp only); omega) | exact nil_low | exact low_nil | exact gmap_low (capp_low _ _) | refine set_low ?_ ?_ | exact .arr (by (try dsimp only); omega) | exact .own (by (try dsimp only); omega) | exact .map (by (try dsimp only); omega) | exact flatC_low _ | refine low_cons ?_ ?_ | exact lst_low _ _))
   ·refine yR ?_
    refine yM rfl rfl ?_
    refine yM rfl rfl ?_
    refine aops_n rfl (n_lss rfl rfl rfl) ?_
    refine yM rfl rfl ?_
    refine aops_split (fun hs => ?_) (fun hs => ?_)
    ·have h3 := of_decide_eq_true hs
     refine yE rfl rfl rfl ?_
     refine yE rfl rfl rfl ?_
     refine aops_n rfl (n_agg_eql (x := u) (y := s) rfl rfl rfl) ?_
     refine yM rfl rfl ?_
     refine aops_split (fun hs => ?_) (fun hs => ?_)
     ·have h7 := of_decide_eq_true hs
      refine yK rfl ?_
      refine yK rfl ?_
      refine yK rfl ?_
      refine aops_n rfl (n_pt rfl rfl (by constructor)) ?_
      refine aops_n rfl (n_pt rfl rfl (by constructor)) ?_
      refine yN ?_
      dsimp only [St.put]
      refine ⟨_, ?_, ⟨⟨rfl, rfl⟩, zF, zB, zN, zX⟩⟩
      first
       | exact ⟨fun _ => ⟨by omega, (clash_iff (by omega) hu hk).2 (by rw [h7]; exact clash_self hso)⟩, fun h => by cases h⟩
       | exact ⟨fun h => ⟨by omega, (clash_iff (by omega) hu hk).2 h⟩, fun h _ hcl => by rw [(clash_iff (by omega) hu hk).1 hcl] at h; cases h⟩
       | exact ⟨fun h => (by cases h), fun _ h => absurd h (by omega)⟩
     have h7 := of_decide_eq_false hs
     refine yE rfl rfl rfl ?_
     refine yE rfl rfl rfl ?_
     try dsimp only [St.put]
     refine aops_e rfl (e_call_pure rfl rfl rfl (meets_pure u s huo hso) ?_)
     refine aops_n rfl (n_pf rfl rfl (by constructor)) ?_
     refine aops_n rfl (n_pt rfl rfl (by constructor)) ?_
     refine yN ?_
     dsimp only [St.put]
     refine ⟨_, ?_, ⟨⟨rfl, rfl⟩, zF, zB, zN, zX⟩⟩
     first
      | exact ⟨fun _ => ⟨by omega, (clash_iff (by omega) hu hk).2 (by rw [h7]; exact clash_self hso)⟩, fun h => by cases h⟩
      | exact ⟨fun h => ⟨by omega, (clash_iff (by omega) hu hk).2 h⟩, fun h _ hcl => by rw [(clash_iff (by omega) hu hk).1 hcl] at h; cases h⟩
      | exact ⟨fun h => (by cases h), fun _ h => absurd h (by omega)⟩
    have h3 := of_decide_eq_false hs
    refine yK rfl ?_
    refine yK rfl ?_
    refine yK rfl ?_
    refine yK rfl ?_
    refine yK rfl ?_
    refine yK rfl ?_
    refine yK rfl ?_
    refine yK rfl ?_
    refine aops_n rfl (n_pf rfl rfl (by constructor)) ?_
    refine yN ?_
    dsimp only [St.put]
    refine ⟨_, ?_, ⟨⟨rfl, rfl⟩, zF, zB, zN, zX⟩⟩
    first
     | exact ⟨fun _ => ⟨by omega, (clash_iff (by omega) hu hk).2 (by rw [h7]; exact clash_self hso)⟩, fun h => by cases h⟩
     | exact ⟨fun h => ⟨by omega, (clash_iff (by omega) hu hk).2 h⟩, fun h _ hcl => by rw [(clash_iff (by omega) hu hk).1 hcl] at h; cases h⟩
     | exact ⟨fun h => (by cases h), fun _ h => absurd h (by omega)⟩
   rintro b hst
   dsimp only at hst ⊢
   refine aw_cond rfl (fun hc => ?_) (fun hc => ?_)
   ·have hb1 := hc
    refine yS fun _ K29 => ?_
    refine yR ?_
    refine yM rfl rfl ?_
    refine yM rfl rfl ?_
    refine yA rfl rfl ?_
    refine yA rfl rfl ?_
    refine yA rfl rfl ?_
    refine yN ?_
    dsimp only [St.put]
    refine K29 _ ?_
    refine aw_exit ?_
    refine K9 _ ?_
    refine yR ?_
    refine aops_n rfl (n_add rfl rfl rfl (by omega)) ?_
    refine yM rfl rfl ?_
    refine yN ?_
    dsimp only [St.put]
    first
     | exact ⟨(k + 1, some (j, k), _, _), by (dsimp only; omega), ⟨by (dsimp only; omega), firstC_new hI.2 (hst.1 hb1).1 (hst.1 hb1).2 hM.2⟩, ⟨⟨rfl, rfl⟩, zF, zB, zN, zX⟩⟩
     | exact ⟨(k + 1, oc, _, _), by (dsimp only; omega), ⟨by (dsimp only; omega), firstC_old (by omega) hI.2 fun i h1 h2 => hM.2 i (by omega) h2⟩, ⟨⟨rfl, rfl⟩, zF, zB, zN, zX⟩⟩
   have hb0 := hc
   refine aw_skip ?_
   refine K26 _ ?_
   refine yR ?_
   refine aops_n rfl (n_add rfl rfl rfl (by omega)) ?_
   refine yM rfl rfl ?_
   refine yN ?_
   dsimp only [St.put]
   exact ⟨j + 1, by omega, ⟨by omega, fun i h1 h2 => by
     rcases Nat.eq_or_lt_of_le (Nat.le_of_lt_succ h1) with h | h
     ·subst h; exact hst.2 hb0 h2
     exact hM.2 i h h2⟩, ⟨⟨rfl, rfl⟩, zF, zB, zN, zX⟩⟩
  try replace hc := of_decide_eq_false hc
  refine aw_exit ?_
  refine K9 _ ?_
  refine yR ?_
  refine aops_n rfl (n_add rfl rfl rfl (by omega)) ?_
  refine yM rfl rfl ?_
  refine yN ?_
  dsimp only [St.put]
  first
   | exact ⟨(k + 1, some (j, k), _, _), by (dsimp only; omega), ⟨by (dsimp only; omega), firstC_new hI.2 (hst.1 hb1).1 (hst.1 hb1).2 hM.2⟩, ⟨⟨rfl, rfl⟩, zF, zB, zN, zX⟩⟩
   | exact ⟨(k + 1, oc, _, _), by (dsimp only; omega), ⟨by (dsimp only; omega), firstC_old (by omega) hI.2 fun i h1 h2 => hM.2 i (by omega) h2⟩, ⟨⟨rfl, rfl⟩, zF, zB, zN, zX⟩⟩
 have hk : e.ss.length ≤ k := by have := of_decide_eq_false hc; omega
 have hoc : firstC e.ss = oc := firstC_end (by
  have h1 := hI.2
  rw [take_all hk] at h1
  rw [List.take_length]; exact h1)
 rw [take_all hk, ← hoc]
 refine aw_exit ?_
 refine K5 _ ?_
 refine yS fun _ K30 => ?_
 refine yR ?_
 refine yM rfl rfl ?_
 refine yM rfl rfl ?_
 refine yM rfl rfl ?_
 refine yM rfl rfl ?_
 refine yA rfl rfl ?_
 refine yA rfl rfl ?_
 refine yA rfl rfl ?_
 refine yA rfl rfl ?_
 refine yN ?_
 dsimp only [St.put]
 refine K30 _ ?_
 refine aw_ret ?_
 refine ⟨(V, W), ?_⟩
 refine ends_4 rfl (by constructor) (by constructor) (by constructor) (by constructor) zN zX ?_ ?_ ?_ ?_
 ·rfl
 ·rfl
 ·rfl
 rfl
end Go.Proofs.YtjjklfgpffgnfabGreatDoor
