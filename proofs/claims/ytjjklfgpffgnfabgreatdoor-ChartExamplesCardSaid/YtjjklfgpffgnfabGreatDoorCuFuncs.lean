/-
 Contracts: comparisons and copies of editions; valid stretches and editions, as the program checks them.
-/
import Derived.Test.YtjjklfgpffgnfabGreatDoorCtPlain
namespace Go.AB
open Go Go.RowKit
open Go.PB (Chap TextD PlaceD)
/-- what a stretch is checked by, one by one -/
def chkB (t : TextD) (s : StretchD) : Nat → Bool
 | 0 => sB1 t s
 | 1 => sB2 t s
 | _ => sB3 s
theorem chk_all {t : TextD} {s : StretchD} (h : ∀ j, j < 3 → chkB t s j = true) : strB t s = true := by
 have h0 := h 0 (by omega)
 have h1 := h 1 (by omega)
 have h2 := h 2 (by omega)
 simp only [chkB] at h0 h1 h2
 simp [strB, h0, h1, h2]
theorem chk_no {t : TextD} {s : StretchD} {j : Nat} (hj : j < 3) (h : chkB t s j = false) : strB t s = false := by
 obtain rfl | rfl | rfl : j = 0 ∨ j = 1 ∨ j = 2 := by omega
 ·simp only [chkB] at h; simp [strB, h]
 ·simp only [chkB] at h; simp [strB, h]
 simp only [chkB] at h; simp [strB, h]
theorem editionB_wrong {t : TextD} {e : EditionD} : editionB t e = (inB e.id 0 9999 && (decide (e.ss.length ≤ 12) && decide ((e.ss.filter fun s => !strB t s).length = 0))) := by
 unfold editionB
 congr 2
 rw [Bool.eq_iff_iff, List.all_eq_true, decide_eq_true_eq, List.length_eq_zero_iff, List.filter_eq_nil_iff]
 simp
end Go.AB
namespace Go.Proofs.YtjjklfgpffgnfabGreatDoor
set_option maxRecDepth 10000
open Go.RowKit Go.AB
open Go.AB.Enc (cells)
open Go.PB (Chap TextD PlaceD ReadingD CopyD WayD)
theorem SamePlaces_pure (a b : List PlaceD) : Pure Tryz.prog 36 [lst a, lst b] (.v (.bool (decide (a = b)))) := by
 refine pure_of_body Tryz.func36 rfl (fun m => .v) fun G nx => ?_
 simp only [Tryz.ntmps36, List.length_cons, List.length_nil, Nat.reduceAdd, Nat.reduceSub]
 refine aw_lt fun hlt => ?_
 dsimp only at hlt
 refine aw_fit 0 (fun hf => ?_)
 have hf' : a.length ≤ 9223372036854775807 := (fit_lst.1 hf).1
 clear hf
 refine yS fun _ K1 => ?_
 refine yR ?_
 refine yA rfl rfl ?_
 refine yN ?_
 dsimp only [St.put]
 refine K1 _ ?_
 refine yS fun _ K2 => ?_
 refine yS fun _ K3 => ?_
 refine yR ?_
 refine yM rfl rfl ?_
 refine aops_n rfl (n_len' rfl rfl (List.length_map _)) ?_
 refine yM rfl rfl ?_
 refine aops_n rfl (n_len' rfl rfl (List.length_map _)) ?_
 refine aops_n rfl (n_neq rfl rfl rfl) ?_
 refine yN ?_
 dsimp only [St.put]
 refine K3 _ ?_
 refine aw_cond rfl (fun hc => ?_) (fun hc => ?_)
 ·try replace hc := of_decide_eq_true hc
  refine yS fun _ K4 => ?_
  refine yR ?_
  refine yA rfl rfl ?_
  refine yN ?_
  dsimp only [St.put]
  refine K4 _ ?_
  refine aw_ret ?_
  refine ends_1 rfl (by constructor) zN zS ?_
  exact vb (by
   have : a ≠ b := fun e => by subst e; simp at hc
   simp [this])
 have hab := nd_f hc
 refine aw_skip ?_
 refine K2 _ ?_
 refine yS fun _ K5 => ?_
 refine yS fun _ K6 => ?_
 refine yR ?_
 refine yA rfl rfl ?_
 refine yN ?_
 dsimp only [St.put]
 refine K6 _ ?_
 refine aw_block ?_
 refine aw_wipe 6 ?_
 simp only [firsts, getA, Nat.reduceAdd, List.getD_cons_zero, List.getD_cons_succ, List.getD_nil, natBeq, Nat.reduceBEq, cond_true, cond_false]
 refine aw_forget (G) zX ?_
 dsimp only
 refine aw_loopD (X := Nat) (fun k => k ≤ a.length ∧ a.take k = b.take k) (fun k => a.length - k) (fun k => [(5, .v (.int .i64 (k : Int)))]) (fun k G' => G') 0 rfl ?_ ?_ (fun _ _ h => h) ?_ ?_ ?_
 ·exact ⟨by simp, by simp⟩
 ·exact zF
 ·rintro k hI
  exact zL
 ·exact fun _ _ _ _ h => .inl h
 rintro k hI
 dsimp only at hI ⊢
 refine yS fun _ K7 => ?_
 refine yS fun _ K8 => ?_
 refine yR ?_
 refine yM rfl rfl ?_
 refine yM rfl rfl ?_
 refine aops_n rfl (n_len' rfl rfl (List.length_map _)) ?_
 refine aops_n rfl (n_lss rfl rfl rfl) ?_
 refine yN ?_
 dsimp only [St.put]
 refine K8 _ ?_
 refine aw_cond rfl (fun hc => ?_) (fun hc => ?_)
 ·replace hc := of_decide_eq_true hc
  obtain ⟨x, hx⟩ : ∃ x, a[k]? = some x := some_of_lt (by omega)
  obtain ⟨y, hy⟩ : ∃ y, b[k]? = some y := some_of_lt (by omega)
  refine aw_skip ?_
  refine K7 _ ?_
  refine yS fun _ K9 => ?_
  refine aw_block ?_
  refine yS fun _ K10 => ?_
  refine aw_draw [(0, none), (1, none), (2, none), (3, none), (4, none), (5, none), (6, none), (7, none), (8, none)] (fun i => [].contains i) (fun i => [].contains i) (fun i => [0, 1, 2, 4, 5, 6, 8].contains i) [] (by kernel_rfl) (by kernel_rfl) ?_
  refine xM rfl rfl rfl rfl rfl ?_
  refine xM rfl rfl rfl rfl rfl ?_
  try dsimp only [St.put]
  refine acan1_n rfl rfl rfl rfl (n_indexAddr rfl rfl rfl rfl (map_get (by assumption)) (Enc.len _)) ?_
  try dsimp only [St.put]
  refine acan1_s rfl rfl rfl rfl (s_load_agg' rfl rfl (Enc.len _)) ?_
  refine xM rfl rfl rfl rfl rfl ?_
  refine xM rfl rfl rfl rfl rfl ?_
  try dsimp only [St.put]
  refine acan1_n rfl rfl rfl rfl (n_indexAddr rfl rfl rfl rfl (map_get (by assumption)) (Enc.len _)) ?_
  try dsimp only [St.put]
  refine acan1_s rfl rfl rfl rfl (s_load_agg' rfl rfl (Enc.len _)) ?_
  refine acan1_n rfl rfl rfl rfl (n_agg_neq (x := x) (y := y) rfl rfl rfl) ?_
  refine acan1_nil ?_
  dsimp only [St.put]
  refine K10 _ ?_
  refine aw_cond rfl (fun hc => ?_) (fun hc => ?_)
  ·try replace hc := of_decide_eq_true hc
   refine yS fun _ K11 => ?_
   refine yR ?_
   refine yA rfl rfl ?_
   refine yN ?_
   dsimp only [St.put]
   refine K11 _ ?_
   refine aw_ret ?_
   refine ends_1 rfl (by constructor) zN zS ?_
   exact vb (by
    have := ne_of_get hx hy (nd_t hc)
    simp [this])
  have hxy := nd_f hc
  refine aw_skip ?_
  refine K9 _ ?_
  refine yR ?_
  refine yM rfl rfl ?_
  refine aops_n rfl (n_add rfl rfl rfl (by omega)) ?_
  refine yA rfl rfl ?_
  refine yN ?_
  dsimp only [St.put]
  exact ⟨k + 1, by omega, ⟨by omega, take_succ_eq hI.2 hx (hxy ▸ hy)⟩, ⟨⟨rfl, rfl⟩, zF, zB, zN, zX⟩⟩
 try replace hc := of_decide_eq_false hc
 refine aw_exit ?_
 refine K5 _ ?_
 refine yS fun _ K12 => ?_
 refine yR ?_
 refine yA rfl rfl ?_
 refine yN ?_
 dsimp only [St.put]
 refine K12 _ ?_
 refine aw_ret ?_
 refine ends_1 rfl (by constructor) zN zS ?_
 exact vb (by
  have h1 := hI.2
  rw [take_all (by omega), take_all (by omega)] at h1
  simp [h1])
theorem SameStretches_pure (a b : List StretchD) : Pure Tryz.prog 38 [lst a, lst b] (.v (.bool (decide (a = b)))) := by
 refine pure_of_body Tryz.func38 rfl (fun m => .v) fun G nx => ?_
 simp only [Tryz.ntmps38, List.length_cons, List.length_nil, Nat.reduceAdd, Nat.reduceSub]
 refine aw_lt fun hlt => ?_
 dsimp only at hlt
 refine aw_fit 0 (fun hf => ?_)
 have hf' : a.length ≤ 9223372036854775807 := (fit_lst.1 hf).1
 clear hf
 refine yS fun _ K1 => ?_
 refine yR ?_
 refine yA rfl rfl ?_
 refine yN ?_
 dsimp only [St.put]
 refine K1 _ ?_
 refine yS fun _ K2 => ?_
 refine yS fun _ K3 => ?_
 refine yR ?_
 refine yM rfl rfl ?_
 refine aops_n rfl (n_len' rfl rfl (List.length_map _)) ?_
 refine yM rfl rfl ?_
 refine aops_n rfl (n_len' rfl rfl (List.length_map _)) ?_
 refine aops_n rfl (n_neq rfl rfl rfl) ?_
 refine yN ?_
 dsimp only [St.put]
 refine K3 _ ?_
 refine aw_cond rfl (fun hc => ?_) (fun hc => ?_)
 ·try replace hc := of_decide_eq_true hc
  refine yS fun _ K4 => ?_
  refine yR ?_
  refine yA rfl rfl ?_
  refine yN ?_
  dsimp only [St.put]
  refine K4 _ ?_
  refine aw_ret ?_
  refine ends_1 rfl (by constructor) zN zS ?_
  exact vb (by
   have : a ≠ b := fun e => by subst e; simp at hc
   simp [this])
 have hab := nd_f hc
 refine aw_skip ?_
 refine K2 _ ?_
 refine yS fun _ K5 => ?_
 refine yS fun _ K6 => ?_
 refine yR ?_
 refine yA rfl rfl ?_
 refine yN ?_
 dsimp only [St.put]
 refine K6 _ ?_
 refine aw_block ?_
 refine aw_wipe 6 ?_
 simp only [firsts, getA, Nat.reduceAdd, List.getD_cons_zero, List.getD_cons_succ, List.getD_nil, natBeq, Nat.reduceBEq, cond_true, cond_false]
 refine aw_forget (G) zX ?_
 dsimp only
 refine aw_loopD (X := Nat) (fun k => k ≤ a.length ∧ a.take k = b.take k) (fun k => a.length - k) (fun k => [(5, .v (.int .i64 (k : Int)))]) (fun k G' => G') 0 rfl ?_ ?_ (fun _ _ h => h) ?_ ?_ ?_
 ·exact ⟨by simp, by simp⟩
 ·exact zF
 ·rintro k hI
  exact zL
 ·exact fun _ _ _ _ h => .inl h
 rintro k hI
 dsimp only at hI ⊢
 refine yS fun _ K7 => ?_
 refine yS fun _ K8 => ?_
 refine yR ?_
 refine yM rfl rfl ?_
 refine yM rfl rfl ?_
 refine aops_n rfl (n_len' rfl rfl (List.length_map _)) ?_
 refine aops_n rfl (n_lss rfl rfl rfl) ?_
 refine yN ?_
 dsimp only [St.put]
 refine K8 _ ?_
 refine aw_cond rfl (fun hc => ?_) (fun hc => ?_)
 ·replace hc := of_decide_eq_true hc
  obtain ⟨x, hx⟩ : ∃ x, a[k]? = some x := some_of_lt (by omega)
  obtain ⟨y, hy⟩ : ∃ y, b[k]? = some y := some_of_lt (by omega)
  refine aw_skip ?_
  refine K7 _ ?_
  refine yS fun _ K9 => ?_
  refine aw_block ?_
  refine yS fun _ K10 => ?_
  refine aw_draw [(0, none), (1, none), (2, none), (3, none), (4, none), (5, none), (6, none), (7, none), (8, none)] (fun i => [].contains i) (fun i => [].contains i) (fun i => [0, 1, 2, 4, 5, 6, 8].contains i) [] (by kernel_rfl) (by kernel_rfl) ?_
  refine xM rfl rfl rfl rfl rfl ?_
  refine xM rfl rfl rfl rfl rfl ?_
  try dsimp only [St.put]
  refine acan1_n rfl rfl rfl rfl (n_indexAddr rfl rfl rfl rfl (map_get (by assumption)) (Enc.len _)) ?_
  try dsimp only [St.put]
  refine acan1_s rfl rfl rfl rfl (s_load_agg' rfl rfl (Enc.len _)) ?_
  refine xM rfl rfl rfl rfl rfl ?_
  refine xM rfl rfl rfl rfl rfl ?_
  try dsimp only [St.put]
  refine acan1_n rfl rfl rfl rfl (n_indexAddr rfl rfl rfl rfl (map_get (by assumption)) (Enc.len _)) ?_
  try dsimp only [St.put]
  refine acan1_s rfl rfl rfl rfl (s_load_agg' rfl rfl (Enc.len _)) ?_
  refine acan1_n rfl rfl rfl rfl (n_agg_neq (x := x) (y := y) rfl rfl rfl) ?_
  refine acan1_nil ?_
  dsimp only [St.put]
  refine K10 _ ?_
  refine aw_cond rfl (fun hc => ?_) (fun hc => ?_)
  ·try replace hc := of_decide_eq_true hc
   refine yS fun _ K11 => ?_
   refine yR ?_
   refine yA rfl rfl ?_
   refine yN ?_
   dsimp only [St.put]
   refine K11 _ ?_
   refine aw_ret ?_
   refine ends_1 rfl (by constructor) zN zS ?_
   exact vb (by
    have := ne_of_get hx hy (nd_t hc)
    simp [this])
  have hxy := nd_f hc
  refine aw_skip ?_
  refine K9 _ ?_
  refine yR ?_
  refine yM rfl rfl ?_
  refine aops_n rfl (n_add rfl rfl rfl (by omega)) ?_
  refine yA rfl rfl ?_
  refine yN ?_
  dsimp only [St.put]
  exact ⟨k + 1, by omega, ⟨by omega, take_succ_eq hI.2 hx (hxy ▸ hy)⟩, ⟨⟨rfl, rfl⟩, zF, zB, zN, zX⟩⟩
 try replace hc := of_decide_eq_false hc
 refine aw_exit ?_
 refine K5 _ ?_
 refine yS fun _ K12 => ?_
 refine yR ?_
 refine yA rfl rfl ?_
 refine yN ?_
 dsimp only [St.put]
 refine K12 _ ?_
 refine aw_ret ?_
 refine ends_1 rfl (by constructor) zN zS ?_
 exact vb (by
  have h1 := hI.2
  rw [take_all (by omega), take_all (by omega)] at h1
  simp [h1])
theorem edition_eq {a b : EditionD} : decide (a = b) = (decide (a.id = b.id) && decide (a.ss = b.ss)) := by
 obtain ⟨a1, a2⟩ := a
 obtain ⟨b1, b2⟩ := b
 rw [Bool.eq_iff_iff]; simp
theorem Same2_pure (a b : EditionD) : Pure Tryz.prog 19 [val a, val b] (.v (.bool (decide (a = b)))) := by
 refine pure_of_body Tryz.func19 rfl (fun m => .v) fun G nx => ?_
 simp only [Tryz.ntmps19, List.length_cons, List.length_nil, Nat.reduceAdd, Nat.reduceSub]
 refine aw_lt fun hlt => ?_
 dsimp only at hlt
 refine yS fun _ K1 => ?_
 refine yR ?_
 try dsimp only [St.put]
 refine yB rfl rfl rfl ?_
 try dsimp only [St.put]
 refine yB rfl rfl rfl ?_
 refine yA rfl rfl ?_
 refine yN ?_
 dsimp only [St.put]
 refine K1 _ ?_
 refine yS fun _ K2 => ?_
 refine yR ?_
 refine yF rfl rfl rfl rfl ?_
 refine yL rfl rfl rfl ?_
 refine yF rfl rfl rfl rfl ?_
 refine yL rfl rfl rfl ?_
 refine aops_n rfl (n_eql rfl rfl rfl) ?_
 refine yM rfl rfl ?_
 refine aops_split (fun hs => ?_) (fun hs => ?_)
 ·try replace hs := of_decide_eq_true hs
  refine yF rfl rfl rfl rfl ?_
  refine yL rfl rfl rfl ?_
  refine yF rfl rfl rfl rfl ?_
  refine yL rfl rfl rfl ?_
  try dsimp only [St.put]
  refine aops_e rfl (e_call_pure rfl rfl rfl (SameStretches_pure _ _) ?_)
  refine aops_n rfl (n_pt rfl rfl (by constructor)) ?_
  refine yA rfl rfl ?_
  refine yN ?_
  dsimp only [St.put]
  refine K2 _ ?_
  refine aw_ret ?_
  refine ends_1 rfl (by constructor) zN zS ?_
  exact vb (by rw [edition_eq]; simp [hs])
 try replace hs := of_decide_eq_false hs
 refine yK rfl ?_
 refine yK rfl ?_
 refine yK rfl ?_
 refine yK rfl ?_
 refine yK rfl ?_
 refine aops_n rfl (n_pf rfl rfl (by constructor)) ?_
 refine yA rfl rfl ?_
 refine yN ?_
 dsimp only [St.put]
 refine K2 _ ?_
 refine aw_ret ?_
 refine ends_1 rfl (by constructor) zN zS ?_
 exact vb (by rw [edition_eq]; simp [hs])
/-! ### What a stretch is checked by -/
abbrev chkF : GObj := .fact (.pointer (some ⟨0, 0, none⟩)) (.elem [.fn (.func 162) [], .fn (.func 163) [], .fn (.func 164) []])
theorem checks1_pure (t : TextD) (s : StretchD) (hl : t.length ≤ 6) : Pure Tryz.prog 162 [textC t, val s] (.v (.bool (sB1 t s))) := by
 refine pure_of_body Tryz.func162 rfl (fun m => .v) fun G nx => ?_
 simp only [Tryz.ntmps162, List.length_cons, List.length_nil, Nat.reduceAdd, Nat.reduceSub]
 refine aw_lt fun hlt => ?_
 dsimp only at hlt
 refine yS fun _ K1 => ?_
 refine yR ?_
 try dsimp only [St.put]
 refine yB rfl rfl rfl ?_
 try dsimp only [St.put]
 refine yB rfl rfl rfl ?_
 refine yA rfl rfl ?_
 refine yN ?_
 dsimp only [St.put]
 refine K1 _ ?_
 refine yS fun _ K2 => ?_
 refine yR ?_
 refine yF rfl rfl rfl rfl ?_
 refine yL rfl rfl rfl ?_
 refine aops_n rfl (n_len' rfl rfl (List.length_map _)) ?_
 refine aops_n rfl (n_sub rfl rfl rfl (by omega)) ?_
 refine yF rfl rfl rfl rfl ?_
 refine yL rfl rfl rfl ?_
 try dsimp only [St.put]
 refine aops_e rfl (e_buildSlice rfl rfl rfl (by decide) (by decide) zR (by decide) ?_)
 try dsimp only [St.put]
 refine aops_e rfl (e_call_pure rfl rfl rfl (chartIn_pure _ _ [s.ch]) ?_)
 refine yA rfl rfl ?_
 refine yN ?_
 dsimp only [St.put]
 refine K2 _ ?_
 refine aw_ret ?_
 refine ends_1 rfl (by constructor) zN zS ?_
 exact vb (by rw [inAll_one]; rfl)
theorem checks2_pure (t : TextD) (s : StretchD) (ht : textB t = true) (h1 : sB1 t s = true) : Pure Tryz.prog 163 [textC t, val s] (.v (.bool (sB2 t s))) := by
 refine pure_of_body Tryz.func163 rfl (fun m => .v) fun G nx => ?_
 simp only [Tryz.ntmps163, List.length_cons, List.length_nil, Nat.reduceAdd, Nat.reduceSub]
 refine aw_lt fun hlt => ?_
 dsimp only at hlt
 obtain ⟨hl1, hl2, hl3⟩ := text_ok ht
 have hn1' := h1
 simp only [sB1, inB_true] at hn1'
 obtain ⟨c, hcx⟩ : ∃ c, t[s.ch.toNat]? = some c := some_of_lt (by omega)
 have hnl : nlines t s.ch = c.lines.length := by simp [nlines, hcx]
 have hll := (hl3 c (mem_of_get hcx)).2.1
 have hch : s.ch = ((s.ch.toNat : Nat) : Int) := by omega
 refine yS fun _ K1 => ?_
 refine yR ?_
 try dsimp only [St.put]
 refine yB rfl rfl rfl ?_
 try dsimp only [St.put]
 refine yB rfl rfl rfl ?_
 refine yA rfl rfl ?_
 refine yN ?_
 dsimp only [St.put]
 refine K1 _ ?_
 refine yS fun _ K2 => ?_
 refine yR ?_
 refine yF rfl rfl rfl rfl ?_
 refine yL rfl rfl rfl ?_
 refine yF rfl rfl rfl rfl ?_
 refine yL rfl rfl rfl ?_
 try dsimp only [St.put]
 refine aops_n rfl (n_indexAddr rfl rfl rfl (by omega) (map_get (by assumption)) (Enc.len _)) ?_
 refine yF rfl rfl rfl rfl ?_
 refine yL rfl rfl rfl ?_
 refine aops_n rfl (n_len' rfl rfl (List.length_map _)) ?_
 refine yA rfl rfl ?_
 refine yN ?_
 dsimp only [St.put]
 refine K2 _ ?_
 refine yS fun _ K3 => ?_
 refine yR ?_
 refine yM rfl rfl ?_
 refine aops_n rfl (n_sub rfl rfl rfl (by omega)) ?_
 refine yF rfl rfl rfl rfl ?_
 refine yL rfl rfl rfl ?_
 try dsimp only [St.put]
 refine aops_e rfl (e_buildSlice rfl rfl rfl (by decide) (by decide) zR (by decide) ?_)
 try dsimp only [St.put]
 refine aops_e rfl (e_call_pure rfl rfl rfl (chartIn_pure _ _ [s.fr]) ?_)
 refine yM rfl rfl ?_
 refine aops_split (fun hs => ?_) (fun hs => ?_)
 ·have h23 : inB s.fr 0 ((nlines t s.ch : Int) - 1) = true := by rw [hnl]; rwa [inAll_one] at hs
  have hn2' := h23
  simp only [inB_true] at hn2'
  refine yF rfl rfl rfl rfl ?_
  refine yL rfl rfl rfl ?_
  refine aops_n rfl (n_add rfl rfl rfl (by omega)) ?_
  refine yM rfl rfl ?_
  refine yF rfl rfl rfl rfl ?_
  refine yL rfl rfl rfl ?_
  try dsimp only [St.put]
  refine aops_e rfl (e_buildSlice rfl rfl rfl (by decide) (by decide) zR (by decide) ?_)
  try dsimp only [St.put]
  refine aops_e rfl (e_call_pure rfl rfl rfl (chartIn_pure _ _ [s.tt]) ?_)
  refine aops_n rfl (n_pt rfl rfl (by constructor)) ?_
  refine yA rfl rfl ?_
  refine yN ?_
  dsimp only [St.put]
  refine K3 _ ?_
  refine aw_ret ?_
  refine ends_1 rfl (by constructor) zN zS ?_
  first
  | (refine vb ?_; rw [inAll_one, ← hnl]; simp [sB2, h23]; done)
  | (refine vb ?_; simp [sB2, h23]; done)
 have h23 : inB s.fr 0 ((nlines t s.ch : Int) - 1) = false := by rw [hnl]; rwa [inAll_one] at hs
 refine yK rfl ?_
 refine yK rfl ?_
 refine yK rfl ?_
 refine yK rfl ?_
 refine yK rfl ?_
 refine yK rfl ?_
 refine yK rfl ?_
 refine yK rfl ?_
 refine aops_n rfl (n_pf rfl rfl (by constructor)) ?_
 refine yA rfl rfl ?_
 refine yN ?_
 dsimp only [St.put]
 refine K3 _ ?_
 refine aw_ret ?_
 refine ends_1 rfl (by constructor) zN zS ?_
 first
 | (refine vb ?_; rw [inAll_one, ← hnl]; simp [sB2, h23]; done)
 | (refine vb ?_; simp [sB2, h23]; done)
theorem checks3_pure (t : TextD) (s : StretchD) (ht : textB t = true) (h1 : sB1 t s = true) (h2 : sB2 t s = true) : Pure Tryz.prog 164 [textC t, val s] (.v (.bool (sB3 s))) := by
 refine pure_of_body Tryz.func164 rfl (fun m => .v) fun G nx => ?_
 simp only [Tryz.ntmps164, List.length_cons, List.length_nil, Nat.reduceAdd, Nat.reduceSub]
 refine aw_lt fun hlt => ?_
 dsimp only at hlt
 have hnl := nlines_le ht s.ch
 have h2' := h2
 simp only [sB2, Bool.and_eq_true, inB_true] at h2'
 refine yS fun _ K1 => ?_
 refine yR ?_
 try dsimp only [St.put]
 refine yB rfl rfl rfl ?_
 try dsimp only [St.put]
 refine yB rfl rfl rfl ?_
 refine yA rfl rfl ?_
 refine yN ?_
 dsimp only [St.put]
 refine K1 _ ?_
 refine yS fun _ K2 => ?_
 refine yR ?_
 refine yF rfl rfl rfl rfl ?_
 refine yL rfl rfl rfl ?_
 refine yF rfl rfl rfl rfl ?_
 refine yL rfl rfl rfl ?_
 try dsimp only [St.put]
 refine aops_e rfl (e_buildSlice rfl rfl rfl (by decide) (by decide) zR (by decide) ?_)
 try dsimp only [St.put]
 refine aops_e rfl (e_call_pure rfl rfl rfl (chartIn_pure _ _ [s.au, s.fi]) ?_)
 refine yM rfl rfl ?_
 refine aops_split (fun hs => ?_) (fun hs => ?_)
 ·have h6 : inB s.au 1 999 = true ∧ inB s.fi 1 999 = true := by rwa [inAll_two, Bool.and_eq_true] at hs
  have h7 := h6.2
  simp only [inB_true] at h7
  refine yF rfl rfl rfl rfl ?_
  refine yL rfl rfl rfl ?_
  refine yF rfl rfl rfl rfl ?_
  refine yL rfl rfl rfl ?_
  refine aops_n rfl (n_add rfl rfl rfl (by omega)) ?_
  refine yF rfl rfl rfl rfl ?_
  refine yL rfl rfl rfl ?_
  refine aops_n rfl (n_sub rfl rfl rfl (by omega)) ?_
  refine aops_n rfl (n_sub rfl rfl rfl (by omega)) ?_
  refine aops_n rfl (n_leq rfl rfl rfl) ?_
  refine aops_n rfl (n_pt rfl rfl (by constructor)) ?_
  refine yA rfl rfl ?_
  refine yN ?_
  dsimp only [St.put]
  refine K2 _ ?_
  refine aw_ret ?_
  refine ends_1 rfl (by constructor) zN zS ?_
  first
  | (refine vb ?_
     rw [Bool.eq_iff_iff, decide_eq_true_eq]
     simp only [sB3, h6.1, Bool.true_and, inB_true]
     omega)
  | (refine vb ?_
     rw [eq_comm, ← Bool.not_eq_true]
     intro h
     simp only [sB3, Bool.and_eq_true, inB_true] at h
     simp only [← Bool.not_eq_true, Bool.and_eq_true, inB_true] at h6
     omega)
 have h6 : (inB s.au 1 999 && inB s.fi 1 999) = false := by rwa [inAll_two] at hs
 refine yK rfl ?_
 refine yK rfl ?_
 refine yK rfl ?_
 refine yK rfl ?_
 refine yK rfl ?_
 refine yK rfl ?_
 refine yK rfl ?_
 refine yK rfl ?_
 refine yK rfl ?_
 refine yK rfl ?_
 refine aops_n rfl (n_pf rfl rfl (by constructor)) ?_
 refine yA rfl rfl ?_
 refine yN ?_
 dsimp only [St.put]
 refine K2 _ ?_
 refine aw_ret ?_
 refine ends_1 rfl (by constructor) zN zS ?_
 first
 | (refine vb ?_
    rw [Bool.eq_iff_iff, decide_eq_true_eq]
    simp only [sB3, h6.1, Bool.true_and, inB_true]
    omega)
 | (refine vb ?_
    rw [eq_comm, ← Bool.not_eq_true]
    intro h
    simp only [sB3, Bool.and_eq_true, inB_true] at h
    simp only [← Bool.not_eq_true, Bool.and_eq_true, inB_true] at h6
    omega)
theorem right_pureF (t : TextD) (s : StretchD) (ht : textB t = true) : PureF chkF Tryz.prog 65 [textC t, val s] (.v (.bool (strB t s))) := by
 refine pureF_of_body Tryz.func65 rfl (fun m => .v) fun G nx hF => ?_
 simp only [Tryz.ntmps65, List.length_cons, List.length_nil, Nat.reduceAdd, Nat.reduceSub]
 refine aw_lt fun hlt => ?_
 dsimp only at hlt
 have hl6 := (text_ok ht).2.1
 have hnx := hlt 0 _ hF
 refine yS fun _ K1 => ?_
 refine yR ?_
 try dsimp only [St.put]
 refine yB rfl rfl rfl ?_
 try dsimp only [St.put]
 refine yB rfl rfl rfl ?_
 refine yA rfl rfl ?_
 refine yN ?_
 dsimp only [St.put]
 refine K1 _ ?_
 refine yS fun _ K2 => ?_
 refine yS fun _ K3 => ?_
 refine yR ?_
 try dsimp only [St.put]
 refine aops_s rfl (s_load_fact rfl rfl zG (by rfl)) ?_
 refine yM rfl rfl ?_
 refine yN ?_
 dsimp only [St.put]
 refine K3 _ ?_
 refine aw_block ?_
 refine aw_wipe 9 ?_
 simp only [firsts, getA, Nat.reduceAdd, List.getD_cons_zero, List.getD_cons_succ, List.getD_nil, natBeq, Nat.reduceBEq, cond_true, cond_false]
 refine aw_forget (G) zX ?_
 dsimp only
 refine aw_loopD (X := Nat) (fun k => k ≤ 3 ∧ ∀ j, j < k → chkB t s j = true) (fun k => 3 - k) (fun k => [(5, .any), (6, .any), (8, .v (.int .i64 (k : Int)))]) (fun k G' => G') 0 rfl ?_ ?_ (fun _ _ h => h) ?_ ?_ ?_
 ·exact ⟨by omega, fun j hj => by omega⟩
 ·exact zF
 ·rintro k hI
  exact zL
 ·exact fun _ _ _ _ h => .inl h
 rintro k hI
 dsimp only at hI ⊢
 refine yS fun _ K4 => ?_
 refine yR ?_
 refine aops_n rfl (n_lss rfl rfl rfl) ?_
 refine yN ?_
 dsimp only [St.put]
 refine K4 _ ?_
 refine yS fun _ K5 => ?_
 refine aw_cond rfl (fun hc => ?_) (fun hc => ?_)
 ·replace hc := of_decide_eq_true hc
  obtain ⟨f, hd, hFun, hp⟩ : ∃ f : Nat, (List.take 1 (List.drop (k * 1) [C.fn (.func 162) [], .fn (.func 163) [], .fn (.func 164) []])) = [C.fn (.func f) []] ∧ Fun Tryz.prog f ∧ Pure Tryz.prog f [textC t, val s] (.v (.bool (chkB t s k))) := by
   obtain rfl | rfl | rfl : k = 0 ∨ k = 1 ∨ k = 2 := by omega
   ·exact ⟨_, rfl, inferInstance, checks1_pure t s hl6⟩
   ·exact ⟨_, rfl, inferInstance, checks2_pure t s ht (hI.2 0 (by omega))⟩
   exact ⟨_, rfl, inferInstance, checks3_pure t s ht (hI.2 0 (by omega)) (hI.2 1 (by omega))⟩
  refine aw_skip ?_
  refine K5 _ ?_
  refine yS fun _ K6 => ?_
  refine aw_block ?_
  refine yS fun _ K7 => ?_
  refine yR ?_
  refine aops_n rfl (n_index_arrA (m := 3) (k := k) (ds := [C.fn (.func f) []]) rfl rfl rfl rfl (by omega) hd) ?_
  try dsimp only [St.put]
  refine aops_e rfl (e_allocC rfl ?_)
  try dsimp only [St.put]
  refine aops_e rfl (e_store_all rfl rfl rfl zG rfl rfl (by rfl) ?_)
  refine yN ?_
  dsimp only [St.put]
  refine K7 _ ?_
  refine aw_commitD (i := 6) rfl zG (by first | exact List.cons_ne_nil _ _ | (simp; done) | (simp [putAt]; done)) ?_
  dsimp only
  refine yS fun _ K8 => ?_
  refine yR ?_
  refine yF rfl rfl rfl rfl ?_
  refine yL rfl rfl rfl ?_
  try dsimp only [St.put]
  refine aops_s rfl (s_load_agg' rfl rfl rfl) ?_
  refine yE rfl rfl rfl ?_
  try dsimp only [St.put]
  refine aops_e rfl (e_call_pure rfl rfl rfl (hp) ?_)
  refine aops_n rfl (n_not rfl rfl) ?_
  refine yN ?_
  dsimp only [St.put]
  refine K8 _ ?_
  refine aw_cond rfl (fun hc => ?_) (fun hc => ?_)
  ·try replace hc := of_decide_eq_true hc
   refine yS fun _ K9 => ?_
   refine yR ?_
   refine yA rfl rfl ?_
   refine yN ?_
   dsimp only [St.put]
   refine K9 _ ?_
   refine aw_ret ?_
   refine ends_1 rfl (by constructor) zN zS ?_
   exact vb (chk_no (j := k) (by omega) (by simpa using hc)).symm
  try replace hc := of_decide_eq_false hc
  refine aw_skip ?_
  refine K6 _ ?_
  refine yR ?_
  refine aops_n rfl (n_add rfl rfl rfl (by omega)) ?_
  refine yM rfl rfl ?_
  refine yN ?_
  dsimp only [St.put]
  exact ⟨k + 1, by omega, ⟨by omega, fun j hj => by
    rcases Nat.eq_or_lt_of_le (Nat.le_of_lt_succ hj) with h | h
    ·subst h; simpa using hc
    exact hI.2 j h⟩, ⟨⟨rfl, rfl⟩, zF, zB, zN, zX⟩⟩
 try replace hc := of_decide_eq_false hc
 refine aw_exit ?_
 refine K2 _ ?_
 refine yS fun _ K10 => ?_
 refine yR ?_
 refine yA rfl rfl ?_
 refine yN ?_
 dsimp only [St.put]
 refine K10 _ ?_
 refine aw_ret ?_
 refine ends_1 rfl (by constructor) zN zS ?_
 exact vb (chk_all fun j hj => hI.2 j (by omega)).symm
theorem chartCheck1_pureF (t : TextD) (s : StretchD) (ht : textB t = true) : PureF chkF Tryz.prog 64 [val s, .elem [lst t]] (.v (.bool (!strB t s))) := by
 refine pureF_of_body Tryz.func64 rfl (fun m => .v) fun G nx hF => ?_
 simp only [Tryz.ntmps64, List.length_cons, List.length_nil, Nat.reduceAdd, Nat.reduceSub]
 refine aw_lt fun hlt => ?_
 dsimp only at hlt
 have hnx := hlt 0 _ hF
 refine yS fun _ K1 => ?_
 refine yR ?_
 try dsimp only [St.put]
 refine yB rfl rfl rfl ?_
 refine yA rfl rfl ?_
 refine yN ?_
 dsimp only [St.put]
 refine K1 _ ?_
 refine yS fun _ K2 => ?_
 refine yR ?_
 try dsimp only [St.put]
 refine aops_s rfl (s_load_agg' rfl rfl rfl) ?_
 refine yE rfl rfl rfl ?_
 try dsimp only [St.put]
 refine aops_e rfl (e_call_f rfl rfl rfl (right_pureF t s ht) zG ?_)
 refine aops_n rfl (n_not rfl rfl) ?_
 refine yA rfl rfl ?_
 refine yN ?_
 dsimp only [St.put]
 refine K2 _ ?_
 refine aw_ret ?_
 refine ends_1 rfl (by constructor) zN zS ?_
 rfl
theorem picked_pureF (xs : List StretchD) (p : StretchD → Bool) (k : Nat) (caps : List C) [Fun Tryz.prog k] (hl : xs.length ≤ 20) (hp : ∀ x ∈ xs, PureF chkF Tryz.prog k (val x :: caps) (.v (.bool (p x)))) : PureF chkF Tryz.prog 63 [lst xs, .fn (.func k) caps] (lst (xs.filter p)) := by
 refine pureF_of_body Tryz.func63 rfl (fun m => (lst_low _ _)) fun G nx hF => ?_
 simp only [Tryz.ntmps63, List.length_cons, List.length_nil, Nat.reduceAdd, Nat.reduceSub]
 refine aw_lt fun hlt => ?_
 dsimp only at hlt
 have hnx := hlt 0 _ hF
 refine yS fun _ K1 => ?_
 refine yR ?_
 refine yA rfl rfl ?_
 refine yN ?_
 dsimp only [St.put]
 refine K1 _ ?_
 refine yS fun _ K2 => ?_
 refine yR ?_
 refine yA rfl rfl ?_
 refine yN ?_
 dsimp only [St.put]
 refine K2 _ ?_
 refine aw_adopt 5 28 5 rfl (by decide) ?_
 dsimp only [List.set_cons_zero, List.set_cons_succ]
 refine yS fun _ K3 => ?_
 refine yS fun _ K4 => ?_
 refine yR ?_
 refine yM rfl rfl ?_
 refine aops_n rfl (n_len' rfl rfl (List.length_map _)) ?_
 refine yM rfl rfl ?_
 refine yN ?_
 dsimp only [St.put]
 refine K4 _ ?_
 refine aw_block ?_
 refine aw_wipe 11 ?_
 simp only [firsts, getA, Nat.reduceAdd, List.getD_cons_zero, List.getD_cons_succ, List.getD_nil, natBeq, Nat.reduceBEq, cond_true, cond_false]
 refine aw_forget (setG G nx (.tip 0 28 5)) zX ?_
 dsimp only
 refine aw_loopD (X := Nat) (fun i => i ≤ xs.length) (fun i => xs.length - i) (fun i => [(5, .list (((xs.take i).filter p).map cells) (.tip nx)), (6, .any), (7, .any), (10, .v (.int .i64 (i : Int)))]) (fun i G' => (setG G nx (.tip (((xs.take i).filter p)).length 28 5))) 0 rfl ?_ ?_ ?_ ?_ ?_ ?_
 ·exact Nat.zero_le _
 ·exact zF
 ·exact zX
 ·rintro i hI
  exact zL
 ·rintro i hI
  exact zH
 rintro i hI
 dsimp only at hI ⊢
 refine yS fun _ K5 => ?_
 refine yR ?_
 refine aops_n rfl (n_lss rfl rfl rfl) ?_
 refine yN ?_
 dsimp only [St.put]
 refine K5 _ ?_
 refine yS fun _ K6 => ?_
 refine aw_cond rfl (fun hc => ?_) (fun hc => ?_)
 ·replace hc := of_decide_eq_true hc
  obtain ⟨x, hx⟩ : ∃ x, xs[i]? = some x := some_of_lt (by omega)
  have hfl := List.length_filter_le p (xs.take i)
  rw [List.length_take] at hfl
  refine aw_skip ?_
  refine K6 _ ?_
  refine yS fun _ K7 => ?_
  refine aw_block ?_
  refine yS fun _ K8 => ?_
  refine yR ?_
  refine aops_n rfl (n_indexAddr rfl rfl rfl rfl (map_get (by assumption)) (Enc.len _)) ?_
  refine yE rfl rfl rfl ?_
  try dsimp only [St.put]
  refine aops_e rfl (e_allocC rfl ?_)
  try dsimp only [St.put]
  refine aops_e rfl (e_store_all rfl rfl rfl zG rfl rfl (by rfl) ?_)
  refine yN ?_
  dsimp only [St.put]
  refine K8 _ ?_
  refine aw_commitD (i := 7) rfl zG (by first | exact List.cons_ne_nil _ _ | (simp; done) | (simp [putAt]; done)) ?_
  dsimp only
  refine yS fun _ K9 => ?_
  refine yR ?_
  refine yM rfl rfl ?_
  refine yE rfl rfl rfl ?_
  try dsimp only [St.put]
  refine aops_e rfl (e_call_f rfl rfl rfl (hp x (mem_of_get hx)) zG ?_)
  refine yN ?_
  dsimp only [St.put]
  refine K9 _ ?_
  refine aw_cond rfl (fun hc => ?_) (fun hc => ?_)
  ·skip
   refine yR ?_
   refine yM rfl rfl ?_
   refine yE rfl rfl rfl ?_
   try dsimp only [St.put]
   refine aops_e rfl (e_buildSlice rfl rfl rfl (by decide) (by decide) zR (by decide) ?_)
   try dsimp only [St.put]
   refine aops_e rfl (e_append ([x]) rfl rfl zG (by first | rfl | simp) rfl rfl zA ?_ zA)
   refine yA rfl rfl ?_
   refine yN ?_
   dsimp only [St.put]
   refine K7 _ ?_
   refine yR ?_
   refine aops_n rfl (n_add rfl rfl rfl (by omega)) ?_
   refine yM rfl rfl ?_
   refine yN ?_
   dsimp only [St.put]
   first
    | (rw [show (xs.take i).filter p ++ [x] = (xs.take (i + 1)).filter p by rw [List.take_add_one, hx, List.filter_append]; simp [hc]]; exact ⟨i + 1, by omega, by omega, ⟨⟨rfl, rfl⟩, zF, zB, zN, zX⟩⟩)
    | (rw [show (xs.take i).filter p = (xs.take (i + 1)).filter p by rw [List.take_add_one, hx, List.filter_append]; simp [hc]]; exact ⟨i + 1, by omega, by omega, ⟨⟨rfl, rfl⟩, zF, zB, zN, zX⟩⟩)
  skip
  refine aw_skip ?_
  refine K7 _ ?_
  refine yR ?_
  refine aops_n rfl (n_add rfl rfl rfl (by omega)) ?_
  refine yM rfl rfl ?_
  refine yN ?_
  dsimp only [St.put]
  first
   | (rw [show (xs.take i).filter p ++ [x] = (xs.take (i + 1)).filter p by rw [List.take_add_one, hx, List.filter_append]; simp [hc]]; exact ⟨i + 1, by omega, by omega, ⟨⟨rfl, rfl⟩, zF, zB, zN, zX⟩⟩)
   | (rw [show (xs.take i).filter p = (xs.take (i + 1)).filter p by rw [List.take_add_one, hx, List.filter_append]; simp [hc]]; exact ⟨i + 1, by omega, by omega, ⟨⟨rfl, rfl⟩, zF, zB, zN, zX⟩⟩)
 try replace hc := of_decide_eq_false hc
 refine aw_exit ?_
 refine K3 _ ?_
 refine yS fun _ K10 => ?_
 refine yR ?_
 refine yM rfl rfl ?_
 refine yA rfl rfl ?_
 refine yN ?_
 dsimp only [St.put]
 refine K10 _ ?_
 refine aw_ret ?_
 refine ends_v1 rfl (rv_tmp (by constructor)) zN zS ?_
 rw [take_all (show xs.length ≤ i by omega)]
 exact zW
end Go.Proofs.YtjjklfgpffgnfabGreatDoor
