/-
 Contracts of the program's functions of charts: the nearest places of a place.
-/
import Derived.Test.YtjjklfgpffgnfabGreatDoorFcNear
namespace Go.AB
open Go Go.RowKit
open Go.AB.Enc (cells)
open Go.PB (Chap TextD PlaceD ReadingD CopyD WayD)
theorem words_sorted (t : TextD) (f : L2 → Option L2) : (wordsF t f).Pairwise fun a b => ltW (keyP a) (keyP b) := by
 unfold wordsF wordsP
 rw [List.pairwise_flatten]
 constructor
 ·intro l hl
  obtain ⟨p, _, rfl⟩ := List.mem_map.1 hl
  unfold lineW
  cases (f p).isSome
  ·exact List.Pairwise.nil
  rw [cond_true]
  unfold lineN
  rw [List.pairwise_map]
  refine List.Pairwise.imp (fun {a b} h => ?_) List.pairwise_lt_range
  simp only [keyP, ltW]
  refine .inr ⟨trivial, .inr ⟨trivial, .inl ?_⟩⟩
  omega
 rw [List.pairwise_map]
 refine List.Pairwise.imp (fun {p q} h => ?_) (linesT_sorted t)
 intro a ha b hb
 unfold lineW at ha hb
 cases hp : (f p).isSome with
 | false => rw [hp] at ha; simp at ha
 | true =>
  cases hq : (f q).isSome with
  | false => rw [hq] at hb; simp at hb
  | true =>
   rw [hp, cond_true] at ha
   rw [hq, cond_true] at hb
   obtain ⟨i, _, rfl⟩ := List.mem_map.1 ha
   obtain ⟨j, _, rfl⟩ := List.mem_map.1 hb
   simp only [keyP, ltW]
   rcases h with h | ⟨h1, h2⟩
   ·exact .inl h
   exact .inr ⟨h1, .inl h2⟩
theorem keyP_ok (S : List PlaceD) : KeyOk S keyP 3 := ⟨fun _ _ => rfl, fun _ _ _ _ h => keyP_inj h⟩
theorem cutL_near {l : List PlaceD} {key : PlaceD → List Int} {x : List Int} {n : Nat} (hn : x.length = n) (hlen : ∀ y ∈ l, (key y).length = n) (hs : l.Pairwise fun a b => ltW (key a) (key b)) (hne : ∀ y ∈ l, key y ≠ x) :
  NearOk l key x (besideL l (cutL l fun p => cmpL (key p) x)) := by
 refine besideL_near hn hlen hs hne (cutL_le _ _) (fun y hy hl => ?_) (fun y hy => ?_)
 ·obtain ⟨j, hj⟩ := List.getElem?_of_mem hy
  rw [List.getElem?_take] at hj
  split at hj
  ·rename_i hlt
   obtain ⟨j1, j2⟩ := List.getElem?_eq_some_iff.1 hj
   have := List.not_of_lt_findIdx (p := fun p => decide (0 < cmpL (key p) x)) (xs := l) hlt
   rw [j2] at this
   exact of_decide_eq_false this ((cmpL_gt ((hlen y (List.mem_of_getElem? hj)).trans hn.symm)).2 hl)
  cases hj
 obtain ⟨j1, j2⟩ := List.getElem?_eq_some_iff.1 hy
 have := List.findIdx_getElem (p := fun p => decide (0 < cmpL (key p) x)) (xs := l) (w := j1)
 have h3 : l[l.findIdx fun p => decide (0 < cmpL (key p) x)] = y := j2
 rw [h3] at this
 exact (cmpL_gt ((hlen y (List.mem_of_getElem? hy)).trans hn.symm)).1 (of_decide_eq_true this)
noncomputable def nearL (t : TextD) (ss : List StretchD) (p : PlaceD) : List PlaceD := bif (asOf ss (p.ch, p.ln)).isSome then [p] else nearS (wordsF t (asOf ss)) keyP (keyP p)
noncomputable def nearEr (t : TextD) (e : EditionD) (p : PlaceD) : Int := bif decide (soundEr t e = 0) then (bif placeB t p then (bif decide (nearL t e.ss p = []) then 6 else 0) else 12) else soundEr t e
noncomputable def nearV (t : TextD) (e : EditionD) (p : PlaceD) : List PlaceD := bif decide (nearEr t e p = 0) then nearL t e.ss p else []
theorem near_words {t : TextD} {ss : List StretchD} {p : PlaceD} (hno : asOf ss (p.ch, p.ln) = none) : ∀ y ∈ wordsF t (asOf ss), keyP y ≠ keyP p := fun y hy e => by
 have := (mem_words.1 hy).2
 rw [keyP_inj e, hno] at this
 cases this
theorem near_beside {t : TextD} {ss : List StretchD} {p : PlaceD} (hno : asOf ss (p.ch, p.ln) = none) : besideL (wordsF t (asOf ss)) (cutL (wordsF t (asOf ss)) fun q => cmpL (keyP q) (keyP p)) = nearL t ss p := by
 unfold nearL
 rw [hno]
 exact (nearS_eq (keyP_ok _) (cutL_near rfl (fun _ _ => rfl) (words_sorted t _) (near_words hno))).symm
end Go.AB
namespace Go.Proofs.YtjjklfgpffgnfabGreatDoor
set_option maxRecDepth 10000
open Go.RowKit Go.AB
open Go.AB.Enc (cells)
open Go.PB (Chap TextD PlaceD ReadingD CopyD WayD)
theorem near1_pure (p q : PlaceD) : Pure Tryz.prog 61 [val q, .elem (cells p)] (.v (.int .i64 (cmpL (keyP q) (keyP p)))) := by
 refine pure_of_body Tryz.func61 rfl (fun m => .v) fun G nx => ?_
 simp only [Tryz.ntmps61, List.length_cons, List.length_nil, Nat.reduceAdd, Nat.reduceSub]
 refine aw_lt fun hlt => ?_
 dsimp only at hlt
 refine yS fun _ K1 => ?_
 refine yR ?_
 try dsimp only [St.put]
 refine yB rfl rfl rfl ?_
 refine yA rfl rfl ?_
 refine yN ?_
 dsimp only [St.put]
 refine K1 _ ?_
 refine yS fun _ K2 => ?_
 refine yR ?_
 refine yF rfl rfl rfl rfl ?_
 refine yL rfl rfl rfl ?_
 refine yF rfl rfl rfl rfl ?_
 refine yL rfl rfl rfl ?_
 refine yF rfl rfl rfl rfl ?_
 refine yL rfl rfl rfl ?_
 refine aops_n rfl (n_buildA rfl rfl) ?_
 try dsimp only [St.put]
 refine aops_e rfl (e_allocC rfl ?_)
 try dsimp only [St.put]
 refine aops_e rfl (e_store_all rfl rfl rfl zG rfl rfl (by rfl) ?_)
 refine yN ?_
 dsimp only [St.put]
 refine K2 _ ?_
 refine aw_commitD (i := 4) rfl zG (by first | exact List.cons_ne_nil _ _ | (simp; done) | (simp [putAt]; done)) ?_
 dsimp only
 refine yS fun _ K3 => ?_
 refine aw_draw [(0, none), (1, none), (2, none), (3, none)] (fun i => [2].contains i) (fun i => [2].contains i) (fun i => [0, 1, 3].contains i) [] (by kernel_rfl) (by kernel_rfl) ?_
 (refine acan1_n rfl rfl rfl rfl (n_slice_arr (sz := 1) (m := 3) (e := 3) (rows := (keyP q).map cells) rfl rfl rfl rfl (fun r hr => by obtain ⟨y, _, rfl⟩ := List.mem_map.1 hr; rfl) (by decide) (by decide)) ?_)
 (refine acan1_n rfl rfl rfl rfl (n_slice_arr (sz := 1) (m := 3) (e := 3) (rows := (keyP p).map cells) rfl rfl rfl rfl (fun r hr => by obtain ⟨y, _, rfl⟩ := List.mem_map.1 hr; rfl) (by decide) (by decide)) ?_)
 refine acan1_two ?_
 try dsimp only [St.put]
 refine acan2_late rfl rfl rfl rfl (e_call_pure rfl rfl rfl (cmpSlices_pure (keyP q) (keyP p) (by show 3 ≤ 1000; decide) (by show 3 ≤ 1000; decide)) ?_)
 refine acan2_n rfl rfl rfl rfl (n_as rfl (by constructor)) ?_
 refine acan2_nil ?_
 dsimp only [St.put]
 refine K3 _ ?_
 refine aw_ret ?_
 refine ends_1 rfl (by constructor) zN zS ?_
 rfl
theorem chartNear_ok (t : TextD) (e : EditionD) (p : PlaceD) (hl : e.ss.length ≤ 20) (h : soundEr t e = 0) (hp : placeB t p = true) :
  PureF chkF Tryz.prog 25 [textC t, val e, val p] (.tup [lst (nearV t e p), .v (.int .i64 (nearEr t e p))]) := by
 refine pureF_of_body Tryz.func25 rfl (fun m => .tup (low_cons (lst_low _ _) (low_cons .v low_nil))) fun G nx hF => ?_
 simp only [Tryz.ntmps25, List.length_cons, List.length_nil, Nat.reduceAdd, Nat.reduceSub]
 refine aw_lt fun hlt => ?_
 dsimp only at hlt
 have hnx := hlt 0 _ hF
 have hS := soundEr_sound h
 obtain ⟨l, hw, hw1, hw2⟩ := placeB_true.1 hp
 have hwl := words_bd hS.tx hw
 have hWl := wordsP_len hS.tx (asOf e.ss) (linesT t)
 have hLl := linesT_len hS.tx
 refine yS fun _ K1 => ?_
 refine yR ?_
 try dsimp only [St.put]
 refine yB rfl rfl rfl ?_
 try dsimp only [St.put]
 refine yB rfl rfl rfl ?_
 try dsimp only [St.put]
 refine yB rfl rfl rfl ?_
 refine yA rfl rfl ?_
 refine yA rfl rfl ?_
 refine yN ?_
 dsimp only [St.put]
 refine K1 _ ?_
 refine yS fun _ K2 => ?_
 refine yR ?_
 try dsimp only [St.put]
 refine aops_s rfl (s_load_agg' rfl rfl rfl) ?_
 refine yE rfl rfl rfl ?_
 refine yE rfl rfl rfl ?_
 try dsimp only [St.put]
 refine aops_e rfl (e_call_namedX rfl rfl rfl (chartPlaced_ok t e p hl h hp _ _ zG) (fun y => ?_))
 refine yM rfl rfl ?_
 refine yX rfl rfl rfl rfl ?_
 refine yX rfl rfl rfl rfl ?_
 refine yA rfl rfl ?_
 refine yA rfl rfl ?_
 refine yN ?_
 dsimp only [St.put]
 refine K2 _ ?_
 refine yS fun _ K3 => ?_
 refine yS fun _ K4 => ?_
 refine yR ?_
 refine yM rfl rfl ?_
 refine aops_n rfl (n_bool (c := false) (n_neq rfl rfl rfl) (by rfl)) ?_
 refine yN ?_
 dsimp only [St.put]
 refine K4 _ ?_
 refine aw_cond rfl (fun h => by cases h) (fun _ => ?_)
 refine aw_skip ?_
 refine K3 _ ?_
 refine yS fun _ K5 => ?_
 refine yS fun _ K6 => ?_
 refine yR ?_
 refine yM rfl rfl ?_
 refine yE rfl rfl rfl ?_
 try dsimp only [St.put]
 refine aops_e rfl (e_call_one rfl rfl rfl (bookRefer_pc t e _ _ _ (asOf e.ss) p (by omega) _ _ (by dsimp only [St.put]; omega) (by dsimp only [St.put]; omega) zG) ?_)
 refine yM rfl rfl ?_
 refine yX rfl rfl rfl rfl ?_
 refine yX rfl rfl rfl rfl ?_
 try dsimp only [St.put]
 refine aops_e rfl (e_allocC rfl ?_)
 try dsimp only [St.put]
 refine aops_e rfl (e_store_all rfl rfl rfl zG rfl rfl (by rfl) ?_)
 refine yA rfl rfl ?_
 refine yN ?_
 dsimp only [St.put]
 refine K6 _ ?_
 refine yS fun _ K7 => ?_
 refine yR ?_
 refine yM rfl rfl ?_
 refine yN ?_
 dsimp only [St.put]
 refine K7 _ ?_
 refine aw_cond rfl (fun hc => ?_) (fun hc => ?_)
 ·have hf : (asOf e.ss (p.ch, p.ln)).isSome = true := by simpa using hc
  have hL : nearL t e.ss p = [p] := by simp [nearL, hf]
  have hE : nearEr t e p = 0 := by simp [nearEr, h, hp, hL]
  have hV : nearV t e p = [p] := by simp [nearV, hE, hL]
  refine yS fun _ K8 => ?_
  refine yR ?_
  refine yE rfl rfl rfl ?_
  try dsimp only [St.put]
  refine aops_e rfl (e_buildSlice rfl rfl rfl (by decide) (by decide) zR (by decide) ?_)
  refine yA rfl rfl ?_
  refine yA rfl rfl ?_
  refine yN ?_
  dsimp only [St.put]
  refine K8 _ ?_
  refine aw_ret ?_
  refine ends_v2 rfl (rv_tmp (by constructor)) (rv_tmp (by constructor)) zN zS ?_ ?_
  ·rw [hV]
   exact zW
  exact Wk.of_eq (vi hE.symm)
 have hf : asOf e.ss (p.ch, p.ln) = none := by simpa using hc
 have hL := near_beside (t := t) hf
 refine aw_skip ?_
 refine K5 _ ?_
 refine yS fun _ K9 => ?_
 refine yR ?_
 refine yF rfl rfl rfl rfl ?_
 refine yL rfl rfl rfl ?_
 refine yF rfl rfl rfl rfl ?_
 refine yL rfl rfl rfl ?_
 refine yF rfl rfl rfl rfl ?_
 refine yL rfl rfl rfl ?_
 refine aops_n rfl (n_buildA rfl rfl) ?_
 try dsimp only [St.put]
 refine aops_e rfl (e_allocC rfl ?_)
 try dsimp only [St.put]
 refine aops_e rfl (e_store_all rfl rfl rfl zG rfl rfl (by rfl) ?_)
 refine yN ?_
 dsimp only [St.put]
 refine K9 _ ?_
 refine aw_commitD (i := 12) rfl zG (by first | exact List.cons_ne_nil _ _ | (simp; done) | (simp [putAt]; done)) ?_
 dsimp only
 refine yS fun _ K10 => ?_
 refine yR ?_
 refine yM rfl rfl ?_
 try dsimp only [St.put]
 refine aops_e rfl (e_call_one rfl rfl rfl (words_lst t e (asOf e.ss) _ _ _ hS.tx _ _ (by dsimp only [St.put]; omega) (by dsimp only [St.put]; omega) zG) ?_)
 refine aops_n rfl (n_makeFunc rfl rfl) ?_
 try dsimp only [St.put]
 refine aops_e rfl (e_call_one rfl rfl rfl (beside_pc (wordsF t (asOf e.ss)) (fun q => cmpL (keyP q) (keyP p)) 61 [.elem (cells p)] _ _ (by unfold wordsF; omega) (low_cons (cells_low _ _) low_nil) (by simp [C.one]) fun q _ => near1_pure p q _ _) ?_)
 refine yX rfl rfl rfl rfl ?_
 refine yX rfl rfl rfl rfl ?_
 refine yA rfl rfl ?_
 refine yA rfl rfl ?_
 refine yN ?_
 dsimp only [St.put]
 rw [hL]
 have hE : nearEr t e p = besEr (wordsF t (asOf e.ss)) (cutL (wordsF t (asOf e.ss)) fun q => cmpL (keyP q) (keyP p)) := by simp [nearEr, h, hp, besEr, hL]
 have hV : nearV t e p = nearL t e.ss p := by
  by_cases h0 : nearL t e.ss p = []
  ·simp [nearV, h0]
  have : nearEr t e p = 0 := by simp [nearEr, h, hp, h0]
  simp [nearV, this]
 refine K10 _ ?_
 refine aw_ret ?_
 refine ends_2 rfl (by constructor) (by constructor) zN zS ?_ ?_
 ·rw [hV]
  rfl
 exact vi hE.symm
theorem chartNear_no (t : TextD) (e : EditionD) (p : PlaceD) (er : Int) (he0 : er ≠ 0) (hcall : PureF chkF Tryz.prog 57 [textC t, val e, val p] (.tup [.v (.pointer none), .v (.int .i64 er)])) :
  PureF chkF Tryz.prog 25 [textC t, val e, val p] (.tup [lst ([] : List PlaceD), .v (.int .i64 er)]) := by
 refine pureF_of_body Tryz.func25 rfl (fun m => .tup (low_cons (lst_low _ _) (low_cons .v low_nil))) fun G nx hF => ?_
 simp only [Tryz.ntmps25, List.length_cons, List.length_nil, Nat.reduceAdd, Nat.reduceSub]
 refine aw_lt fun hlt => ?_
 dsimp only at hlt
 have hnx := hlt 0 _ hF
 refine yS fun _ K1 => ?_
 refine yR ?_
 try dsimp only [St.put]
 refine yB rfl rfl rfl ?_
 try dsimp only [St.put]
 refine yB rfl rfl rfl ?_
 try dsimp only [St.put]
 refine yB rfl rfl rfl ?_
 refine yA rfl rfl ?_
 refine yA rfl rfl ?_
 refine yN ?_
 dsimp only [St.put]
 refine K1 _ ?_
 refine yS fun _ K2 => ?_
 refine yR ?_
 try dsimp only [St.put]
 refine aops_s rfl (s_load_agg' rfl rfl rfl) ?_
 refine yE rfl rfl rfl ?_
 refine yE rfl rfl rfl ?_
 try dsimp only [St.put]
 refine aops_e rfl (e_call_f rfl rfl rfl (hcall) zG ?_)
 refine yM rfl rfl ?_
 refine yX rfl rfl rfl rfl ?_
 refine yX rfl rfl rfl rfl ?_
 refine yA rfl rfl ?_
 refine yA rfl rfl ?_
 refine yN ?_
 dsimp only [St.put]
 refine K2 _ ?_
 refine yS fun _ K3 => ?_
 refine yS fun _ K4 => ?_
 refine yR ?_
 refine yM rfl rfl ?_
 refine aops_n rfl (n_bool (c := true) (n_neq rfl rfl rfl) (not_dec_t he0)) ?_
 refine yN ?_
 dsimp only [St.put]
 refine K4 _ ?_
 refine aw_cond rfl (fun _ => ?_) (fun h => by cases h)
 refine yS fun _ K5 => ?_
 refine yR ?_
 refine yM rfl rfl ?_
 refine yA rfl rfl ?_
 refine yA rfl rfl ?_
 refine yN ?_
 dsimp only [St.put]
 refine K5 _ ?_
 refine aw_ret ?_
 refine ends_v2 rfl (rv_tmp (by constructor)) (rv_tmp (by constructor)) zN zS ?_ ?_
 ·exact zW
 exact zW
theorem chartNear_pureF (t : TextD) (e : EditionD) (p : PlaceD) (hl : e.ss.length ≤ 20) :
  PureF chkF Tryz.prog 25 [textC t, val e, val p] (.tup [lst (nearV t e p), .v (.int .i64 (nearEr t e p))]) := by
 by_cases h : soundEr t e = 0
 ·cases hp : placeB t p with
  | true => exact chartNear_ok t e p hl h hp
  | false =>
   have hE : nearEr t e p = 12 := by simp [nearEr, h, hp]
   have hV : nearV t e p = [] := by simp [nearV, hE]
   rw [hV, hE]
   exact chartNear_no t e p 12 (by decide) (chartPlaced_no2 t e p hl h hp)
 have hE : nearEr t e p = soundEr t e := by simp [nearEr, h]
 have hV : nearV t e p = [] := by simp [nearV, hE, h]
 rw [hV, hE]
 exact chartNear_no t e p _ h (chartPlaced_no1 t e p hl h)
end Go.Proofs.YtjjklfgpffgnfabGreatDoor
