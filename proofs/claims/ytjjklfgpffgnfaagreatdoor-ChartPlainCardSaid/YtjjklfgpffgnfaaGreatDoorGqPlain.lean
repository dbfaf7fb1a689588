/-
 The law ChartPlain: its walk.
-/
import Derived.Test.YtjjklfgpffgnfaaGreatDoorGpFewest
import Derived.Test.YtjjklfgpffgnfaaGreatDoorAbTwin
namespace Go.AB
open Go Go.RowKit
theorem rem_rem {a b n : Nat} : ((((a : Int) + (b : Int) % (n : Int)) % (n : Int))) = (((a + b % n) % n : Nat) : Int) := by
 rw [Int.natCast_emod, Int.natCast_add, Int.natCast_emod]
end Go.AB
namespace Go.Proofs.YtjjklfgpffgnfaaGreatDoor
set_option maxRecDepth 10000
open Go.RowKit Go.AB
open Go.AB.Enc (cells)
open Go.PB (Chap TextD PlaceD ReadingD CopyD WayD)
theorem Twin2_own (e : EditionD) (hne : e.ss ≠ []) (hg : e.ss.length ≤ 20) (G : Nat → Option GObj) (nx : Nat) : PC Tryz.prog 29 [val e] G nx fun r' G' nx' => r' = .agg [.v (.int .i64 e.id), .own (nx + 1 + 1) 0 e.ss.length] ∧ G' = setG G (nx + 1 + 1) (.arr 0 0 48 5 e.ss.length (flatC e.ss)) ∧ nx' = nx + 1 + 1 + 1 := by
 refine pc_named_of_body (setG G (nx + 1 + 1) (.arr 0 0 48 5 e.ss.length (flatC e.ss))) (nx + 1 + 1 + 1) Tryz.func29 rfl (.agg (low_cons .v (low_cons (.own (Nat.lt_succ_self _)) low_nil))) zN (fun hlt => zH) ?_
 simp only [Tryz.ntmps29, List.length_cons, List.length_nil, Nat.reduceAdd, Nat.reduceSub]
 refine aw_lt fun hlt => ?_
 dsimp only at hlt
 refine aw_seq_k fun K1 hK1 => ?_
 refine aw_region ?_
 try dsimp only [St.put]
 refine aops_e rfl (e_box_named rfl rfl ?_)
 try dsimp only [St.put]
 refine aops_e rfl (e_allocC rfl ?_)
 refine aops_nil ?_
 dsimp only [St.put]
 refine hK1 _ ?_
 refine aw_seq_k fun K2 hK2 => ?_
 refine aw_region ?_
 try dsimp only [St.put]
 refine aops_e rfl (e_buildSlice0 rfl ?_)
 refine aops_n rfl (n_fieldAddr_box rfl rfl) ?_
 try dsimp only [St.put]
 refine aops_s rfl (s_load_box rfl rfl zG trivial (by first | rfl | assumption)) ?_
 try dsimp only [St.put]
 refine aops_e rfl (e_append_new e.ss rfl rfl (.inl rfl) rfl (by decide) hne zA zA ?_)
 refine aops_n rfl (n_fieldAddr_box rfl rfl) ?_
 try dsimp only [St.put]
 refine aops_e rfl (e_store_one rfl rfl rfl zG (by constructor) rfl (by first | (simp; done) | (simp; omega) | exact Nat.lt_of_lt_of_eq (by decide) (Enc.len _).symm) ?_)
 refine aops_nil ?_
 dsimp only [St.put]
 refine hK2 _ ?_
 refine aw_seq_k fun K3 hK3 => ?_
 refine aw_region ?_
 try dsimp only [St.put]
 refine aops_s rfl (s_load_box_all rfl rfl zG trivial (by rfl)) ?_
 try dsimp only [St.put]
 refine aops_e rfl (e_store_all rfl rfl rfl zG rfl rfl (by rfl) ?_)
 refine aops_nil ?_
 dsimp only [St.put]
 refine hK3 _ ?_
 refine aw_ret ?_
 refine ends_v1 rfl (rv_box rfl zG (by rfl) (by first | exact List.cons_ne_nil _ _ | (simp; done) | (simp [putAt]; done)) rfl) zN zX ?_
 exact zW
set_option maxHeartbeats 8000000 in
theorem plainLaw_pureF (t : TextD) (e : EditionD) (tn a b c : Int) : PureF chkF Tryz.prog 9 [textC t, val e, .v (.int .u8 tn), .v (.int .u8 a), .v (.int .u8 b), .v (.int .u8 c)] (.v (.bool true)) := by
 refine pureF_of_body Tryz.func9 rfl (fun m => .v) fun G nx hF => ?_
 simp only [Tryz.ntmps9, List.length_cons, List.length_nil, Nat.reduceAdd, Nat.reduceSub]
 refine aw_lt fun hlt => ?_
 dsimp only at hlt
 have hnx := hlt 0 _ hF
 refine aw_fit 2 (fun hft => ?_)
 refine aw_fit 3 (fun hfa => ?_)
 refine aw_fit 4 (fun hfb => ?_)
 refine aw_fit 5 (fun hfc => ?_)
 replace hft := u8_fit hft
 replace hfa := u8_fit hfa
 replace hfb := u8_fit hfb
 replace hfc := u8_fit hfc
 refine aw_seq_k fun K1 hK1 => ?_
 refine aw_region ?_
 try dsimp only [St.put]
 refine aops_e rfl (e_box rfl rfl (by simp) ?_)
 try dsimp only [St.put]
 refine aops_e rfl (e_box rfl rfl (by simp) ?_)
 refine aops_n rfl (n_as rfl (by constructor)) ?_
 refine aops_nil ?_
 dsimp only [St.put]
 refine hK1 _ ?_
 refine aw_seq_k fun K2 hK2 => ?_
 refine aw_region ?_
 try dsimp only [St.put]
 refine aops_e rfl (e_call_f rfl rfl rfl (alive_pureF) zG ?_)
 refine aops_n rfl (n_as rfl (by constructor)) ?_
 refine aops_nil ?_
 dsimp only [St.put]
 refine hK2 _ ?_
 refine aw_seq_k fun K3 hK3 => ?_
 refine aw_seq_k fun K4 hK4 => ?_
 refine aw_region ?_
 try dsimp only [St.put]
 refine aops_s rfl (s_load_agg' rfl rfl rfl) ?_
 try dsimp only [St.put]
 refine aops_s rfl (s_load_agg' rfl rfl (Enc.len _)) ?_
 try dsimp only [St.put]
 refine aops_e rfl (e_call_pure rfl rfl rfl (lawReady_pure t e) ?_)
 refine aops_split (fun hs => ?_) (fun hs => ?_)
 ·have hrd : readyB t e = true := hs
  obtain ⟨⟨hle, hgt⟩, h0⟩ := readyB_true.1 hs
  have hS := soundEr_sound h0
  refine aops_n rfl (n_not rfl rfl) ?_
  refine aops_n rfl (n_mv rfl (by constructor)) ?_
  refine aops_n rfl (n_mv rfl (by constructor)) ?_
  refine aops_n rfl (n_not rfl rfl) ?_
  refine aops_n rfl (n_pf rfl rfl (by constructor)) ?_
  refine aops_nil ?_
  dsimp only [St.put]
  refine hK4 _ ?_
  refine aw_cond rfl (fun h => by cases h) (fun _ => ?_)
  refine aw_skip ?_
  refine hK3 _ ?_
  refine aw_seq_k fun K5 hK5 => ?_
  refine aw_region ?_
  try dsimp only [St.put]
  refine aops_s rfl (s_load_agg' rfl rfl rfl) ?_
  try dsimp only [St.put]
  refine aops_s rfl (s_load_agg' rfl rfl (Enc.len _)) ?_
  try dsimp only [St.put]
  refine aops_e rfl (e_call_f rfl rfl rfl (chartPlain_pureF t e hle) zG ?_)
  refine aops_n rfl (n_mv rfl (by constructor)) ?_
  refine aops_n rfl (n_extract rfl rfl rfl) ?_
  refine aops_n rfl (n_extract rfl rfl rfl) ?_
  try dsimp only [St.put]
  refine aops_e rfl (e_allocC rfl ?_)
  try dsimp only [St.put]
  refine aops_e rfl (e_store_all rfl rfl rfl zG rfl rfl (by rfl) ?_)
  refine aops_n rfl (n_as rfl (by constructor)) ?_
  refine aops_nil ?_
  dsimp only [St.put]
  obtain ⟨P, hP⟩ : ∃ P, plainS (asOf e.ss) (linesT t) = P := ⟨_, rfl⟩
  have hF4 := plain_few h0
  rw [hP] at hF4
  have hPl := hF4.len
  have hPv := hF4.val
  rw [hF4.val, h0]
  have hry := readyB_of hrd hF4.so
  have hy0 := (readyB_true.1 hry).2
  have hly := (readyB_true.1 hry).1.1
  refine hK5 _ ?_
  refine aw_commitD (i := 14) rfl zG (by first | exact List.cons_ne_nil _ _ | (simp; done) | (simp [putAt]; done)) ?_
  dsimp only
  refine aw_seq_k fun K6 hK6 => ?_
  refine aw_region ?_
  try dsimp only [St.put]
  refine aops_s rfl (s_load_agg' rfl rfl rfl) ?_
  refine aops_n rfl (n_mv rfl (by constructor)) ?_
  refine aops_n rfl (n_mv rfl (by constructor)) ?_
  refine aops_n rfl (n_mv rfl (by constructor)) ?_
  try dsimp only [St.put]
  refine aops_e rfl (e_call_pure rfl rfl rfl (lawPick_pure t a b c hS.tx hfa hfb hfc) ?_)
  try dsimp only [St.put]
  refine aops_e rfl (e_allocC rfl ?_)
  try dsimp only [St.put]
  refine aops_e rfl (e_store_all rfl rfl rfl zG rfl rfl (by rfl) ?_)
  refine aops_nil ?_
  dsimp only [St.put]
  obtain ⟨p, hpp⟩ : ∃ p, pickP t a b c = p := ⟨_, rfl⟩
  have hp : placeB t p = true := hpp ▸ pick_place hS.tx hfa.1 hfb.1 hfc.1
  rw [hpp]
  obtain ⟨hrE, hrV⟩ := refer_same (p := p) h0 hy0 hF4.mp
  refine hK6 _ ?_
  refine aw_commitD (i := 16) rfl zG (by first | exact List.cons_ne_nil _ _ | (simp; done) | (simp [putAt]; done)) ?_
  dsimp only
  refine aw_seq_k fun K7 hK7 => ?_
  refine aw_region ?_
  try dsimp only [St.put]
  refine aops_s rfl (s_load_agg' rfl rfl rfl) ?_
  try dsimp only [St.put]
  refine aops_s rfl (s_load_agg' rfl rfl (Enc.len _)) ?_
  try dsimp only [St.put]
  refine aops_s rfl (s_load_agg' rfl rfl (Enc.len _)) ?_
  try dsimp only [St.put]
  refine aops_e rfl (e_call_f rfl rfl rfl (chartRefer_pureF t e p hle) zG ?_)
  refine aops_n rfl (n_mv rfl (by constructor)) ?_
  refine aops_n rfl (n_extract rfl rfl rfl) ?_
  refine aops_n rfl (n_extract rfl rfl rfl) ?_
  try dsimp only [St.put]
  refine aops_e rfl (e_allocC rfl ?_)
  try dsimp only [St.put]
  refine aops_e rfl (e_store_all rfl rfl rfl zG rfl rfl (by rfl) ?_)
  refine aops_n rfl (n_as rfl (by constructor)) ?_
  refine aops_nil ?_
  dsimp only [St.put]
  refine hK7 _ ?_
  refine aw_commitD (i := 17) rfl zG (by first | exact List.cons_ne_nil _ _ | (simp; done) | (simp [putAt]; done)) ?_
  dsimp only
  refine aw_seq_k fun K8 hK8 => ?_
  refine aw_region ?_
  try dsimp only [St.put]
  refine aops_s rfl (s_load_agg' rfl rfl rfl) ?_
  try dsimp only [St.put]
  refine aops_s rfl (s_load_agg' rfl rfl (Enc.len _)) ?_
  try dsimp only [St.put]
  refine aops_s rfl (s_load_agg' rfl rfl (Enc.len _)) ?_
  try dsimp only [St.put]
  refine aops_e rfl (e_call_f rfl rfl rfl (chartRefer_pureF t ⟨e.id, P⟩ p hly) zG ?_)
  refine aops_n rfl (n_mv rfl (by constructor)) ?_
  refine aops_n rfl (n_extract rfl rfl rfl) ?_
  refine aops_n rfl (n_extract rfl rfl rfl) ?_
  try dsimp only [St.put]
  refine aops_e rfl (e_allocC rfl ?_)
  try dsimp only [St.put]
  refine aops_e rfl (e_store_all rfl rfl rfl zG rfl rfl (by rfl) ?_)
  refine aops_n rfl (n_as rfl (by constructor)) ?_
  refine aops_nil ?_
  dsimp only [St.put]
  rw [hrE, hrV]
  refine hK8 _ ?_
  refine aw_commitD (i := 19) rfl zG (by first | exact List.cons_ne_nil _ _ | (simp; done) | (simp [putAt]; done)) ?_
  dsimp only
  refine aw_seq_k fun K9 hK9 => ?_
  refine aw_seq_k fun K10 hK10 => ?_
  refine aw_region ?_
  refine aops_n rfl (n_mv rfl (by constructor)) ?_
  refine aops_n rfl (n_bool (n_neq rfl rfl rfl) (not_dec_f (by omega))) ?_
  refine aops_n rfl (n_mv rfl (by constructor)) ?_
  try dsimp only [St.put]
  refine aops_s rfl (s_load_agg' rfl rfl rfl) ?_
  try dsimp only [St.put]
  refine aops_s rfl (s_load_agg' rfl rfl (Enc.len _)) ?_
  try dsimp only [St.put]
  refine aops_e rfl (e_call_pure rfl rfl rfl (lawReady_true hry) ?_)
  refine aops_n rfl (n_not rfl rfl) ?_
  refine aops_n rfl (n_pf rfl rfl (by constructor)) ?_
  refine aops_n rfl (n_mv rfl (by constructor)) ?_
  refine aops_n rfl (n_fieldAddr' rfl rfl rfl) ?_
  try dsimp only [St.put]
  refine aops_s rfl (s_load rfl rfl) ?_
  refine aops_n rfl (n_fieldAddr' rfl rfl rfl) ?_
  try dsimp only [St.put]
  refine aops_s rfl (s_load rfl rfl) ?_
  refine aops_n rfl (n_bool (n_neq rfl rfl rfl) (not_dec_f (by omega))) ?_
  refine aops_n rfl (n_pf rfl rfl (by constructor)) ?_
  refine aops_n rfl (n_mv rfl (by constructor)) ?_
  refine aops_n rfl (n_fieldAddr' rfl rfl rfl) ?_
  try dsimp only [St.put]
  refine aops_s rfl (s_load rfl rfl) ?_
  refine aops_n rfl (n_len' rfl rfl (List.length_map _)) ?_
  refine aops_n rfl (n_fieldAddr' rfl rfl rfl) ?_
  try dsimp only [St.put]
  refine aops_s rfl (s_load rfl rfl) ?_
  refine aops_n rfl (n_len' rfl rfl (List.length_map _)) ?_
  refine aops_n rfl (n_bool (n_gtr rfl rfl rfl) (decide_eq_false (by omega))) ?_
  refine aops_n rfl (n_pf rfl rfl (by constructor)) ?_
  refine aops_n rfl (n_mv rfl (by constructor)) ?_
  try dsimp only [St.put]
  refine aops_s rfl (s_load_agg' rfl rfl (Enc.len _)) ?_
  try dsimp only [St.put]
  refine aops_s rfl (s_load_agg' rfl rfl (Enc.len _)) ?_
  refine aops_n rfl (n_bool (n_agg_neq rfl rfl rfl) (not_dec_f (by first | assumption | with_reducible rfl))) ?_
  refine aops_n rfl (n_pf rfl rfl (by constructor)) ?_
  refine aops_n rfl (n_mv rfl (by constructor)) ?_
  refine aops_n rfl (n_mv rfl (by constructor)) ?_
  refine aops_n rfl (n_mv rfl (by constructor)) ?_
  refine aops_n rfl (n_bool (n_neq rfl rfl rfl) (not_dec_f (by omega))) ?_
  refine aops_n rfl (n_pf rfl rfl (by constructor)) ?_
  refine aops_nil ?_
  dsimp only [St.put]
  refine hK10 _ ?_
  refine aw_cond rfl (fun h => by cases h) (fun _ => ?_)
  refine aw_skip ?_
  refine hK9 _ ?_
  refine aw_seq_k fun K11 hK11 => ?_
  refine aw_seq_k fun K12 hK12 => ?_
  refine aw_region ?_
  refine aops_n rfl (n_as rfl (by constructor)) ?_
  refine aops_nil ?_
  dsimp only [St.put]
  refine hK12 _ ?_
  refine aw_block ?_
  refine aw_wipe 23 ?_
  simp only [firsts, getA, Nat.reduceAdd, List.getD_cons_zero, List.getD_cons_succ, List.getD_nil, natBeq, Nat.reduceBEq, cond_true, cond_false]
  refine aw_forget (G) zX ?_
  dsimp only
  refine aw_loopD (X := Nat) (fun k => 1 ≤ k) (fun k => P.length - k) (fun k => [(21, .v (.int .i64 (k : Int))), (22, .any)]) (fun k G' => G') 1 rfl ?_ ?_ (fun _ _ h => h) ?_ ?_ ?_
  ·exact Nat.le_refl _
  ·exact zF
  ·rintro k hI
   exact zL
  ·exact fun _ _ _ _ h => .inl h
  rintro k hI
  dsimp only at hI ⊢
  refine aw_seq_k fun K13 hK13 => ?_
  refine aw_seq_k fun K14 hK14 => ?_
  refine aw_region ?_
  refine aops_n rfl (n_mv rfl (by constructor)) ?_
  refine aops_n rfl (n_fieldAddr' rfl rfl rfl) ?_
  try dsimp only [St.put]
  refine aops_s rfl (s_load rfl rfl) ?_
  refine aops_n rfl (n_len' rfl rfl (List.length_map _)) ?_
  refine aops_n rfl (n_lss rfl rfl rfl) ?_
  refine aops_nil ?_
  dsimp only [St.put]
  refine hK14 _ ?_
  refine aw_cond rfl (fun hc => ?_) (fun hc => ?_)
  ·replace hc := of_decide_eq_true hc
   obtain ⟨s, hs1⟩ : ∃ x, P[k - 1]? = some x := some_of_lt (by omega)
   obtain ⟨n, hn1⟩ : ∃ x, P[k]? = some x := some_of_lt (by omega)
   obtain ⟨o1, o2, o3, o4, o5, o6⟩ := id (hF4.so.ok s (mem_of_get hs1))
   have hgp := ord_lt hF4.ord hs1 hn1 (by omega)
   have hjn := hF4.two (k - 1) s n hs1 (by rw [show k - 1 + 1 = k by omega]; exact hn1)
   unfold gapS at hgp
   unfold joinS at hjn
   refine aw_skip ?_
   refine hK13 _ ?_
   refine aw_seq_k fun K15 hK15 => ?_
   refine aw_block ?_
   refine aw_seq_k fun K16 hK16 => ?_
   refine aw_draw [(0, none), (1, none), (2, none), (3, none), (4, none), (5, none), (6, none), (7, none), (8, none), (9, none), (10, none), (11, some 12), (13, none), (14, none)] (fun i => [14].contains i) (fun i => [11, 12, 13, 14].contains i) (fun i => [0, 2, 3, 4, 6, 8, 9].contains i) [] (by kernel_rfl) (by kernel_rfl) ?_
   refine acan1_n rfl rfl rfl rfl (n_fieldAddr' rfl rfl rfl) ?_
   try dsimp only [St.put]
   refine acan1_s rfl rfl rfl rfl (s_load rfl rfl) ?_
   refine acan1_n rfl rfl rfl rfl (n_mv rfl (by constructor)) ?_
   refine acan1_n rfl rfl rfl rfl (n_sub rfl rfl rfl (by omega)) ?_
   try dsimp only [St.put]
   refine acan1_n rfl rfl rfl rfl ((n_indexAddr (k := k - 1) rfl rfl rfl (by omega) (map_get hs1) (Enc.len _))) ?_
   try dsimp only [St.put]
   refine acan1_s rfl rfl rfl rfl (s_load_agg' rfl rfl (Enc.len _)) ?_
   refine acan1_n rfl rfl rfl rfl (n_fieldAddr' rfl rfl rfl) ?_
   try dsimp only [St.put]
   refine acan1_s rfl rfl rfl rfl (s_load rfl rfl) ?_
   refine acan1_n rfl rfl rfl rfl (n_mv rfl (by constructor)) ?_
   try dsimp only [St.put]
   refine acan1_n rfl rfl rfl rfl ((n_indexAddr (k := k) rfl rfl rfl rfl (map_get hn1) (Enc.len _))) ?_
   try dsimp only [St.put]
   refine acan1_s rfl rfl rfl rfl (s_load_agg' rfl rfl (Enc.len _)) ?_
   refine acan1_two ?_
   refine acan2_allocs rfl rfl rfl rfl rfl rfl rfl rfl (by decide) (by simp) ?_
   try dsimp only [St.put]
   refine acan2_e rfl rfl rfl (e_store_all rfl rfl rfl zG rfl rfl (by rfl) ⟨zD, ?_⟩)
   try dsimp only [St.put]
   refine acan2_late rfl rfl rfl rfl (e_store_all rfl rfl rfl zG rfl rfl (by rfl) ?_)
   refine acan2_nil ?_
   dsimp only [St.put]
   refine hK16 _ ?_
   refine aw_commitD (i := 22) rfl zG (by first | exact List.cons_ne_nil _ _ | (simp; done) | (simp [putAt]; done)) ?_
   refine aw_commitD (i := 23) rfl zG (by first | exact List.cons_ne_nil _ _ | (simp; done) | (simp [putAt]; done)) ?_
   dsimp only
   refine aw_wipe 24 ?_
   simp only [firsts, getA, Nat.reduceAdd, List.getD_cons_zero, List.getD_cons_succ, List.getD_nil, natBeq, Nat.reduceBEq, cond_true, cond_false]
   refine aw_forget (G) zX ?_
   dsimp only
   refine aw_cutD (X := Unit) (fun _ => True) (fun _ => [(167, .v (.bool false))]) (fun _ G' => G') rfl ?_ (fun _ _ _ _ h => .inl h) ?_ ?_
   ·rintro _ hI
    exact zL
   ·refine aw_region ?_
    refine aops_n rfl (n_fieldAddr' rfl rfl rfl) ?_
    try dsimp only [St.put]
    refine aops_s rfl (s_load rfl rfl) ?_
    refine aops_n rfl (n_fieldAddr' rfl rfl rfl) ?_
    try dsimp only [St.put]
    refine aops_s rfl (s_load rfl rfl) ?_
    refine aops_n rfl (n_bool (n_lss rfl rfl rfl) (decide_eq_false (by omega))) ?_
    refine aops_n rfl (n_mv rfl (by constructor)) ?_
    refine aops_n rfl (n_fieldAddr' rfl rfl rfl) ?_
    try dsimp only [St.put]
    refine aops_s rfl (s_load rfl rfl) ?_
    refine aops_n rfl (n_fieldAddr' rfl rfl rfl) ?_
    try dsimp only [St.put]
    refine aops_s rfl (s_load rfl rfl) ?_
    refine aops_n rfl (n_eql rfl rfl rfl) ?_
    refine aops_split (fun hs => ?_) (fun hs => ?_)
    ·have q1 := of_decide_eq_true hs
     refine aops_n rfl (n_mv rfl (by constructor)) ?_
     refine aops_n rfl (n_fieldAddr' rfl rfl rfl) ?_
     try dsimp only [St.put]
     refine aops_s rfl (s_load rfl rfl) ?_
     refine aops_n rfl (n_fieldAddr' rfl rfl rfl) ?_
     try dsimp only [St.put]
     refine aops_s rfl (s_load rfl rfl) ?_
     refine aops_n rfl (n_bool (n_lss rfl rfl rfl) (decide_eq_false (by omega))) ?_
     refine aops_n rfl (n_pt rfl rfl (by constructor)) ?_
     refine aops_n rfl (n_pf rfl rfl (by constructor)) ?_
     refine aops_n rfl (n_mv rfl (by constructor)) ?_
     refine aops_n rfl (n_fieldAddr' rfl rfl rfl) ?_
     try dsimp only [St.put]
     refine aops_s rfl (s_load rfl rfl) ?_
     refine aops_n rfl (n_fieldAddr' rfl rfl rfl) ?_
     try dsimp only [St.put]
     refine aops_s rfl (s_load rfl rfl) ?_
     refine aops_n rfl (n_eql rfl rfl rfl) ?_
     refine aops_split (fun hs => ?_) (fun hs => ?_)
     ·have q2 := of_decide_eq_true hs
      refine aops_n rfl (n_mv rfl (by constructor)) ?_
      refine aops_n rfl (n_fieldAddr' rfl rfl rfl) ?_
      try dsimp only [St.put]
      refine aops_s rfl (s_load rfl rfl) ?_
      refine aops_n rfl (n_fieldAddr' rfl rfl rfl) ?_
      try dsimp only [St.put]
      refine aops_s rfl (s_load rfl rfl) ?_
      refine aops_n rfl (n_eql rfl rfl rfl) ?_
      refine aops_split (fun hs => ?_) (fun hs => ?_)
      ·have q3 := of_decide_eq_true hs
       refine aops_n rfl (n_pt rfl rfl (by constructor)) ?_
       refine aops_n rfl (n_mv rfl (by constructor)) ?_
       refine aops_n rfl (n_fieldAddr' rfl rfl rfl) ?_
       try dsimp only [St.put]
       refine aops_s rfl (s_load rfl rfl) ?_
       refine aops_n rfl (n_fieldAddr' rfl rfl rfl) ?_
       try dsimp only [St.put]
       refine aops_s rfl (s_load rfl rfl) ?_
       refine aops_n rfl (n_eql rfl rfl rfl) ?_
       refine aops_split (fun hs => ?_) (fun hs => ?_)
       ·have q4 := of_decide_eq_true hs
        refine aops_n rfl (n_pt rfl rfl (by constructor)) ?_
        refine aops_n rfl (n_mv rfl (by constructor)) ?_
        refine aops_n rfl (n_fieldAddr' rfl rfl rfl) ?_
        try dsimp only [St.put]
        refine aops_s rfl (s_load rfl rfl) ?_
        refine aops_n rfl (n_fieldAddr' rfl rfl rfl) ?_
        try dsimp only [St.put]
        refine aops_s rfl (s_load rfl rfl) ?_
        refine aops_n rfl (n_fieldAddr' rfl rfl rfl) ?_
        try dsimp only [St.put]
        refine aops_s rfl (s_load rfl rfl) ?_
        refine aops_n rfl (n_add rfl rfl rfl (by omega)) ?_
        refine aops_n rfl (n_fieldAddr' rfl rfl rfl) ?_
        try dsimp only [St.put]
        refine aops_s rfl (s_load rfl rfl) ?_
        refine aops_n rfl (n_sub rfl rfl rfl (by omega)) ?_
        refine aops_n rfl (n_bool (n_eql rfl rfl rfl) (decide_eq_false (by omega))) ?_
        refine aops_n rfl (n_pt rfl rfl (by constructor)) ?_
        refine aops_n rfl (n_pf rfl rfl (by constructor)) ?_
        refine aops_nil ?_
        dsimp only [St.put]
        exact ⟨(), trivial, ⟨⟨rfl, rfl⟩, zF, zB, zN, zX⟩⟩
       skip
       refine aops_n rfl (n_pt rfl rfl (by constructor)) ?_
       refine aops_n rfl (n_mv rfl (by constructor)) ?_
       refine aops_skip rfl ?_
       refine aops_skip rfl ?_
       refine aops_skip rfl ?_
       refine aops_skip rfl ?_
       refine aops_skip rfl ?_
       refine aops_skip rfl ?_
       refine aops_skip rfl ?_
       refine aops_skip rfl ?_
       refine aops_skip rfl ?_
       refine aops_skip rfl ?_
       refine aops_skip rfl ?_
       refine aops_n rfl (n_pf rfl rfl (by constructor)) ?_
       refine aops_n rfl (n_pf rfl rfl (by constructor)) ?_
       refine aops_nil ?_
       dsimp only [St.put]
       exact ⟨(), trivial, ⟨⟨rfl, rfl⟩, zF, zB, zN, zX⟩⟩
      skip
      refine aops_n rfl (n_pt rfl rfl (by constructor)) ?_
      refine aops_n rfl (n_mv rfl (by constructor)) ?_
      refine aops_skip rfl ?_
      refine aops_skip rfl ?_
      refine aops_skip rfl ?_
      refine aops_skip rfl ?_
      refine aops_skip rfl ?_
      refine aops_n rfl (n_pf rfl rfl (by constructor)) ?_
      refine aops_n rfl (n_mv rfl (by constructor)) ?_
      refine aops_skip rfl ?_
      refine aops_skip rfl ?_
      refine aops_skip rfl ?_
      refine aops_skip rfl ?_
      refine aops_skip rfl ?_
      refine aops_skip rfl ?_
      refine aops_skip rfl ?_
      refine aops_skip rfl ?_
      refine aops_skip rfl ?_
      refine aops_skip rfl ?_
      refine aops_skip rfl ?_
      refine aops_n rfl (n_pf rfl rfl (by constructor)) ?_
      refine aops_n rfl (n_pf rfl rfl (by constructor)) ?_
      refine aops_nil ?_
      dsimp only [St.put]
      exact ⟨(), trivial, ⟨⟨rfl, rfl⟩, zF, zB, zN, zX⟩⟩
     skip
     refine aops_n rfl (n_mv rfl (by constructor)) ?_
     refine aops_skip rfl ?_
     refine aops_skip rfl ?_
     refine aops_skip rfl ?_
     refine aops_skip rfl ?_
     refine aops_skip rfl ?_
     refine aops_n rfl (n_pf rfl rfl (by constructor)) ?_
     refine aops_n rfl (n_mv rfl (by constructor)) ?_
     refine aops_skip rfl ?_
     refine aops_skip rfl ?_
     refine aops_skip rfl ?_
     refine aops_skip rfl ?_
     refine aops_skip rfl ?_
     refine aops_n rfl (n_pf rfl rfl (by constructor)) ?_
     refine aops_n rfl (n_mv rfl (by constructor)) ?_
     refine aops_skip rfl ?_
     refine aops_skip rfl ?_
     refine aops_skip rfl ?_
     refine aops_skip rfl ?_
     refine aops_skip rfl ?_
     refine aops_skip rfl ?_
     refine aops_skip rfl ?_
     refine aops_skip rfl ?_
     refine aops_skip rfl ?_
     refine aops_skip rfl ?_
     refine aops_skip rfl ?_
     refine aops_n rfl (n_pf rfl rfl (by constructor)) ?_
     refine aops_n rfl (n_pf rfl rfl (by constructor)) ?_
     refine aops_nil ?_
     dsimp only [St.put]
     exact ⟨(), trivial, ⟨⟨rfl, rfl⟩, zF, zB, zN, zX⟩⟩
    skip
    refine aops_n rfl (n_mv rfl (by constructor)) ?_
    refine aops_skip rfl ?_
    refine aops_skip rfl ?_
    refine aops_skip rfl ?_
    refine aops_skip rfl ?_
    refine aops_skip rfl ?_
    refine aops_n rfl (n_pf rfl rfl (by constructor)) ?_
    refine aops_n rfl (n_pf rfl rfl (by constructor)) ?_
    refine aops_n rfl (n_mv rfl (by constructor)) ?_
    refine aops_n rfl (n_fieldAddr' rfl rfl rfl) ?_
    try dsimp only [St.put]
    refine aops_s rfl (s_load rfl rfl) ?_
    refine aops_n rfl (n_fieldAddr' rfl rfl rfl) ?_
    try dsimp only [St.put]
    refine aops_s rfl (s_load rfl rfl) ?_
    refine aops_n rfl (n_eql rfl rfl rfl) ?_
    refine aops_split (fun hs => ?_) (fun hs => ?_)
    ·have q2 := of_decide_eq_true hs
     refine aops_n rfl (n_mv rfl (by constructor)) ?_
     refine aops_n rfl (n_fieldAddr' rfl rfl rfl) ?_
     try dsimp only [St.put]
     refine aops_s rfl (s_load rfl rfl) ?_
     refine aops_n rfl (n_fieldAddr' rfl rfl rfl) ?_
     try dsimp only [St.put]
     refine aops_s rfl (s_load rfl rfl) ?_
     refine aops_n rfl (n_eql rfl rfl rfl) ?_
     refine aops_split (fun hs => ?_) (fun hs => ?_)
     ·have q3 := of_decide_eq_true hs
      refine aops_n rfl (n_pt rfl rfl (by constructor)) ?_
      refine aops_n rfl (n_mv rfl (by constructor)) ?_
      refine aops_n rfl (n_fieldAddr' rfl rfl rfl) ?_
      try dsimp only [St.put]
      refine aops_s rfl (s_load rfl rfl) ?_
      refine aops_n rfl (n_fieldAddr' rfl rfl rfl) ?_
      try dsimp only [St.put]
      refine aops_s rfl (s_load rfl rfl) ?_
      refine aops_n rfl (n_eql rfl rfl rfl) ?_
      refine aops_split (fun hs => ?_) (fun hs => ?_)
      ·have q4 := of_decide_eq_true hs
       refine aops_n rfl (n_pt rfl rfl (by constructor)) ?_
       refine aops_n rfl (n_mv rfl (by constructor)) ?_
       refine aops_n rfl (n_fieldAddr' rfl rfl rfl) ?_
       try dsimp only [St.put]
       refine aops_s rfl (s_load rfl rfl) ?_
       refine aops_n rfl (n_fieldAddr' rfl rfl rfl) ?_
       try dsimp only [St.put]
       refine aops_s rfl (s_load rfl rfl) ?_
       refine aops_n rfl (n_fieldAddr' rfl rfl rfl) ?_
       try dsimp only [St.put]
       refine aops_s rfl (s_load rfl rfl) ?_
       refine aops_n rfl (n_add rfl rfl rfl (by omega)) ?_
       refine aops_n rfl (n_fieldAddr' rfl rfl rfl) ?_
       try dsimp only [St.put]
       refine aops_s rfl (s_load rfl rfl) ?_
       refine aops_n rfl (n_sub rfl rfl rfl (by omega)) ?_
       refine aops_n rfl (n_bool (n_eql rfl rfl rfl) (decide_eq_false (by omega))) ?_
       refine aops_n rfl (n_pt rfl rfl (by constructor)) ?_
       refine aops_n rfl (n_pf rfl rfl (by constructor)) ?_
       refine aops_nil ?_
       dsimp only [St.put]
       exact ⟨(), trivial, ⟨⟨rfl, rfl⟩, zF, zB, zN, zX⟩⟩
      skip
      refine aops_n rfl (n_pt rfl rfl (by constructor)) ?_
      refine aops_n rfl (n_mv rfl (by constructor)) ?_
      refine aops_skip rfl ?_
      refine aops_skip rfl ?_
      refine aops_skip rfl ?_
      refine aops_skip rfl ?_
      refine aops_skip rfl ?_
      refine aops_skip rfl ?_
      refine aops_skip rfl ?_
      refine aops_skip rfl ?_
      refine aops_skip rfl ?_
      refine aops_skip rfl ?_
      refine aops_skip rfl ?_
      refine aops_n rfl (n_pf rfl rfl (by constructor)) ?_
      refine aops_n rfl (n_pf rfl rfl (by constructor)) ?_
      refine aops_nil ?_
      dsimp only [St.put]
      exact ⟨(), trivial, ⟨⟨rfl, rfl⟩, zF, zB, zN, zX⟩⟩
     skip
     refine aops_n rfl (n_pt rfl rfl (by constructor)) ?_
     refine aops_n rfl (n_mv rfl (by constructor)) ?_
     refine aops_skip rfl ?_
     refine aops_skip rfl ?_
     refine aops_skip rfl ?_
     refine aops_skip rfl ?_
     refine aops_skip rfl ?_
     refine aops_n rfl (n_pf rfl rfl (by constructor)) ?_
     refine aops_n rfl (n_mv rfl (by constructor)) ?_
     refine aops_skip rfl ?_
     refine aops_skip rfl ?_
     refine aops_skip rfl ?_
     refine aops_skip rfl ?_
     refine aops_skip rfl ?_
     refine aops_skip rfl ?_
     refine aops_skip rfl ?_
     refine aops_skip rfl ?_
     refine aops_skip rfl ?_
     refine aops_skip rfl ?_
     refine aops_skip rfl ?_
     refine aops_n rfl (n_pf rfl rfl (by constructor)) ?_
     refine aops_n rfl (n_pf rfl rfl (by constructor)) ?_
     refine aops_nil ?_
     dsimp only [St.put]
     exact ⟨(), trivial, ⟨⟨rfl, rfl⟩, zF, zB, zN, zX⟩⟩
    skip
    refine aops_n rfl (n_mv rfl (by constructor)) ?_
    refine aops_skip rfl ?_
    refine aops_skip rfl ?_
    refine aops_skip rfl ?_
    refine aops_skip rfl ?_
    refine aops_skip rfl ?_
    refine aops_n rfl (n_pf rfl rfl (by constructor)) ?_
    refine aops_n rfl (n_mv rfl (by constructor)) ?_
    refine aops_skip rfl ?_
    refine aops_skip rfl ?_
    refine aops_skip rfl ?_
    refine aops_skip rfl ?_
    refine aops_skip rfl ?_
    refine aops_n rfl (n_pf rfl rfl (by constructor)) ?_
    refine aops_n rfl (n_mv rfl (by constructor)) ?_
    refine aops_skip rfl ?_
    refine aops_skip rfl ?_
    refine aops_skip rfl ?_
    refine aops_skip rfl ?_
    refine aops_skip rfl ?_
    refine aops_skip rfl ?_
    refine aops_skip rfl ?_
    refine aops_skip rfl ?_
    refine aops_skip rfl ?_
    refine aops_skip rfl ?_
    refine aops_skip rfl ?_
    refine aops_n rfl (n_pf rfl rfl (by constructor)) ?_
    refine aops_n rfl (n_pf rfl rfl (by constructor)) ?_
    refine aops_nil ?_
    dsimp only [St.put]
    exact ⟨(), trivial, ⟨⟨rfl, rfl⟩, zF, zB, zN, zX⟩⟩
   rintro _ hU
   dsimp only at hU ⊢
   refine aw_cond rfl (fun h => by cases h) (fun _ => ?_)
   refine aw_skip ?_
   refine hK15 _ ?_
   refine aw_region ?_
   refine aops_n rfl (n_mv rfl (by constructor)) ?_
   refine aops_n rfl (n_add rfl rfl rfl (by omega)) ?_
   refine aops_n rfl (n_as rfl (by constructor)) ?_
   refine aops_nil ?_
   dsimp only [St.put]
   exact ⟨k + 1, by omega, by omega, ⟨⟨rfl, rfl⟩, zF, zB, zN, zX⟩⟩
  skip
  refine aw_exit ?_
  refine hK11 _ ?_
  refine aw_seq_k fun K18 hK18 => ?_
  by_cases hss : e.ss = []
  ·refine aw_region ?_
   try dsimp only [St.put]
   refine aops_s rfl (s_load_agg' rfl rfl (Enc.len _)) ?_
   try dsimp only [St.put]
   refine aops_e rfl (e_call_pure rfl rfl rfl (Twin2_pure e hle) ?_)
   try dsimp only [St.put]
   refine aops_e rfl (e_allocC rfl ?_)
   try dsimp only [St.put]
   refine aops_e rfl (e_store_all rfl rfl rfl zG rfl rfl (by rfl) ?_)
   refine aops_nil ?_
   dsimp only [St.put]
   refine hK18 _ ?_
   refine aw_commitD (i := 24) rfl zG (by first | exact List.cons_ne_nil _ _ | (simp; done) | (simp [putAt]; done)) ?_
   dsimp only
   refine aw_seq_k fun K19 hK19 => ?_
   refine aw_seq_k fun K20 hK20 => ?_
   refine aw_region ?_
   refine aops_n rfl (n_fieldAddr' rfl rfl rfl) ?_
   try dsimp only [St.put]
   refine aops_s rfl (s_load rfl rfl) ?_
   refine aops_n rfl (n_len' rfl rfl (List.length_map _)) ?_
   refine aops_n rfl (n_mv rfl (by constructor)) ?_
   refine aops_nil ?_
   dsimp only [St.put]
   refine hK20 _ ?_
   refine aw_block ?_
   refine aw_rounds 1 ?_
   refine arounds_succ fun KR21_0 hKR21_0 => ?_
   refine aw_seq_k fun K22 hK22 => ?_
   refine aw_region ?_
   refine aops_n rfl (n_bool (c := false) (n_lss rfl rfl rfl) (decide_eq_false (by rw [hss]; decide))) ?_
   refine aops_nil ?_
   dsimp only [St.put]
   refine hK22 _ ?_
   refine aw_seq_k fun K23 hK23 => ?_
   refine aw_cond rfl (fun h => by cases h) (fun _ => ?_)
   have _ := trivial
   refine aw_exit ?_
   refine hK19 _ ?_
   refine aw_seq_k fun K24 hK24 => ?_
   refine aw_region ?_
   try dsimp only [St.put]
   refine aops_s rfl (s_load_agg' rfl rfl rfl) ?_
   try dsimp only [St.put]
   refine aops_s rfl (s_load_agg' rfl rfl (Enc.len _)) ?_
   try dsimp only [St.put]
   refine aops_e rfl (e_call_f rfl rfl rfl (chartPlain_pureF t e hle) zG ?_)
   refine aops_n rfl (n_mv rfl (by constructor)) ?_
   refine aops_n rfl (n_extract rfl rfl rfl) ?_
   refine aops_n rfl (n_extract rfl rfl rfl) ?_
   try dsimp only [St.put]
   refine aops_e rfl (e_allocC rfl ?_)
   try dsimp only [St.put]
   refine aops_e rfl (e_store_all rfl rfl rfl zG rfl rfl (by rfl) ?_)
   refine aops_n rfl (n_as rfl (by constructor)) ?_
   refine aops_nil ?_
   dsimp only [St.put]
   rw [hF4.val, h0]
   refine hK24 _ ?_
   refine aw_commitD (i := 26) rfl zG (by first | exact List.cons_ne_nil _ _ | (simp; done) | (simp [putAt]; done)) ?_
   dsimp only
   refine aw_seq_k fun K25 hK25 => ?_
   refine aw_region ?_
   refine aops_n rfl (n_mv rfl (by constructor)) ?_
   refine aops_n rfl (n_mv rfl (by constructor)) ?_
   refine aops_n rfl (n_mv rfl (by constructor)) ?_
   refine aops_n rfl (n_bool (n_eql rfl rfl rfl) (decide_eq_true (by omega))) ?_
   refine aops_n rfl (n_pt rfl rfl (by constructor)) ?_
   refine aops_n rfl (n_mv rfl (by constructor)) ?_
   try dsimp only [St.put]
   refine aops_s rfl (s_load_agg' rfl rfl (Enc.len _)) ?_
   try dsimp only [St.put]
   refine aops_s rfl (s_load_agg' rfl rfl (Enc.len _)) ?_
   try dsimp only [St.put]
   refine aops_e rfl (e_call_pure rfl rfl rfl (Same2_self ⟨e.id, P⟩) ?_)
   refine aops_n rfl (n_pt rfl rfl (by constructor)) ?_
   refine aops_n rfl (n_as rfl (by constructor)) ?_
   refine aops_nil ?_
   dsimp only [St.put]
   refine hK25 _ ?_
   refine aw_ret ?_
   refine ends_1 rfl (by constructor) zN zS ?_
   rfl
  refine aw_region ?_
  try dsimp only [St.put]
  refine aops_s rfl (s_load_agg' rfl rfl (Enc.len _)) ?_
  try dsimp only [St.put]
  refine aops_e rfl (e_call_named rfl rfl rfl (Twin2_own e hss hle _ _) ?_)
  try dsimp only [St.put]
  refine aops_e rfl (e_allocC rfl ?_)
  try dsimp only [St.put]
  refine aops_e rfl (e_store_all rfl rfl rfl zG rfl rfl (by rfl) ?_)
  refine aops_nil ?_
  dsimp only [St.put]
  have hpos : 0 < e.ss.length := List.length_pos_iff.2 hss
  obtain ⟨r, hr⟩ : ∃ r : Nat, r = tn.toNat % e.ss.length := ⟨_, rfl⟩
  have hrl : r < e.ss.length := by rw [hr]; exact Nat.mod_lt _ hpos
  refine hK18 _ ?_
  refine aw_seq_k fun K26 hK26 => ?_
  refine aw_seq_k fun K27 hK27 => ?_
  refine aw_region ?_
  refine aops_n rfl (n_fieldAddr_box rfl rfl) ?_
  try dsimp only [St.put]
  refine aops_s rfl (s_load_box rfl rfl zG trivial (by first | rfl | assumption)) ?_
  refine aops_n rfl (n_len_own rfl rfl) ?_
  refine aops_n rfl (n_mv rfl (by constructor)) ?_
  refine aops_nil ?_
  dsimp only [St.put]
  refine hK27 _ ?_
  refine aw_block ?_
  refine aw_wipe 174 ?_
  simp only [firsts, getA, Nat.reduceAdd, List.getD_cons_zero, List.getD_cons_succ, List.getD_nil, natBeq, Nat.reduceBEq, cond_true, cond_false]
  refine aw_forget ((setG (setG G ((nx + 1 + 1 + 1 + 1) + 1 + 1) (.arr 0 0 48 5 e.ss.length (flatC e.ss))) ((nx + 1 + 1 + 1 + 1) + 1 + 1 + 1) (.box 1 [.v (.int .i64 e.id), .own ((nx + 1 + 1 + 1 + 1) + 1 + 1) 0 e.ss.length]))) zX ?_
  dsimp only
  refine aw_loopD (X := Nat × Nat × List StretchD) (fun x => x.1 ≤ e.ss.length ∧ x.2.2 = (rotL e.ss r).take x.1 ++ e.ss.drop x.1) (fun x => e.ss.length - x.1) (fun x => [(25, .any), (173, .v (.int .i64 (x.1 : Int)))]) (fun x G' => (setG (setG G ((nx + 1 + 1 + 1 + 1) + 1 + 1) (.arr 0 x.2.1 48 5 e.ss.length (flatC x.2.2))) ((nx + 1 + 1 + 1 + 1) + 1 + 1 + 1) (.box 1 [.v (.int .i64 e.id), .own ((nx + 1 + 1 + 1 + 1) + 1 + 1) 0 e.ss.length]))) (0, 0, e.ss) rfl ?_ ?_ ?_ ?_ ?_ ?_
  ·exact ⟨Nat.zero_le _, by simp⟩
  ·exact zF
  ·exact zX
  ·rintro ⟨k, w, zs⟩ hI
   exact zL
  ·rintro ⟨k, w, zs⟩ hI
   exact zH
  rintro ⟨k, w, zs⟩ hJ
  dsimp only at hJ ⊢
  refine aw_seq_k fun K28 hK28 => ?_
  refine aw_region ?_
  refine aops_n rfl (n_lss rfl rfl rfl) ?_
  refine aops_nil ?_
  dsimp only [St.put]
  refine hK28 _ ?_
  refine aw_seq_k fun K29 hK29 => ?_
  refine aw_cond rfl (fun hc => ?_) (fun hc => ?_)
  ·replace hc := of_decide_eq_true hc
   have hkl : k < e.ss.length := by omega
   have hrg := rot_get hrl hkl
   obtain ⟨s2, hs2⟩ : ∃ x, e.ss[(k + r) % e.ss.length]? = some x := some_of_lt (Nat.mod_lt _ hpos)
   rw [hs2] at hrg
   have hzl : zs.length = e.ss.length := by rw [hJ.2, List.length_append, List.length_take, List.length_drop, rot_len _ (by omega)]; omega
   obtain ⟨z0, hz0⟩ : ∃ x, zs[k]? = some x := some_of_lt (by omega)
   have hN : zs.set k s2 = (rotL e.ss r).take (k + 1) ++ e.ss.drop (k + 1) := by
    have hl : ((rotL e.ss r).take k).length = k := by rw [List.length_take, rot_len _ (by omega)]; omega
    rw [hJ.2, List.set_append_right _ _ (by rw [hl]; exact Nat.le_refl _), hl, Nat.sub_self, List.take_add_one, hrg, List.drop_eq_getElem_cons hkl, List.set_cons_zero, Option.toList_some, List.append_assoc]
    rfl
   have hix : ((k : Int) + tn % (e.ss.length : Int)) % (e.ss.length : Int) = (((k + r) % e.ss.length : Nat) : Int) := by
    have ht : tn = ((tn.toNat : Nat) : Int) := by omega
    rw [ht, rem_rem, hr]
   have hr1 := Int.emod_nonneg tn (b := (e.ss.length : Int)) (by omega)
   have hr2 := Int.emod_lt_of_pos tn (b := (e.ss.length : Int)) (by omega)
   refine aw_skip ?_
   refine hK29 _ ?_
   refine aw_seq_k fun K30 hK30 => ?_
   refine aw_block ?_
   refine aw_seq_k fun K31 hK31 => ?_
   refine aw_region ?_
   refine aops_n rfl (n_mv rfl (by constructor)) ?_
   refine aops_n rfl (n_as rfl (by constructor)) ?_
   refine aops_nil ?_
   dsimp only [St.put]
   refine hK31 _ ?_
   refine aw_draw [(0, none), (1, none), (2, none), (3, none), (4, none), (5, none), (6, none), (7, none), (8, none), (9, none), (10, none), (11, none), (12, none), (13, none), (14, none), (15, none), (16, none), (17, none), (18, none), (19, none), (20, none)] (fun i => [20].contains i) (fun i => [20].contains i) (fun i => [0, 2, 3, 5, 6, 7, 8, 10, 11, 12, 13, 15, 16, 17, 19].contains i) [(nx + 1 + 1 + 1 + 1) + 1 + 1 + 1] (by kernel_rfl) (by kernel_rfl) ?_
   refine acan1_n rfl rfl rfl rfl (n_fieldAddr_box rfl rfl) ?_
   try dsimp only [St.put]
   refine acan1_s rfl rfl rfl rfl (s_load_box rfl rfl zG (by simp) (by first | rfl | assumption)) ?_
   refine acan1_n rfl rfl rfl rfl (n_mv rfl (by constructor)) ?_
   refine acan1_n rfl rfl rfl rfl (n_fieldAddr' rfl rfl rfl) ?_
   try dsimp only [St.put]
   refine acan1_s rfl rfl rfl rfl (s_load rfl rfl) ?_
   refine acan1_n rfl rfl rfl rfl (n_mv rfl (by constructor)) ?_
   refine acan1_n rfl rfl rfl rfl (n_mv rfl (by constructor)) ?_
   refine acan1_n rfl rfl rfl rfl (n_conv rfl rfl (by kernel_rfl) (by kernel_rfl) (by omega)) ?_
   refine acan1_n rfl rfl rfl rfl (n_fieldAddr' rfl rfl rfl) ?_
   try dsimp only [St.put]
   refine acan1_s rfl rfl rfl rfl (s_load rfl rfl) ?_
   refine acan1_n rfl rfl rfl rfl (n_len' rfl rfl (List.length_map _)) ?_
   refine acan1_n rfl rfl rfl rfl (n_rem rfl rfl rfl (by omega) (by omega)) ?_
   refine acan1_n rfl rfl rfl rfl (n_add rfl rfl rfl (by omega)) ?_
   refine acan1_n rfl rfl rfl rfl (n_fieldAddr' rfl rfl rfl) ?_
   try dsimp only [St.put]
   refine acan1_s rfl rfl rfl rfl (s_load rfl rfl) ?_
   refine acan1_n rfl rfl rfl rfl (n_len' rfl rfl (List.length_map _)) ?_
   refine acan1_n rfl rfl rfl rfl (n_rem rfl rfl rfl (by omega) (by omega)) ?_
   try dsimp only [St.put]
   refine acan1_n rfl rfl rfl rfl ((n_indexAddr (k := (k + r) % e.ss.length) rfl rfl rfl hix (map_get hs2) (Enc.len _))) ?_
   try dsimp only [St.put]
   refine acan1_s rfl rfl rfl rfl (s_load_agg' rfl rfl (Enc.len _)) ?_
   try dsimp only [St.put]
   refine acan1_n rfl rfl rfl rfl (n_indexAddr_own (k := k) rfl rfl zG rfl (by first | exact rfl | omega) (by first | omega | (simp; omega))) ?_
   refine acan1_two ?_
   try dsimp only [St.put]
   refine acan2_late rfl rfl rfl rfl (e_store_ownrow (k := k) (z := z0) (z' := s2) rfl rfl rfl zG rfl rfl hz0 rfl (by decide) ?_)
   refine acan2_nil ?_
   dsimp only [St.put]
   refine hK30 _ ?_
   refine aw_region ?_
   refine aops_n rfl (n_add rfl rfl rfl (by omega)) ?_
   refine aops_n rfl (n_mv rfl (by constructor)) ?_
   refine aops_nil ?_
   dsimp only [St.put]
   exact ⟨(k + 1, w + 1, zs.set k s2), by (dsimp only; omega), ⟨by (dsimp only; omega), hN⟩, ⟨⟨rfl, rfl⟩, zF, zB, zN, zX⟩⟩
  have _ := trivial
  refine aw_exit ?_
  refine hK26 _ ?_
  refine aw_seq_k fun K32 hK32 => ?_
  have hzs : zs = rotL e.ss r := by
   replace hc := of_decide_eq_false hc
   rw [hJ.2, List.drop_of_length_le (by omega), List.append_nil, List.take_of_length_le (by rw [rot_len _ (by omega)]; omega)]
  subst hzs
  obtain ⟨hz1, hz2⟩ := plain_perm h0 (rot_perm e.ss r)
  refine aw_commit_own_cell ((nx + 1 + 1 + 1 + 1) + 1 + 1 + 1) 1 (rotL e.ss r) zG rfl zG (by omega) rfl rfl (rot_len _ (by omega)).symm ?_
  dsimp only [List.set_cons_zero, List.set_cons_succ]
  refine aw_region ?_
  try dsimp only [St.put]
  refine aops_s rfl (s_load_agg' rfl rfl rfl) ?_
  try dsimp only [St.put]
  refine aops_s rfl (s_load_box_all rfl rfl zG trivial (by rfl)) ?_
  try dsimp only [St.put]
  refine aops_e rfl (e_call_f rfl rfl rfl (chartPlain_pureF t ⟨e.id, rotL e.ss r⟩ (by rw [rot_len _ (by omega)]; exact hle)) zG ?_)
  refine aops_n rfl (n_mv rfl (by constructor)) ?_
  refine aops_n rfl (n_extract rfl rfl rfl) ?_
  refine aops_n rfl (n_extract rfl rfl rfl) ?_
  try dsimp only [St.put]
  refine aops_e rfl (e_allocC rfl ?_)
  try dsimp only [St.put]
  refine aops_e rfl (e_store_all rfl rfl rfl zG rfl rfl (by rfl) ?_)
  refine aops_n rfl (n_as rfl (by constructor)) ?_
  refine aops_nil ?_
  dsimp only [St.put]
  rw [hz1, hz2, hF4.val]
  refine hK32 _ ?_
  refine aw_commitD (i := 26) rfl zG (by first | exact List.cons_ne_nil _ _ | (simp; done) | (simp [putAt]; done)) ?_
  dsimp only
  refine aw_seq_k fun K33 hK33 => ?_
  refine aw_region ?_
  refine aops_n rfl (n_mv rfl (by constructor)) ?_
  refine aops_n rfl (n_mv rfl (by constructor)) ?_
  refine aops_n rfl (n_mv rfl (by constructor)) ?_
  refine aops_n rfl (n_bool (n_eql rfl rfl rfl) (decide_eq_true (by omega))) ?_
  refine aops_n rfl (n_pt rfl rfl (by constructor)) ?_
  refine aops_n rfl (n_mv rfl (by constructor)) ?_
  try dsimp only [St.put]
  refine aops_s rfl (s_load_agg' rfl rfl (Enc.len _)) ?_
  try dsimp only [St.put]
  refine aops_s rfl (s_load_agg' rfl rfl (Enc.len _)) ?_
  try dsimp only [St.put]
  refine aops_e rfl (e_call_pure rfl rfl rfl (Same2_self ⟨e.id, P⟩) ?_)
  refine aops_n rfl (n_pt rfl rfl (by constructor)) ?_
  refine aops_n rfl (n_as rfl (by constructor)) ?_
  refine aops_nil ?_
  dsimp only [St.put]
  refine hK33 _ ?_
  refine aw_ret ?_
  refine ends_1 rfl (by constructor) zN zS ?_
  rfl
 skip
 refine aops_n rfl (n_not rfl rfl) ?_
 refine aops_n rfl (n_mv rfl (by constructor)) ?_
 refine aops_skip rfl ?_
 refine aops_skip rfl ?_
 refine aops_n rfl (n_pt rfl rfl (by constructor)) ?_
 refine aops_nil ?_
 dsimp only [St.put]
 refine hK4 _ ?_
 refine aw_cond rfl (fun _ => ?_) (fun h => by cases h)
 refine aw_seq_k fun K34 hK34 => ?_
 refine aw_region ?_
 refine aops_n rfl (n_mv rfl (by constructor)) ?_
 refine aops_n rfl (n_as rfl (by constructor)) ?_
 refine aops_nil ?_
 dsimp only [St.put]
 refine hK34 _ ?_
 refine aw_ret ?_
 refine ends_1 rfl (by constructor) zN zS ?_
 rfl
end Go.Proofs.YtjjklfgpffgnfaaGreatDoor
