/-
 Contracts of the program's functions of charts: references, and where they lead.
-/
import Derived.Test.YtejhjijbgceklaaGreatDoorEbRef
import Derived.Test.YtejhjijbgceklaaGreatDoorGrpC
namespace Go.AB
open Go Go.RowKit
open Go.AB.Enc (cells)
open Go.PB (Chap TextD PlaceD ReadingD CopyD WayD)
def openC (t : TextD) : C := bif textB t then .elem [lst t] else .v (.pointer none)
theorem openC_low (t : TextD) (m : Nat) : (openC t).low m := by
 unfold openC
 cases textB t
 ·exact .v
 exact .elem (low_cons (lst_low _ _) low_nil)
def placedEr (t : TextD) (p : PlaceD) : Int := bif textB t then (bif placeB t p then 0 else 12) else 10
def placedC (t : TextD) (p : PlaceD) : C := bif textB t && placeB t p then .elem [lst t] else .v (.pointer none)
theorem placedC_low (t : TextD) (p : PlaceD) (m : Nat) : (placedC t p).low m := by
 unfold placedC
 cases textB t && placeB t p
 ·exact .v
 exact .elem (low_cons (lst_low _ _) low_nil)
def atWord (t : TextD) (p : PlaceD) : ByteArray := bif textB t && placeB t p then (((wordsOf t (p.ch, p.ln)).getD [])[p.wd.toNat]?).getD ⟨#[]⟩ else ⟨#[]⟩
theorem placeB_len {t : TextD} {p : PlaceD} : placeB t p = inAll 0 ((((wordsOf t (p.ch, p.ln)).getD []).length : Int) - 1) [p.wd] := by
 rw [inAll_one]
 unfold placeB
 cases wordsOf t (p.ch, p.ln) with
 | some l => rfl
 | none =>
  rw [eq_comm, Bool.eq_false_iff]
  intro h
  rw [inB_true] at h
  simp at h
  omega
end Go.AB
namespace Go.Proofs.YtejhjijbgceklaaGreatDoor
set_option maxRecDepth 10000
open Go.RowKit Go.AB
open Go.AB.Enc (cells)
open Go.PB (Chap TextD PlaceD ReadingD CopyD WayD)
theorem leafOpen_pure (t : TextD) : Pure Tryz.prog 46 [textC t] (.tup [openC t, .v (.int .i64 (textEr t))]) := by
 refine pure_of_body Tryz.func46 rfl (fun m => .tup (low_cons (openC_low _ _) (low_cons .v low_nil))) fun G nx => ?_
 simp only [Tryz.ntmps46, List.length_cons, List.length_nil, Nat.reduceAdd, Nat.reduceSub]
 refine aw_lt fun hlt => ?_
 dsimp only at hlt
 refine yS fun _ K1 => ?_
 refine yR ?_
 try dsimp only [St.put]
 refine yB rfl rfl rfl ?_
 refine yA rfl rfl ?_
 refine yA rfl rfl ?_
 refine yN ?_
 dsimp only [St.put]
 refine K1 _ ?_
 refine yS fun _ K2 => ?_
 refine yS fun _ K3 => ?_
 refine yR ?_
 try dsimp only [St.put]
 refine aops_s rfl (s_load_agg' rfl rfl rfl) ?_
 try dsimp only [St.put]
 refine aops_e rfl (e_call_pure rfl rfl rfl (leafCheck_pure t) ?_)
 refine yA rfl rfl ?_
 refine yN ?_
 dsimp only [St.put]
 refine K3 _ ?_
 refine yS fun _ K4 => ?_
 refine yR ?_
 refine yM rfl rfl ?_
 refine aops_n rfl (n_neq rfl rfl rfl) ?_
 refine yN ?_
 dsimp only [St.put]
 refine K4 _ ?_
 refine aw_cond rfl (fun hc => ?_) (fun hc => ?_)
 ·have htx : textB t = false := by
   cases h : textB t
   ·rfl
   simp [textEr, h] at hc
  refine yS fun _ K5 => ?_
  refine yR ?_
  refine yM rfl rfl ?_
  refine yA rfl rfl ?_
  refine yA rfl rfl ?_
  refine yN ?_
  dsimp only [St.put]
  refine K5 _ ?_
  refine aw_ret ?_
  refine ends_2 rfl (by constructor) (by constructor) zN zS ?_ ?_
  ·simp [openC, htx]
  rfl
 have htx : textB t = true := by
  cases h : textB t
  ·simp [textEr, h] at hc
  rfl
 refine aw_skip ?_
 refine K2 _ ?_
 refine yS fun _ K6 => ?_
 refine yR ?_
 try dsimp only [St.put]
 refine aops_s rfl (s_load_agg' rfl rfl rfl) ?_
 refine aops_n rfl (n_build rfl rfl) ?_
 try dsimp only [St.put]
 refine aops_e rfl (e_box (cs := [lst t]) rfl rfl (by simp) ?_)
 refine yA rfl rfl ?_
 refine yA rfl rfl ?_
 refine yN ?_
 dsimp only [St.put]
 refine K6 _ ?_
 refine aw_ret ?_
 refine ends_2 rfl (by constructor) (by constructor) zN zS ?_ ?_
 ·simp [openC, htx]
 exact vi (by simp [textEr, htx])
theorem leafLine_pure (t : TextD) (p : PlaceD) (ht : textB t = true) : Pure Tryz.prog 53 [.elem [lst t], val p] (lst ((wordsOf t (p.ch, p.ln)).getD [])) := by
 refine pure_of_body Tryz.func53 rfl (fun m => (lst_low _ _)) fun G nx => ?_
 simp only [Tryz.ntmps53, List.length_cons, List.length_nil, Nat.reduceAdd, Nat.reduceSub]
 refine aw_lt fun hlt => ?_
 dsimp only at hlt
 obtain ⟨hl1, hl2, hl3⟩ := text_ok ht
 refine yS fun _ K1 => ?_
 refine yR ?_
 try dsimp only [St.put]
 refine yB rfl rfl rfl ?_
 refine yA rfl rfl ?_
 refine yN ?_
 dsimp only [St.put]
 refine K1 _ ?_
 refine yS fun _ K2 => ?_
 refine aw_wipe 5 ?_
 simp only [firsts, getA, Nat.reduceAdd, List.getD_cons_zero, List.getD_cons_succ, List.getD_nil, natBeq, Nat.reduceBEq, cond_true, cond_false]
 refine aw_cutD (X := Bool) (fun b => b = !(wordsOf t (p.ch, p.ln)).isSome) (fun b => [(35, .v (.bool b))]) (fun b G' => G') rfl ?_ (fun _ _ _ _ h => .inl h) ?_ ?_
 ·rintro b hI
  exact zL
 ·refine aw_drawT [(0, none), (1, none), (2, none), (3, none), (4, none), (5, none), (6, none), (7, none), (8, none)] (fun _ => false) (fun i => [0, 1, 2, 3, 5, 6, 7].contains i) 22 [true, true, true, true, true, true, true, true, true, false, false, false, false, false, false, false, false, false, false, false, false, false, false, false, false, false, false, false, false, false, false] (by kernel_rfl) (by kernel_rfl) ?_
  refine xM rfl rfl rfl rfl rfl ?_
  refine acan1_n rfl rfl rfl rfl (n_nilCheck rfl rfl) ?_
  refine acan1_n rfl rfl rfl rfl (n_fieldAddr' rfl rfl rfl) ?_
  refine acan1_n rfl rfl rfl rfl (n_fieldAddr' rfl rfl rfl) ?_
  try dsimp only [St.put]
  refine acan1_s rfl rfl rfl rfl (s_load rfl rfl) ?_
  refine acan1_n rfl rfl rfl rfl (n_len' rfl rfl (List.length_map _)) ?_
  refine acan1_n rfl rfl rfl rfl (n_sub rfl rfl rfl (by omega)) ?_
  refine acan1_n rfl rfl rfl rfl (n_fieldAddr' rfl rfl rfl) ?_
  try dsimp only [St.put]
  refine acan1_s rfl rfl rfl rfl (s_load rfl rfl) ?_
  refine acan1_nil ?_
  refine aany_step [9] (by kernel_rfl) (by simp) ?_
  refine aeach_cons ?_ ?_
  ·try dsimp only [St.put]
   refine aone_e rfl rfl rfl (e_buildSlice rfl rfl rfl (by decide) (by decide) zR (by decide) ?_)
   refine aany_step [10] (by kernel_rfl) (by simp) ?_
   refine aeach_cons ?_ ?_
   ·try dsimp only [St.put]
    refine aone_e rfl rfl rfl (e_call_pure rfl rfl rfl (leafIn_pure _ _ [p.ch]) ?_)
    refine aany_quiet [(11, none), (12, none), (13, none), (14, none), (15, none), (16, none), (17, none), (18, none), (19, none), (20, none), (21, none), (22, none), (23, none), (24, none), (25, none), (26, none)] (fun i => [11, 12, 13, 14, 15, 16, 18, 20, 21, 23, 24, 25].contains i) 4 [true, true, true, true, true, true, true, true, true, true, true, true, true, true, true, true, true, true, true, true, true, true, true, true, true, true, true, false, false, false, false] (by kernel_rfl) ?_
    refine acan1_n rfl rfl rfl rfl (n_not rfl rfl) ?_
    refine xM rfl rfl rfl rfl rfl ?_
    refine acan1_split (fun hs => ?_) (fun hs => ?_)
    ·have h8 : inB p.ch 0 ((t.length : Int) - 1) = false := by rw [inAll_one] at hs; simpa using hs
     refine acan1_skip rfl rfl rfl ?_
     refine acan1_skip rfl rfl rfl ?_
     refine acan1_skip rfl rfl rfl ?_
     refine acan1_skip rfl rfl rfl ?_
     refine acan1_skip rfl rfl rfl ?_
     refine acan1_skip rfl rfl rfl ?_
     refine acan1_skip rfl rfl rfl ?_
     refine acan1_skip rfl rfl rfl ?_
     refine acan1_skip rfl rfl rfl ?_
     refine acan1_skip rfl rfl rfl ?_
     refine acan1_skip rfl rfl rfl ?_
     refine acan1_skip rfl rfl rfl ?_
     refine acan1_skip rfl rfl rfl ?_
     refine acan1_skip rfl rfl rfl ?_
     refine acan1_nil ?_
     refine aany_step [27] (by kernel_rfl) (by simp) ?_
     refine aeach_cons ?_ ?_
     ·refine aone_skip rfl rfl rfl ?_
      refine aany_step [28] (by kernel_rfl) (by simp) ?_
      refine aeach_cons ?_ ?_
      ·refine aone_skip rfl rfl rfl ?_
       refine aany_quiet [(29, none), (30, none)] (fun i => [29, 30].contains i) 0 [true, true, true, true, true, true, true, true, true, true, true, true, true, true, true, true, true, true, true, true, true, true, true, true, true, true, true, true, true, true, true] (by kernel_rfl) ?_
       refine acan1_skip rfl rfl rfl ?_
       refine acan1_n rfl rfl rfl rfl (n_pt rfl rfl (by constructor)) ?_
       refine acan1_nil ?_
       dsimp only [St.put]
       refine aany_nil (by kernel_rfl) ?_
       refine ⟨_, ?_, ⟨⟨rfl, rfl⟩, zF, zB, zN, zX⟩⟩
       rw [wordsOf_isSome]
       (simp [h8]; done)
      exact aeach_nil
     exact aeach_nil
    have h8 : inB p.ch 0 ((t.length : Int) - 1) = true := by rw [inAll_one] at hs; simpa using hs
    have hn1' := h8
    simp only [inB_true] at hn1'
    obtain ⟨c, hcx⟩ : ∃ c, t[p.ch.toNat]? = some c := some_of_lt (by omega)
    have hnl : nlines t p.ch = c.lines.length := by simp [nlines, hcx]
    have hll := (hl3 c (mem_of_get hcx)).2.1
    have hch : p.ch = ((p.ch.toNat : Nat) : Int) := by omega
    refine xM rfl rfl rfl rfl rfl ?_
    refine acan1_n rfl rfl rfl rfl (n_nilCheck rfl rfl) ?_
    refine acan1_n rfl rfl rfl rfl (n_fieldAddr' rfl rfl rfl) ?_
    refine acan1_n rfl rfl rfl rfl (n_fieldAddr' rfl rfl rfl) ?_
    try dsimp only [St.put]
    refine acan1_s rfl rfl rfl rfl (s_load rfl rfl) ?_
    refine acan1_n rfl rfl rfl rfl (n_fieldAddr' rfl rfl rfl) ?_
    try dsimp only [St.put]
    refine acan1_s rfl rfl rfl rfl (s_load rfl rfl) ?_
    try dsimp only [St.put]
    refine acan1_n rfl rfl rfl rfl (n_indexAddr rfl rfl rfl (by omega) (map_get (by assumption)) (Enc.len _)) ?_
    refine acan1_n rfl rfl rfl rfl (n_fieldAddr' rfl rfl rfl) ?_
    try dsimp only [St.put]
    refine acan1_s rfl rfl rfl rfl (s_load rfl rfl) ?_
    refine acan1_n rfl rfl rfl rfl (n_len' rfl rfl (List.length_map _)) ?_
    refine acan1_n rfl rfl rfl rfl (n_sub rfl rfl rfl (by omega)) ?_
    refine acan1_n rfl rfl rfl rfl (n_fieldAddr' rfl rfl rfl) ?_
    try dsimp only [St.put]
    refine acan1_s rfl rfl rfl rfl (s_load rfl rfl) ?_
    refine acan1_nil ?_
    refine aany_step [27] (by kernel_rfl) (by simp) ?_
    refine aeach_cons ?_ ?_
    ·try dsimp only [St.put]
     refine aone_e rfl rfl rfl (e_buildSlice rfl rfl rfl (by decide) (by decide) zR (by decide) ?_)
     refine aany_step [28] (by kernel_rfl) (by simp) ?_
     refine aeach_cons ?_ ?_
     ·try dsimp only [St.put]
      refine aone_e rfl rfl rfl (e_call_pure rfl rfl rfl (leafIn_pure _ _ [p.ln]) ?_)
      refine aany_quiet [(29, none), (30, none)] (fun i => [29, 30].contains i) 0 [true, true, true, true, true, true, true, true, true, true, true, true, true, true, true, true, true, true, true, true, true, true, true, true, true, true, true, true, true, true, true] (by kernel_rfl) ?_
      refine acan1_n rfl rfl rfl rfl (n_not rfl rfl) ?_
      refine acan1_n rfl rfl rfl rfl (n_pf rfl rfl (by constructor)) ?_
      refine acan1_nil ?_
      dsimp only [St.put]
      refine aany_nil (by kernel_rfl) ?_
      refine ⟨_, ?_, ⟨⟨rfl, rfl⟩, zF, zB, zN, zX⟩⟩
      rw [wordsOf_isSome]
      (simp [h8, hnl, inAll_one]; done)
     exact aeach_nil
    exact aeach_nil
   exact aeach_nil
  exact aeach_nil
 rintro b hst
 dsimp only at hst ⊢
 refine aw_cond rfl (fun hc => ?_) (fun hc => ?_)
 ·have hw : wordsOf t (p.ch, p.ln) = none := by rw [hc] at hst; simpa using hst.symm
  refine yS fun _ K4 => ?_
  refine yR ?_
  refine yA rfl rfl ?_
  refine yN ?_
  dsimp only [St.put]
  refine K4 _ ?_
  refine aw_ret ?_
  refine ends_v1 rfl (rv_tmp (by constructor)) zN zS ?_
  rw [hw]
  exact zW
 have hw0 : (wordsOf t (p.ch, p.ln)).isSome = true := by rw [hc] at hst; simpa using hst.symm
 obtain ⟨l, hw⟩ := Option.isSome_iff_exists.1 hw0
 obtain ⟨k, n, c, hkn, hk, hn⟩ := wordsOf_some hw
 have hch : p.ch = ((k : Nat) : Int) := congrArg Prod.fst hkn
 have hln : p.ln = ((n : Nat) : Int) := congrArg Prod.snd hkn
 refine aw_skip ?_
 refine K2 _ ?_
 refine yS fun _ K5 => ?_
 refine aw_draw [(0, none), (1, none), (2, none), (3, none), (4, none), (5, none), (6, none), (7, none), (8, none), (9, none), (10, none), (11, none), (12, none), (13, none), (14, none)] (fun i => [].contains i) (fun i => [].contains i) (fun i => [0, 1, 2, 3, 5, 7, 8, 10, 12, 14].contains i) [] (by kernel_rfl) (by kernel_rfl) ?_
 refine xM rfl rfl rfl rfl rfl ?_
 refine acan1_n rfl rfl rfl rfl (n_nilCheck rfl rfl) ?_
 refine acan1_n rfl rfl rfl rfl (n_fieldAddr' rfl rfl rfl) ?_
 refine acan1_n rfl rfl rfl rfl (n_fieldAddr' rfl rfl rfl) ?_
 try dsimp only [St.put]
 refine acan1_s rfl rfl rfl rfl (s_load rfl rfl) ?_
 refine acan1_n rfl rfl rfl rfl (n_fieldAddr' rfl rfl rfl) ?_
 try dsimp only [St.put]
 refine acan1_s rfl rfl rfl rfl (s_load rfl rfl) ?_
 try dsimp only [St.put]
 refine acan1_n rfl rfl rfl rfl (n_indexAddr rfl rfl rfl (by omega) (map_get (by assumption)) (Enc.len _)) ?_
 refine acan1_n rfl rfl rfl rfl (n_fieldAddr' rfl rfl rfl) ?_
 try dsimp only [St.put]
 refine acan1_s rfl rfl rfl rfl (s_load rfl rfl) ?_
 refine acan1_n rfl rfl rfl rfl (n_fieldAddr' rfl rfl rfl) ?_
 try dsimp only [St.put]
 refine acan1_s rfl rfl rfl rfl (s_load rfl rfl) ?_
 try dsimp only [St.put]
 refine acan1_n rfl rfl rfl rfl (n_indexAddr rfl rfl rfl (by omega) (map_get (by assumption)) (Enc.len _)) ?_
 try dsimp only [St.put]
 refine acan1_s rfl rfl rfl rfl (s_load rfl rfl) ?_
 refine acan1_n rfl rfl rfl rfl (n_as rfl (by constructor)) ?_
 refine acan1_nil ?_
 dsimp only [St.put]
 refine K5 _ ?_
 refine aw_ret ?_
 refine ends_v1 rfl (rv_tmp (by constructor)) zN zS ?_
 rw [hw]
 exact zW
theorem leafHas_pure (t : TextD) (p : PlaceD) (ht : textB t = true) : Pure Tryz.prog 44 [.elem [lst t], val p] (.v (.bool (placeB t p))) := by
 refine pure_of_body Tryz.func44 rfl (fun m => .v) fun G nx => ?_
 simp only [Tryz.ntmps44, List.length_cons, List.length_nil, Nat.reduceAdd, Nat.reduceSub]
 refine aw_lt fun hlt => ?_
 dsimp only at hlt
 have hwl := words_len ht (p.ch, p.ln)
 refine yS fun _ K1 => ?_
 refine yR ?_
 try dsimp only [St.put]
 refine yB rfl rfl rfl ?_
 refine yA rfl rfl ?_
 refine yN ?_
 dsimp only [St.put]
 refine K1 _ ?_
 refine yS fun _ K2 => ?_
 refine aw_drawT [(0, none), (1, none), (5, none), (6, none)] (fun _ => false) (fun i => [0, 5].contains i) 6 [true, true, false, false, false, true, true, false, false, false] (by kernel_rfl) (by kernel_rfl) ?_
 refine xM rfl rfl rfl rfl rfl ?_
 try dsimp only [St.put]
 refine acan1_s rfl rfl rfl rfl (s_load_agg' rfl rfl (Enc.len _)) ?_
 refine acan1_n rfl rfl rfl rfl (n_fieldAddr' rfl rfl rfl) ?_
 try dsimp only [St.put]
 refine acan1_s rfl rfl rfl rfl (s_load rfl rfl) ?_
 refine acan1_nil ?_
 refine aany_step [2, 7] (by kernel_rfl) (by simp) ?_
 refine aeach_cons ?_ ?_
 ·try dsimp only [St.put]
  refine aone_e rfl rfl rfl (e_call_pure rfl rfl rfl (leafLine_pure t p ht) ?_)
  refine aany_quiet [(3, none), (4, none)] (fun i => [3, 4].contains i) 3 [true, true, true, true, true, true, true, false, false, false] (by kernel_rfl) ?_
  refine acan1_n rfl rfl rfl rfl (n_len' rfl rfl (List.length_map _)) ?_
  refine acan1_n rfl rfl rfl rfl (n_sub rfl rfl rfl (by omega)) ?_
  refine acan1_nil ?_
  refine aany_step [7] (by kernel_rfl) (by simp) ?_
  refine aeach_cons ?_ ?_
  ·try dsimp only [St.put]
   refine aone_e rfl rfl rfl (e_buildSlice rfl rfl rfl (by decide) (by decide) zR (by decide) ?_)
   refine aany_step [8] (by kernel_rfl) (by simp) ?_
   refine aeach_cons ?_ ?_
   ·try dsimp only [St.put]
    refine aone_e rfl rfl rfl (e_call_pure rfl rfl rfl (leafIn_pure _ _ [p.wd]) ?_)
    refine aany_quiet [(9, none)] (fun i => [9].contains i) 0 [true, true, true, true, true, true, true, true, true, true] (by kernel_rfl) ?_
    refine acan1_n rfl rfl rfl rfl (n_as rfl (by constructor)) ?_
    refine acan1_nil ?_
    dsimp only [St.put]
    refine aany_nil (by kernel_rfl) ?_
    refine K2 _ ?_
    refine aw_ret ?_
    refine ends_1 rfl (by constructor) zN zS ?_
    exact vb placeB_len.symm
   exact aeach_nil
  exact aeach_nil
 refine aeach_cons ?_ ?_
 ·try dsimp only [St.put]
  refine aone_e rfl rfl rfl (e_buildSlice rfl rfl rfl (by decide) (by decide) zR (by decide) ?_)
  refine aany_step [2] (by kernel_rfl) (by simp) ?_
  refine aeach_cons ?_ ?_
  ·try dsimp only [St.put]
   refine aone_e rfl rfl rfl (e_call_pure rfl rfl rfl (leafLine_pure t p ht) ?_)
   refine aany_quiet [(3, none), (4, none)] (fun i => [3, 4].contains i) 2 [true, true, true, true, true, true, true, true, false, false] (by kernel_rfl) ?_
   refine acan1_n rfl rfl rfl rfl (n_len' rfl rfl (List.length_map _)) ?_
   refine acan1_n rfl rfl rfl rfl (n_sub rfl rfl rfl (by omega)) ?_
   refine acan1_nil ?_
   refine aany_step [8] (by kernel_rfl) (by simp) ?_
   refine aeach_cons ?_ ?_
   ·try dsimp only [St.put]
    refine aone_e rfl rfl rfl (e_call_pure rfl rfl rfl (leafIn_pure _ _ [p.wd]) ?_)
    refine aany_quiet [(9, none)] (fun i => [9].contains i) 0 [true, true, true, true, true, true, true, true, true, true] (by kernel_rfl) ?_
    refine acan1_n rfl rfl rfl rfl (n_as rfl (by constructor)) ?_
    refine acan1_nil ?_
    dsimp only [St.put]
    refine aany_nil (by kernel_rfl) ?_
    refine K2 _ ?_
    refine aw_ret ?_
    refine ends_1 rfl (by constructor) zN zS ?_
    exact vb placeB_len.symm
   exact aeach_nil
  exact aeach_nil
 exact aeach_nil
theorem leafPlaced_pure (t : TextD) (p : PlaceD) : Pure Tryz.prog 52 [textC t, val p] (.tup [placedC t p, .v (.int .i64 (placedEr t p))]) := by
 refine pure_of_body Tryz.func52 rfl (fun m => .tup (low_cons (placedC_low _ _ _) (low_cons .v low_nil))) fun G nx => ?_
 simp only [Tryz.ntmps52, List.length_cons, List.length_nil, Nat.reduceAdd, Nat.reduceSub]
 refine aw_lt fun hlt => ?_
 dsimp only at hlt
 refine yS fun _ K1 => ?_
 refine yR ?_
 try dsimp only [St.put]
 refine yB rfl rfl rfl ?_
 try dsimp only [St.put]
 refine yB rfl rfl rfl ?_
 refine yA rfl rfl ?_
 refine yA rfl rfl ?_
 refine yN ?_
 dsimp only [St.put]
 refine K1 _ ?_
 refine yS fun _ K2 => ?_
 refine yR ?_
 try dsimp only [St.put]
 refine aops_s rfl (s_load_agg' rfl rfl rfl) ?_
 try dsimp only [St.put]
 refine aops_e rfl (e_call_pure rfl rfl rfl (leafOpen_pure t) ?_)
 refine yM rfl rfl ?_
 refine yX rfl rfl rfl rfl ?_
 refine yX rfl rfl rfl rfl ?_
 refine yA rfl rfl ?_
 refine yA rfl rfl ?_
 refine yN ?_
 dsimp only [St.put]
 refine K2 _ ?_
 refine yS fun _ K3 => ?_
 refine yS fun _ K4 => ?_
 refine yR ?_
 refine yM rfl rfl ?_
 refine aops_n rfl (n_neq rfl rfl rfl) ?_
 refine yN ?_
 dsimp only [St.put]
 refine K4 _ ?_
 refine aw_cond rfl (fun hc => ?_) (fun hc => ?_)
 ·have htx : textB t = false := by
   cases h : textB t
   ·rfl
   simp [textEr, h] at hc
  refine yS fun _ K5 => ?_
  refine yR ?_
  refine yM rfl rfl ?_
  refine yA rfl rfl ?_
  refine yA rfl rfl ?_
  refine yN ?_
  dsimp only [St.put]
  refine K5 _ ?_
  refine aw_ret ?_
  refine ends_2 rfl (by constructor) (by constructor) zN zS ?_ ?_
  ·simp [placedC, htx]
  exact vi (by simp [placedEr, textEr, htx])
 have htx : textB t = true := by
  cases h : textB t
  ·simp [textEr, h] at hc
  rfl
 rw [show openC t = .elem [lst t] by simp [openC, htx]]
 refine aw_skip ?_
 refine K3 _ ?_
 refine yS fun _ K6 => ?_
 refine yS fun _ K7 => ?_
 refine yR ?_
 refine yM rfl rfl ?_
 refine yE rfl rfl rfl ?_
 try dsimp only [St.put]
 refine aops_e rfl (e_call_pure rfl rfl rfl (leafHas_pure t p htx) ?_)
 refine aops_n rfl (n_not rfl rfl) ?_
 refine yN ?_
 dsimp only [St.put]
 refine K7 _ ?_
 refine aw_cond rfl (fun hc => ?_) (fun hc => ?_)
 ·have h1 : placeB t p = false := by simpa using hc
  refine yS fun _ K8 => ?_
  refine yR ?_
  refine yA rfl rfl ?_
  refine yA rfl rfl ?_
  refine yN ?_
  dsimp only [St.put]
  refine K8 _ ?_
  refine aw_ret ?_
  refine ends_2 rfl (by constructor) (by constructor) zN zS ?_ ?_
  ·simp [placedC, h1]
  exact vi (by simp [placedEr, htx, h1])
 have h1 : placeB t p = true := by simpa using hc
 refine aw_skip ?_
 refine K6 _ ?_
 refine yS fun _ K9 => ?_
 refine yR ?_
 refine yM rfl rfl ?_
 refine yA rfl rfl ?_
 refine yA rfl rfl ?_
 refine yN ?_
 dsimp only [St.put]
 refine K9 _ ?_
 refine aw_ret ?_
 refine ends_2 rfl (by constructor) (by constructor) zN zS ?_ ?_
 ·simp [placedC, htx, h1]
 exact vi (by simp [placedEr, htx, h1])
theorem leafAt_pure (t : TextD) (p : PlaceD) : Pure Tryz.prog 22 [textC t, val p] (.tup [.v (.string (atWord t p)), .v (.int .i64 (placedEr t p))]) := by
 refine pure_of_body Tryz.func22 rfl (fun m => .tup (low_cons .v (low_cons .v low_nil))) fun G nx => ?_
 simp only [Tryz.ntmps22, List.length_cons, List.length_nil, Nat.reduceAdd, Nat.reduceSub]
 refine aw_lt fun hlt => ?_
 dsimp only at hlt
 refine yS fun _ K1 => ?_
 refine yR ?_
 try dsimp only [St.put]
 refine yB rfl rfl rfl ?_
 try dsimp only [St.put]
 refine yB rfl rfl rfl ?_
 refine yA rfl rfl ?_
 refine yA rfl rfl ?_
 refine yN ?_
 dsimp only [St.put]
 refine K1 _ ?_
 refine yS fun _ K2 => ?_
 refine yR ?_
 try dsimp only [St.put]
 refine aops_s rfl (s_load_agg' rfl rfl rfl) ?_
 refine yE rfl rfl rfl ?_
 try dsimp only [St.put]
 refine aops_e rfl (e_call_pure rfl rfl rfl (leafPlaced_pure t p) ?_)
 refine yM rfl rfl ?_
 refine yX rfl rfl rfl rfl ?_
 refine yX rfl rfl rfl rfl ?_
 refine yA rfl rfl ?_
 refine yA rfl rfl ?_
 refine yN ?_
 dsimp only [St.put]
 refine K2 _ ?_
 refine yS fun _ K3 => ?_
 refine yS fun _ K4 => ?_
 refine yR ?_
 refine yM rfl rfl ?_
 refine aops_n rfl (n_neq rfl rfl rfl) ?_
 refine yN ?_
 dsimp only [St.put]
 refine K4 _ ?_
 refine aw_cond rfl (fun hc => ?_) (fun hc => ?_)
 ·have h0 : ¬ placedEr t p = 0 := nd_t hc
  have h1 : (textB t && placeB t p) = false := by
   cases h : textB t <;> cases h' : placeB t p <;> simp [placedEr, h, h'] at h0 ⊢
  refine yS fun _ K5 => ?_
  refine yR ?_
  refine yM rfl rfl ?_
  refine yA rfl rfl ?_
  refine yA rfl rfl ?_
  refine yN ?_
  dsimp only [St.put]
  refine K5 _ ?_
  refine aw_ret ?_
  refine ends_2 rfl (by constructor) (by constructor) zN zS ?_ ?_
  ·exact vs (by simp [atWord, h1])
  rfl
 have h0 : placedEr t p = 0 := nd_f hc
 have h1 : textB t = true ∧ placeB t p = true := by
  cases h : textB t <;> cases h' : placeB t p <;> simp [placedEr, h, h'] at h0 ⊢
 obtain ⟨l, hw, hw1, hw2⟩ := placeB_true.1 h1.2
 obtain ⟨s, hs⟩ : ∃ s, l[p.wd.toNat]? = some s := some_of_lt (by omega)
 have hwd : p.wd = ((p.wd.toNat : Nat) : Int) := by omega
 have hs' : ((wordsOf t (p.ch, p.ln)).getD [])[p.wd.toNat]? = some s := by rw [hw]; exact hs
 rw [show placedC t p = .elem [lst t] by simp [placedC, h1]]
 refine aw_skip ?_
 refine K3 _ ?_
 refine yS fun _ K6 => ?_
 refine aw_draw [(0, none), (1, none), (3, none), (4, none), (2, none), (5, none), (6, none), (7, none), (8, none)] (fun i => [6].contains i) (fun i => [2, 6].contains i) (fun i => [0, 3, 5, 7, 8].contains i) [] (by kernel_rfl) (by kernel_rfl) ?_
 refine xM rfl rfl rfl rfl rfl ?_
 try dsimp only [St.put]
 refine acan1_s rfl rfl rfl rfl (s_load_agg' rfl rfl (Enc.len _)) ?_
 refine acan1_n rfl rfl rfl rfl (n_fieldAddr' rfl rfl rfl) ?_
 try dsimp only [St.put]
 refine acan1_s rfl rfl rfl rfl (s_load rfl rfl) ?_
 refine acan1_two ?_
 try dsimp only [St.put]
 refine acan2_e rfl rfl rfl (e_call_pure rfl rfl rfl (leafLine_pure t p h1.1) ⟨zD, ?_⟩)
 try dsimp only [St.put]
 refine acan2_n rfl rfl rfl rfl (n_indexAddr (k := p.wd.toNat) rfl rfl rfl (by exact hwd) (map_get hs') (Enc.len _)) ?_
 try dsimp only [St.put]
 refine acan2_late rfl rfl rfl rfl (SStep.e' (s_load (D := fun _ => True) rfl rfl) ?_)
 refine acan2_n rfl rfl rfl rfl (n_as rfl (by constructor)) ?_
 refine acan2_n rfl rfl rfl rfl (n_as rfl (by constructor)) ?_
 refine acan2_nil ?_
 dsimp only [St.put]
 refine K6 _ ?_
 refine aw_ret ?_
 refine ends_2 rfl (by constructor) (by constructor) zN zS ?_ ?_
 ·exact vs (by simp [atWord, h1, hw, hs])
 exact vi h0.symm
/-! ### Books -/
end Go.Proofs.YtejhjijbgceklaaGreatDoor
