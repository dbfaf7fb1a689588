/-
 Contracts of the program's functions of charts: references, and where they lead.
-/
import Derived.Test.YtjjklfgpffgnfabGreatDoorEbRef
import Derived.Test.YtjjklfgpffgnfabGreatDoorCyPlain
namespace Go.AB
open Go Go.RowKit
open Go.AB.Enc (cells)
open Go.PB (Chap TextD PlaceD ReadingD CopyD WayD)
def openC (t : TextD) : C := bif textB t then .elem [lst t] else .v (.pointer none)
theorem openC_low (t : TextD) (m : Nat) : (openC t).low m := by
 unfold openC
 cases textB t
 ·exact .v
 exact .elem (low_cons (lst_low _ _) low_nil)
def placedEr (t : TextD) (p : PlaceD) : Int := bif textB t then (bif placeB t p then 0 else 12) else 10
def placedC (t : TextD) (p : PlaceD) : C := bif textB t && placeB t p then .elem [lst t] else .v (.pointer none)
theorem placedC_low (t : TextD) (p : PlaceD) (m : Nat) : (placedC t p).low m := by
 unfold placedC
 cases textB t && placeB t p
 ·exact .v
 exact .elem (low_cons (lst_low _ _) low_nil)
def atWord (t : TextD) (p : PlaceD) : ByteArray := bif textB t && placeB t p then (((wordsOf t (p.ch, p.ln)).getD [])[p.wd.toNat]?).getD ⟨#[]⟩ else ⟨#[]⟩
theorem placeB_len {t : TextD} {p : PlaceD} : placeB t p = inAll 0 ((((wordsOf t (p.ch, p.ln)).getD []).length : Int) - 1) [p.wd] := by
 rw [inAll_one]
 unfold placeB
 cases wordsOf t (p.ch, p.ln) with
 | some l => rfl
 | none =>
  rw [eq_comm, Bool.eq_false_iff]
  intro h
  rw [inB_true] at h
  simp at h
  omega
/-- the reference by a map -/
def rfV (f : L2 → Option L2) (p : PlaceD) : RefD := match f (p.ch, p.ln) with
 | some v => ⟨v.1, v.2, p.wd + 1⟩
 | none => ⟨0, 0, 0⟩
def ldO (t : TextD) (b : L2 → Option L2) (r : RefD) : Option PlaceD := match b (r.ch, r.ln) with
 | none => none
 | some p => bif decide ((((wordsOf t p).getD []).length : Int) < r.wd) then none else some ⟨p.1, p.2, r.wd - 1⟩
theorem ldO_lead (t : TextD) (ss : List StretchD) (r : RefD) : ldO t (backOf ss) r = leadO t ss r := rfl
theorem capp_v {f : L2 → Option L2} {p v : L2} (h : f p = some v) : (capp f p).getD (constC (.agg #[.int .i64 0, .int .i64 0])) = .agg [.v (.int .i64 v.1), .v (.int .i64 v.2)] := by simp [capp, h, pairC]
end Go.AB
namespace Go.Proofs.YtjjklfgpffgnfabGreatDoor
set_option maxRecDepth 10000
open Go.RowKit Go.AB
open Go.AB.Enc (cells)
open Go.PB (Chap TextD PlaceD ReadingD CopyD WayD)
theorem leafOpen_pure (t : TextD) : Pure Tryz.prog 92 [textC t] (.tup [openC t, .v (.int .i64 (textEr t))]) := by
 refine pure_of_body Tryz.func92 rfl (fun m => .tup (low_cons (openC_low _ _) (low_cons .v low_nil))) fun G nx => ?_
 simp only [Tryz.ntmps92, List.length_cons, List.length_nil, Nat.reduceAdd, Nat.reduceSub]
 refine aw_lt fun hlt => ?_
 dsimp only at hlt
 refine yS fun _ K1 => ?_
 refine yR ?_
 try dsimp only [St.put]
 refine yB rfl rfl rfl ?_
 refine yA rfl rfl ?_
 refine yA rfl rfl ?_
 refine yN ?_
 dsimp only [St.put]
 refine K1 _ ?_
 refine yS fun _ K2 => ?_
 refine yS fun _ K3 => ?_
 refine yR ?_
 try dsimp only [St.put]
 refine aops_s rfl (s_load_agg' rfl rfl rfl) ?_
 try dsimp only [St.put]
 refine aops_e rfl (e_call_pure rfl rfl rfl (leafCheck_pure t) ?_)
 refine yA rfl rfl ?_
 refine yN ?_
 dsimp only [St.put]
 refine K3 _ ?_
 refine yS fun _ K4 => ?_
 refine yR ?_
 refine yM rfl rfl ?_
 refine aops_n rfl (n_neq rfl rfl rfl) ?_
 refine yN ?_
 dsimp only [St.put]
 refine K4 _ ?_
 refine aw_cond rfl (fun hc => ?_) (fun hc => ?_)
 ·have htx : textB t = false := by
   cases h : textB t
   ·rfl
   simp [textEr, h] at hc
  refine yS fun _ K5 => ?_
  refine yR ?_
  refine yM rfl rfl ?_
  refine yA rfl rfl ?_
  refine yA rfl rfl ?_
  refine yN ?_
  dsimp only [St.put]
  refine K5 _ ?_
  refine aw_ret ?_
  refine ends_2 rfl (by constructor) (by constructor) zN zS ?_ ?_
  ·simp [openC, htx]
  rfl
 have htx : textB t = true := by
  cases h : textB t
  ·simp [textEr, h] at hc
  rfl
 refine aw_skip ?_
 refine K2 _ ?_
 refine yS fun _ K6 => ?_
 refine yR ?_
 try dsimp only [St.put]
 refine aops_s rfl (s_load_agg' rfl rfl rfl) ?_
 refine aops_n rfl (n_build rfl rfl) ?_
 try dsimp only [St.put]
 refine aops_e rfl (e_box (cs := [lst t]) rfl rfl (by simp) ?_)
 refine yA rfl rfl ?_
 refine yA rfl rfl ?_
 refine yN ?_
 dsimp only [St.put]
 refine K6 _ ?_
 refine aw_ret ?_
 refine ends_2 rfl (by constructor) (by constructor) zN zS ?_ ?_
 ·simp [openC, htx]
 exact vi (by simp [textEr, htx])
theorem leafLine_pure (t : TextD) (p : PlaceD) (ht : textB t = true) : Pure Tryz.prog 121 [.elem [lst t], val p] (lst ((wordsOf t (p.ch, p.ln)).getD [])) := by
 refine pure_of_body Tryz.func121 rfl (fun m => (lst_low _ _)) fun G nx => ?_
 simp only [Tryz.ntmps121, List.length_cons, List.length_nil, Nat.reduceAdd, Nat.reduceSub]
 refine aw_lt fun hlt => ?_
 dsimp only at hlt
 obtain ⟨hl1, hl2, hl3⟩ := text_ok ht
 refine yS fun _ K1 => ?_
 refine yR ?_
 try dsimp only [St.put]
 refine yB rfl rfl rfl ?_
 refine yA rfl rfl ?_
 refine yN ?_
 dsimp only [St.put]
 refine K1 _ ?_
 refine yS fun _ K2 => ?_
 refine aw_wipe 5 ?_
 simp only [firsts, getA, Nat.reduceAdd, List.getD_cons_zero, List.getD_cons_succ, List.getD_nil, natBeq, Nat.reduceBEq, cond_true, cond_false]
 refine aw_cutD (X := Bool) (fun b => b = !(wordsOf t (p.ch, p.ln)).isSome) (fun b => [(35, .v (.bool b))]) (fun b G' => G') rfl ?_ (fun _ _ _ _ h => .inl h) ?_ ?_
 ·rintro b hI
  exact zL
 ·refine aw_drawT [(0, none), (1, none), (2, none), (3, none), (4, none), (5, none), (6, none), (7, none), (8, none)] (fun _ => false) (fun i => [0, 1, 2, 3, 5, 6, 7].contains i) 22 [true, true, true, true, true, true, true, true, true, false, false, false, false, false, false, false, false, false, false, false, false, false, false, false, false, false, false, false, false, false, false] (by kernel_rfl) (by kernel_rfl) ?_
  refine xM rfl rfl rfl rfl rfl ?_
  refine acan1_n rfl rfl rfl rfl (n_nilCheck rfl rfl) ?_
  refine acan1_n rfl rfl rfl rfl (n_fieldAddr' rfl rfl rfl) ?_
  refine acan1_n rfl rfl rfl rfl (n_fieldAddr' rfl rfl rfl) ?_
  try dsimp only [St.put]
  refine acan1_s rfl rfl rfl rfl (s_load rfl rfl) ?_
  refine acan1_n rfl rfl rfl rfl (n_len' rfl rfl (List.length_map _)) ?_
  refine acan1_n rfl rfl rfl rfl (n_sub rfl rfl rfl (by omega)) ?_
  refine acan1_n rfl rfl rfl rfl (n_fieldAddr' rfl rfl rfl) ?_
  try dsimp only [St.put]
  refine acan1_s rfl rfl rfl rfl (s_load rfl rfl) ?_
  refine acan1_nil ?_
  refine aany_step [9] (by kernel_rfl) (by simp) ?_
  refine aeach_cons ?_ ?_
  ·try dsimp only [St.put]
   refine aone_e rfl rfl rfl (e_buildSlice rfl rfl rfl (by decide) (by decide) zR (by decide) ?_)
   refine aany_step [10] (by kernel_rfl) (by simp) ?_
   refine aeach_cons ?_ ?_
   ·try dsimp only [St.put]
    refine aone_e rfl rfl rfl (e_call_pure rfl rfl rfl (leafIn_pure _ _ [p.ch]) ?_)
    refine aany_quiet [(11, none), (12, none), (13, none), (14, none), (15, none), (16, none), (17, none), (18, none), (19, none), (20, none), (21, none), (22, none), (23, none), (24, none), (25, none), (26, none)] (fun i => [11, 12, 13, 14, 15, 16, 18, 20, 21, 23, 24, 25].contains i) 4 [true, true, true, true, true, true, true, true, true, true, true, true, true, true, true, true, true, true, true, true, true, true, true, true, true, true, true, false, false, false, false] (by kernel_rfl) ?_
    refine acan1_n rfl rfl rfl rfl (n_not rfl rfl) ?_
    refine xM rfl rfl rfl rfl rfl ?_
    refine acan1_split (fun hs => ?_) (fun hs => ?_)
    ·have h8 : inB p.ch 0 ((t.length : Int) - 1) = false := by rw [inAll_one] at hs; simpa using hs
     refine acan1_skip rfl rfl rfl ?_
     refine acan1_skip rfl rfl rfl ?_
     refine acan1_skip rfl rfl rfl ?_
     refine acan1_skip rfl rfl rfl ?_
     refine acan1_skip rfl rfl rfl ?_
     refine acan1_skip rfl rfl rfl ?_
     refine acan1_skip rfl rfl rfl ?_
     refine acan1_skip rfl rfl rfl ?_
     refine acan1_skip rfl rfl rfl ?_
     refine acan1_skip rfl rfl rfl ?_
     refine acan1_skip rfl rfl rfl ?_
     refine acan1_skip rfl rfl rfl ?_
     refine acan1_skip rfl rfl rfl ?_
     refine acan1_skip rfl rfl rfl ?_
     refine acan1_nil ?_
     refine aany_step [27] (by kernel_rfl) (by simp) ?_
     refine aeach_cons ?_ ?_
     ·refine aone_skip rfl rfl rfl ?_
      refine aany_step [28] (by kernel_rfl) (by simp) ?_
      refine aeach_cons ?_ ?_
      ·refine aone_skip rfl rfl rfl ?_
       refine aany_quiet [(29, none), (30, none)] (fun i => [29, 30].contains i) 0 [true, true, true, true, true, true, true, true, true, true, true, true, true, true, true, true, true, true, true, true, true, true, true, true, true, true, true, true, true, true, true] (by kernel_rfl) ?_
       refine acan1_skip rfl rfl rfl ?_
       refine acan1_n rfl rfl rfl rfl (n_pt rfl rfl (by constructor)) ?_
       refine acan1_nil ?_
       dsimp only [St.put]
       refine aany_nil (by kernel_rfl) ?_
       refine ⟨_, ?_, ⟨⟨rfl, rfl⟩, zF, zB, zN, zX⟩⟩
       rw [wordsOf_isSome]
       (simp [h8]; done)
      exact aeach_nil
     exact aeach_nil
    have h8 : inB p.ch 0 ((t.length : Int) - 1) = true := by rw [inAll_one] at hs; simpa using hs
    have hn1' := h8
    simp only [inB_true] at hn1'
    obtain ⟨c, hcx⟩ : ∃ c, t[p.ch.toNat]? = some c := some_of_lt (by omega)
    have hnl : nlines t p.ch = c.lines.length := by simp [nlines, hcx]
    have hll := (hl3 c (mem_of_get hcx)).2.1
    have hch : p.ch = ((p.ch.toNat : Nat) : Int) := by omega
    refine xM rfl rfl rfl rfl rfl ?_
    refine acan1_n rfl rfl rfl rfl (n_nilCheck rfl rfl) ?_
    refine acan1_n rfl rfl rfl rfl (n_fieldAddr' rfl rfl rfl) ?_
    refine acan1_n rfl rfl rfl rfl (n_fieldAddr' rfl rfl rfl) ?_
    try dsimp only [St.put]
    refine acan1_s rfl rfl rfl rfl (s_load rfl rfl) ?_
    refine acan1_n rfl rfl rfl rfl (n_fieldAddr' rfl rfl rfl) ?_
    try dsimp only [St.put]
    refine acan1_s rfl rfl rfl rfl (s_load rfl rfl) ?_
    try dsimp only [St.put]
    refine acan1_n rfl rfl rfl rfl (n_indexAddr rfl rfl rfl (by omega) (map_get (by assumption)) (Enc.len _)) ?_
    refine acan1_n rfl rfl rfl rfl (n_fieldAddr' rfl rfl rfl) ?_
    try dsimp only [St.put]
    refine acan1_s rfl rfl rfl rfl (s_load rfl rfl) ?_
    refine acan1_n rfl rfl rfl rfl (n_len' rfl rfl (List.length_map _)) ?_
    refine acan1_n rfl rfl rfl rfl (n_sub rfl rfl rfl (by omega)) ?_
    refine acan1_n rfl rfl rfl rfl (n_fieldAddr' rfl rfl rfl) ?_
    try dsimp only [St.put]
    refine acan1_s rfl rfl rfl rfl (s_load rfl rfl) ?_
    refine acan1_nil ?_
    refine aany_step [27] (by kernel_rfl) (by simp) ?_
    refine aeach_cons ?_ ?_
    ·try dsimp only [St.put]
     refine aone_e rfl rfl rfl (e_buildSlice rfl rfl rfl (by decide) (by decide) zR (by decide) ?_)
     refine aany_step [28] (by kernel_rfl) (by simp) ?_
     refine aeach_cons ?_ ?_
     ·try dsimp only [St.put]
      refine aone_e rfl rfl rfl (e_call_pure rfl rfl rfl (leafIn_pure _ _ [p.ln]) ?_)
      refine aany_quiet [(29, none), (30, none)] (fun i => [29, 30].contains i) 0 [true, true, true, true, true, true, true, true, true, true, true, true, true, true, true, true, true, true, true, true, true, true, true, true, true, true, true, true, true, true, true] (by kernel_rfl) ?_
      refine acan1_n rfl rfl rfl rfl (n_not rfl rfl) ?_
      refine acan1_n rfl rfl rfl rfl (n_pf rfl rfl (by constructor)) ?_
      refine acan1_nil ?_
      dsimp only [St.put]
      refine aany_nil (by kernel_rfl) ?_
      refine ⟨_, ?_, ⟨⟨rfl, rfl⟩, zF, zB, zN, zX⟩⟩
      rw [wordsOf_isSome]
      (simp [h8, hnl, inAll_one]; done)
     exact aeach_nil
    exact aeach_nil
   exact aeach_nil
  exact aeach_nil
 rintro b hst
 dsimp only at hst ⊢
 refine aw_cond rfl (fun hc => ?_) (fun hc => ?_)
 ·have hw : wordsOf t (p.ch, p.ln) = none := by rw [hc] at hst; simpa using hst.symm
  refine yS fun _ K4 => ?_
  refine yR ?_
  refine yA rfl rfl ?_
  refine yN ?_
  dsimp only [St.put]
  refine K4 _ ?_
  refine aw_ret ?_
  refine ends_v1 rfl (rv_tmp (by constructor)) zN zS ?_
  rw [hw]
  exact zW
 have hw0 : (wordsOf t (p.ch, p.ln)).isSome = true := by rw [hc] at hst; simpa using hst.symm
 obtain ⟨l, hw⟩ := Option.isSome_iff_exists.1 hw0
 obtain ⟨k, n, c, hkn, hk, hn⟩ := wordsOf_some hw
 have hch : p.ch = ((k : Nat) : Int) := congrArg Prod.fst hkn
 have hln : p.ln = ((n : Nat) : Int) := congrArg Prod.snd hkn
 refine aw_skip ?_
 refine K2 _ ?_
 refine yS fun _ K5 => ?_
 refine aw_draw [(0, none), (1, none), (2, none), (3, none), (4, none), (5, none), (6, none), (7, none), (8, none), (9, none), (10, none), (11, none), (12, none), (13, none), (14, none)] (fun i => [].contains i) (fun i => [].contains i) (fun i => [0, 1, 2, 3, 5, 7, 8, 10, 12, 14].contains i) [] (by kernel_rfl) (by kernel_rfl) ?_
 refine xM rfl rfl rfl rfl rfl ?_
 refine acan1_n rfl rfl rfl rfl (n_nilCheck rfl rfl) ?_
 refine acan1_n rfl rfl rfl rfl (n_fieldAddr' rfl rfl rfl) ?_
 refine acan1_n rfl rfl rfl rfl (n_fieldAddr' rfl rfl rfl) ?_
 try dsimp only [St.put]
 refine acan1_s rfl rfl rfl rfl (s_load rfl rfl) ?_
 refine acan1_n rfl rfl rfl rfl (n_fieldAddr' rfl rfl rfl) ?_
 try dsimp only [St.put]
 refine acan1_s rfl rfl rfl rfl (s_load rfl rfl) ?_
 try dsimp only [St.put]
 refine acan1_n rfl rfl rfl rfl (n_indexAddr rfl rfl rfl (by omega) (map_get (by assumption)) (Enc.len _)) ?_
 refine acan1_n rfl rfl rfl rfl (n_fieldAddr' rfl rfl rfl) ?_
 try dsimp only [St.put]
 refine acan1_s rfl rfl rfl rfl (s_load rfl rfl) ?_
 refine acan1_n rfl rfl rfl rfl (n_fieldAddr' rfl rfl rfl) ?_
 try dsimp only [St.put]
 refine acan1_s rfl rfl rfl rfl (s_load rfl rfl) ?_
 try dsimp only [St.put]
 refine acan1_n rfl rfl rfl rfl (n_indexAddr rfl rfl rfl (by omega) (map_get (by assumption)) (Enc.len _)) ?_
 try dsimp only [St.put]
 refine acan1_s rfl rfl rfl rfl (s_load rfl rfl) ?_
 refine acan1_n rfl rfl rfl rfl (n_as rfl (by constructor)) ?_
 refine acan1_nil ?_
 dsimp only [St.put]
 refine K5 _ ?_
 refine aw_ret ?_
 refine ends_v1 rfl (rv_tmp (by constructor)) zN zS ?_
 rw [hw]
 exact zW
theorem leafHas_pure (t : TextD) (p : PlaceD) (ht : textB t = true) : Pure Tryz.prog 93 [.elem [lst t], val p] (.v (.bool (placeB t p))) := by
 refine pure_of_body Tryz.func93 rfl (fun m => .v) fun G nx => ?_
 simp only [Tryz.ntmps93, List.length_cons, List.length_nil, Nat.reduceAdd, Nat.reduceSub]
 refine aw_lt fun hlt => ?_
 dsimp only at hlt
 have hwl := words_len ht (p.ch, p.ln)
 refine yS fun _ K1 => ?_
 refine yR ?_
 try dsimp only [St.put]
 refine yB rfl rfl rfl ?_
 refine yA rfl rfl ?_
 refine yN ?_
 dsimp only [St.put]
 refine K1 _ ?_
 refine yS fun _ K2 => ?_
 refine aw_drawT [(0, none), (1, none), (5, none), (6, none)] (fun _ => false) (fun i => [0, 5].contains i) 6 [true, true, false, false, false, true, true, false, false, false] (by kernel_rfl) (by kernel_rfl) ?_
 refine xM rfl rfl rfl rfl rfl ?_
 try dsimp only [St.put]
 refine acan1_s rfl rfl rfl rfl (s_load_agg' rfl rfl (Enc.len _)) ?_
 refine acan1_n rfl rfl rfl rfl (n_fieldAddr' rfl rfl rfl) ?_
 try dsimp only [St.put]
 refine acan1_s rfl rfl rfl rfl (s_load rfl rfl) ?_
 refine acan1_nil ?_
 refine aany_step [2, 7] (by kernel_rfl) (by simp) ?_
 refine aeach_cons ?_ ?_
 ·try dsimp only [St.put]
  refine aone_e rfl rfl rfl (e_call_pure rfl rfl rfl (leafLine_pure t p ht) ?_)
  refine aany_quiet [(3, none), (4, none)] (fun i => [3, 4].contains i) 3 [true, true, true, true, true, true, true, false, false, false] (by kernel_rfl) ?_
  refine acan1_n rfl rfl rfl rfl (n_len' rfl rfl (List.length_map _)) ?_
  refine acan1_n rfl rfl rfl rfl (n_sub rfl rfl rfl (by omega)) ?_
  refine acan1_nil ?_
  refine aany_step [7] (by kernel_rfl) (by simp) ?_
  refine aeach_cons ?_ ?_
  ·try dsimp only [St.put]
   refine aone_e rfl rfl rfl (e_buildSlice rfl rfl rfl (by decide) (by decide) zR (by decide) ?_)
   refine aany_step [8] (by kernel_rfl) (by simp) ?_
   refine aeach_cons ?_ ?_
   ·try dsimp only [St.put]
    refine aone_e rfl rfl rfl (e_call_pure rfl rfl rfl (leafIn_pure _ _ [p.wd]) ?_)
    refine aany_quiet [(9, none)] (fun i => [9].contains i) 0 [true, true, true, true, true, true, true, true, true, true] (by kernel_rfl) ?_
    refine acan1_n rfl rfl rfl rfl (n_as rfl (by constructor)) ?_
    refine acan1_nil ?_
    dsimp only [St.put]
    refine aany_nil (by kernel_rfl) ?_
    refine K2 _ ?_
    refine aw_ret ?_
    refine ends_1 rfl (by constructor) zN zS ?_
    exact vb placeB_len.symm
   exact aeach_nil
  exact aeach_nil
 refine aeach_cons ?_ ?_
 ·try dsimp only [St.put]
  refine aone_e rfl rfl rfl (e_buildSlice rfl rfl rfl (by decide) (by decide) zR (by decide) ?_)
  refine aany_step [2] (by kernel_rfl) (by simp) ?_
  refine aeach_cons ?_ ?_
  ·try dsimp only [St.put]
   refine aone_e rfl rfl rfl (e_call_pure rfl rfl rfl (leafLine_pure t p ht) ?_)
   refine aany_quiet [(3, none), (4, none)] (fun i => [3, 4].contains i) 2 [true, true, true, true, true, true, true, true, false, false] (by kernel_rfl) ?_
   refine acan1_n rfl rfl rfl rfl (n_len' rfl rfl (List.length_map _)) ?_
   refine acan1_n rfl rfl rfl rfl (n_sub rfl rfl rfl (by omega)) ?_
   refine acan1_nil ?_
   refine aany_step [8] (by kernel_rfl) (by simp) ?_
   refine aeach_cons ?_ ?_
   ·try dsimp only [St.put]
    refine aone_e rfl rfl rfl (e_call_pure rfl rfl rfl (leafIn_pure _ _ [p.wd]) ?_)
    refine aany_quiet [(9, none)] (fun i => [9].contains i) 0 [true, true, true, true, true, true, true, true, true, true] (by kernel_rfl) ?_
    refine acan1_n rfl rfl rfl rfl (n_as rfl (by constructor)) ?_
    refine acan1_nil ?_
    dsimp only [St.put]
    refine aany_nil (by kernel_rfl) ?_
    refine K2 _ ?_
    refine aw_ret ?_
    refine ends_1 rfl (by constructor) zN zS ?_
    exact vb placeB_len.symm
   exact aeach_nil
  exact aeach_nil
 exact aeach_nil
theorem leafPlaced_pure (t : TextD) (p : PlaceD) : Pure Tryz.prog 67 [textC t, val p] (.tup [placedC t p, .v (.int .i64 (placedEr t p))]) := by
 refine pure_of_body Tryz.func67 rfl (fun m => .tup (low_cons (placedC_low _ _ _) (low_cons .v low_nil))) fun G nx => ?_
 simp only [Tryz.ntmps67, List.length_cons, List.length_nil, Nat.reduceAdd, Nat.reduceSub]
 refine aw_lt fun hlt => ?_
 dsimp only at hlt
 refine yS fun _ K1 => ?_
 refine yR ?_
 try dsimp only [St.put]
 refine yB rfl rfl rfl ?_
 try dsimp only [St.put]
 refine yB rfl rfl rfl ?_
 refine yA rfl rfl ?_
 refine yA rfl rfl ?_
 refine yN ?_
 dsimp only [St.put]
 refine K1 _ ?_
 refine yS fun _ K2 => ?_
 refine yR ?_
 try dsimp only [St.put]
 refine aops_s rfl (s_load_agg' rfl rfl rfl) ?_
 try dsimp only [St.put]
 refine aops_e rfl (e_call_pure rfl rfl rfl (leafOpen_pure t) ?_)
 refine yM rfl rfl ?_
 refine yX rfl rfl rfl rfl ?_
 refine yX rfl rfl rfl rfl ?_
 refine yA rfl rfl ?_
 refine yA rfl rfl ?_
 refine yN ?_
 dsimp only [St.put]
 refine K2 _ ?_
 refine yS fun _ K3 => ?_
 refine yS fun _ K4 => ?_
 refine yR ?_
 refine yM rfl rfl ?_
 refine aops_n rfl (n_neq rfl rfl rfl) ?_
 refine yN ?_
 dsimp only [St.put]
 refine K4 _ ?_
 refine aw_cond rfl (fun hc => ?_) (fun hc => ?_)
 ·have htx : textB t = false := by
   cases h : textB t
   ·rfl
   simp [textEr, h] at hc
  refine yS fun _ K5 => ?_
  refine yR ?_
  refine yM rfl rfl ?_
  refine yA rfl rfl ?_
  refine yA rfl rfl ?_
  refine yN ?_
  dsimp only [St.put]
  refine K5 _ ?_
  refine aw_ret ?_
  refine ends_2 rfl (by constructor) (by constructor) zN zS ?_ ?_
  ·simp [placedC, htx]
  exact vi (by simp [placedEr, textEr, htx])
 have htx : textB t = true := by
  cases h : textB t
  ·simp [textEr, h] at hc
  rfl
 rw [show openC t = .elem [lst t] by simp [openC, htx]]
 refine aw_skip ?_
 refine K3 _ ?_
 refine yS fun _ K6 => ?_
 refine yS fun _ K7 => ?_
 refine yR ?_
 refine yM rfl rfl ?_
 refine yE rfl rfl rfl ?_
 try dsimp only [St.put]
 refine aops_e rfl (e_call_pure rfl rfl rfl (leafHas_pure t p htx) ?_)
 refine aops_n rfl (n_not rfl rfl) ?_
 refine yN ?_
 dsimp only [St.put]
 refine K7 _ ?_
 refine aw_cond rfl (fun hc => ?_) (fun hc => ?_)
 ·have h1 : placeB t p = false := by simpa using hc
  refine yS fun _ K8 => ?_
  refine yR ?_
  refine yA rfl rfl ?_
  refine yA rfl rfl ?_
  refine yN ?_
  dsimp only [St.put]
  refine K8 _ ?_
  refine aw_ret ?_
  refine ends_2 rfl (by constructor) (by constructor) zN zS ?_ ?_
  ·simp [placedC, h1]
  exact vi (by simp [placedEr, htx, h1])
 have h1 : placeB t p = true := by simpa using hc
 refine aw_skip ?_
 refine K6 _ ?_
 refine yS fun _ K9 => ?_
 refine yR ?_
 refine yM rfl rfl ?_
 refine yA rfl rfl ?_
 refine yA rfl rfl ?_
 refine yN ?_
 dsimp only [St.put]
 refine K9 _ ?_
 refine aw_ret ?_
 refine ends_2 rfl (by constructor) (by constructor) zN zS ?_ ?_
 ·simp [placedC, htx, h1]
 exact vi (by simp [placedEr, htx, h1])
theorem leafAt_pure (t : TextD) (p : PlaceD) : Pure Tryz.prog 84 [textC t, val p] (.tup [.v (.string (atWord t p)), .v (.int .i64 (placedEr t p))]) := by
 refine pure_of_body Tryz.func84 rfl (fun m => .tup (low_cons .v (low_cons .v low_nil))) fun G nx => ?_
 simp only [Tryz.ntmps84, List.length_cons, List.length_nil, Nat.reduceAdd, Nat.reduceSub]
 refine aw_lt fun hlt => ?_
 dsimp only at hlt
 refine yS fun _ K1 => ?_
 refine yR ?_
 try dsimp only [St.put]
 refine yB rfl rfl rfl ?_
 try dsimp only [St.put]
 refine yB rfl rfl rfl ?_
 refine yA rfl rfl ?_
 refine yA rfl rfl ?_
 refine yN ?_
 dsimp only [St.put]
 refine K1 _ ?_
 refine yS fun _ K2 => ?_
 refine yR ?_
 try dsimp only [St.put]
 refine aops_s rfl (s_load_agg' rfl rfl rfl) ?_
 refine yE rfl rfl rfl ?_
 try dsimp only [St.put]
 refine aops_e rfl (e_call_pure rfl rfl rfl (leafPlaced_pure t p) ?_)
 refine yM rfl rfl ?_
 refine yX rfl rfl rfl rfl ?_
 refine yX rfl rfl rfl rfl ?_
 refine yA rfl rfl ?_
 refine yA rfl rfl ?_
 refine yN ?_
 dsimp only [St.put]
 refine K2 _ ?_
 refine yS fun _ K3 => ?_
 refine yS fun _ K4 => ?_
 refine yR ?_
 refine yM rfl rfl ?_
 refine aops_n rfl (n_neq rfl rfl rfl) ?_
 refine yN ?_
 dsimp only [St.put]
 refine K4 _ ?_
 refine aw_cond rfl (fun hc => ?_) (fun hc => ?_)
 ·have h0 : ¬ placedEr t p = 0 := nd_t hc
  have h1 : (textB t && placeB t p) = false := by
   cases h : textB t <;> cases h' : placeB t p <;> simp [placedEr, h, h'] at h0 ⊢
  refine yS fun _ K5 => ?_
  refine yR ?_
  refine yM rfl rfl ?_
  refine yA rfl rfl ?_
  refine yA rfl rfl ?_
  refine yN ?_
  dsimp only [St.put]
  refine K5 _ ?_
  refine aw_ret ?_
  refine ends_2 rfl (by constructor) (by constructor) zN zS ?_ ?_
  ·exact vs (by simp [atWord, h1])
  rfl
 have h0 : placedEr t p = 0 := nd_f hc
 have h1 : textB t = true ∧ placeB t p = true := by
  cases h : textB t <;> cases h' : placeB t p <;> simp [placedEr, h, h'] at h0 ⊢
 obtain ⟨l, hw, hw1, hw2⟩ := placeB_true.1 h1.2
 obtain ⟨s, hs⟩ : ∃ s, l[p.wd.toNat]? = some s := some_of_lt (by omega)
 have hwd : p.wd = ((p.wd.toNat : Nat) : Int) := by omega
 have hs' : ((wordsOf t (p.ch, p.ln)).getD [])[p.wd.toNat]? = some s := by rw [hw]; exact hs
 rw [show placedC t p = .elem [lst t] by simp [placedC, h1]]
 refine aw_skip ?_
 refine K3 _ ?_
 refine yS fun _ K6 => ?_
 refine aw_draw [(0, none), (1, none), (3, none), (4, none), (2, none), (5, none), (6, none), (7, none), (8, none)] (fun i => [6].contains i) (fun i => [2, 6].contains i) (fun i => [0, 3, 5, 7, 8].contains i) [] (by kernel_rfl) (by kernel_rfl) ?_
 refine xM rfl rfl rfl rfl rfl ?_
 try dsimp only [St.put]
 refine acan1_s rfl rfl rfl rfl (s_load_agg' rfl rfl (Enc.len _)) ?_
 refine acan1_n rfl rfl rfl rfl (n_fieldAddr' rfl rfl rfl) ?_
 try dsimp only [St.put]
 refine acan1_s rfl rfl rfl rfl (s_load rfl rfl) ?_
 refine acan1_two ?_
 try dsimp only [St.put]
 refine acan2_e rfl rfl rfl (e_call_pure rfl rfl rfl (leafLine_pure t p h1.1) ⟨zD, ?_⟩)
 try dsimp only [St.put]
 refine acan2_n rfl rfl rfl rfl (n_indexAddr (k := p.wd.toNat) rfl rfl rfl (by exact hwd) (map_get hs') (Enc.len _)) ?_
 try dsimp only [St.put]
 refine acan2_late rfl rfl rfl rfl (SStep.e' (s_load (D := fun _ => True) rfl rfl) ?_)
 refine acan2_n rfl rfl rfl rfl (n_as rfl (by constructor)) ?_
 refine acan2_n rfl rfl rfl rfl (n_as rfl (by constructor)) ?_
 refine acan2_nil ?_
 dsimp only [St.put]
 refine K6 _ ?_
 refine aw_ret ?_
 refine ends_2 rfl (by constructor) (by constructor) zN zS ?_ ?_
 ·exact vs (by simp [atWord, h1, hw, hs])
 exact vi h0.symm
/-! ### Books -/
theorem bookRefer_pc (t : TextD) (e : EditionD) (n m V : Nat) (f : L2 → Option L2) (p : PlaceD) (hp : -100000 ≤ p.wd ∧ p.wd ≤ 100000) (G : Nat → Option GObj) (nx : Nat) (hn : n < nx) (hm : m < nx) (hG : G n = some (gmap Tryz.prog 95 V (capp f))) :
  PC Tryz.prog 45 [.elem (bookC t e n m), val p] G nx fun r' G' nx' => r' = .tup [val (rfV f p), .v (.bool (f (p.ch, p.ln)).isSome)] ∧ G' = G ∧ nx' = nx := by
 refine pc_named_of_body (G) (nx) Tryz.func45 rfl (.tup (low_cons (val_low _ _) (low_cons .v low_nil))) zN (fun hlt => zH) ?_
 simp only [Tryz.ntmps45, List.length_cons, List.length_nil, Nat.reduceAdd, Nat.reduceSub]
 refine aw_lt fun hlt => ?_
 dsimp only at hlt
 refine yS fun _ K1 => ?_
 refine yR ?_
 try dsimp only [St.put]
 refine yB rfl rfl rfl ?_
 try dsimp only [St.put]
 refine aops_e rfl (e_allocC rfl ?_)
 refine yA rfl rfl ?_
 refine yN ?_
 dsimp only [St.put]
 refine K1 _ ?_
 refine yS fun _ K2 => ?_
 obtain ⟨v1, hv1⟩ : ∃ v : L2, (capp f (p.ch, p.ln)).getD (constC (.agg #[.int .i64 0, .int .i64 0])) = .agg [.v (.int .i64 v.1), .v (.int .i64 v.2)] := capp_get _ _
 obtain ⟨b1, hb1⟩ : ∃ b, (capp f (p.ch, p.ln)).isSome = b := ⟨_, rfl⟩
 have hb2 : (f (p.ch, p.ln)).isSome = b1 := by rw [← hb1]; simp [capp]
 refine aw_draw [(0, none), (1, none), (2, none), (3, none), (4, none), (5, none), (6, none), (7, none), (8, none), (9, none), (10, none), (11, none), (12, none), (13, none), (14, none), (15, none)] (fun i => [14].contains i) (fun i => [13, 14].contains i) (fun i => [0, 1, 2, 4, 6, 8, 10, 11, 12, 15].contains i) [n] (by kernel_rfl) (by kernel_rfl) ?_
 refine xM rfl rfl rfl rfl rfl ?_
 refine acan1_n rfl rfl rfl rfl (n_nilCheck rfl rfl) ?_
 refine acan1_n rfl rfl rfl rfl (n_fieldAddr' rfl rfl rfl) ?_
 try dsimp only [St.put]
 refine acan1_s rfl rfl rfl rfl (s_load rfl rfl) ?_
 refine acan1_n rfl rfl rfl rfl (n_fieldAddr' rfl rfl rfl) ?_
 try dsimp only [St.put]
 refine acan1_s rfl rfl rfl rfl (s_load rfl rfl) ?_
 refine acan1_n rfl rfl rfl rfl (n_fieldAddr' rfl rfl rfl) ?_
 try dsimp only [St.put]
 refine acan1_s rfl rfl rfl rfl (s_load rfl rfl) ?_
 refine acan1_n rfl rfl rfl rfl (n_buildA rfl rfl) ?_
 try dsimp only [St.put]
 refine acan1_s rfl rfl rfl rfl (s_lookupOk' ((p.ch, p.ln) : L2) rfl rfl zG (by simp) rfl hv1 hb1) ?_
 refine xM rfl rfl rfl rfl rfl ?_
 refine acan1_n rfl rfl rfl rfl (n_extract rfl rfl rfl) ?_
 refine acan1_n rfl rfl rfl rfl (n_extract rfl rfl rfl) ?_
 refine acan1_two ?_
 try dsimp only [St.put]
 refine acan2_e rfl rfl rfl (e_allocC rfl ⟨zD, ?_⟩)
 try dsimp only [St.put]
 refine acan2_late rfl rfl rfl rfl (e_store_all rfl rfl rfl zG rfl rfl (by rfl) ?_)
 refine acan2_n rfl rfl rfl rfl (n_as rfl (by constructor)) ?_
 refine acan2_nil ?_
 dsimp only [St.put]
 refine K2 _ ?_
 refine yS fun _ K3 => ?_
 refine yS fun _ K4 => ?_
 refine yR ?_
 refine yM rfl rfl ?_
 refine aops_n rfl (n_not rfl rfl) ?_
 refine yN ?_
 dsimp only [St.put]
 refine K4 _ ?_
 refine aw_cond rfl (fun hc => ?_) (fun hc => ?_)
 ·have hb0 : b1 = false := by simpa using hc
  have hf : f (p.ch, p.ln) = none := by rw [hb0] at hb2; simpa using hb2
  refine yS fun _ K5 => ?_
  refine yR ?_
  refine aops_n rfl (n_build rfl rfl) ?_
  try dsimp only [St.put]
  refine aops_e rfl (e_store_all rfl rfl rfl zG rfl rfl (by rfl) ?_)
  refine yA rfl rfl ?_
  refine yN ?_
  dsimp only [St.put]
  refine K5 _ ?_
  refine aw_ret ?_
  refine ends_v2 rfl (rv_box rfl zG (by rfl) (by first | exact List.cons_ne_nil _ _ | (simp; done) | (simp [putAt]; done)) rfl) (rv_tmp (by constructor)) zN zS ?_ ?_
  ·rw [show rfV f p = ⟨0, 0, 0⟩ by simp [rfV, hf]]
   exact zW
  rw [hf]; exact Wk.refl _
 have hb0 : b1 = true := by simpa using hc
 obtain ⟨v, hf⟩ : ∃ v, f (p.ch, p.ln) = some v := Option.isSome_iff_exists.1 (hb2.trans hb0)
 have hvv : v1 = v := by
  rw [capp_v hf] at hv1
  simp only [C.agg.injEq, List.cons.injEq, C.v.injEq, Value.int.injEq, true_and, and_true] at hv1
  exact (Prod.ext hv1.1 hv1.2).symm
 subst hvv
 refine aw_skip ?_
 refine K3 _ ?_
 refine yS fun _ K6 => ?_
 refine yR ?_
 try dsimp only [St.put]
 refine aops_n rfl (n_indexAddr_avar (k := 0) rfl rfl rfl (by first | exact rfl | omega) (by first | decide | omega)) ?_
 try dsimp only [St.put]
 refine aops_s rfl (s_load_box rfl rfl zG trivial (by first | rfl | assumption)) ?_
 try dsimp only [St.put]
 refine aops_n rfl (n_indexAddr_avar (k := 1) rfl rfl rfl (by first | exact rfl | omega) (by first | decide | omega)) ?_
 try dsimp only [St.put]
 refine aops_s rfl (s_load_box rfl rfl zG trivial (by first | rfl | assumption)) ?_
 refine yF rfl rfl rfl rfl ?_
 refine yL rfl rfl rfl ?_
 refine aops_n rfl (n_add rfl rfl rfl (by omega)) ?_
 refine aops_n rfl (n_build rfl rfl) ?_
 try dsimp only [St.put]
 refine aops_e rfl (e_store_all rfl rfl rfl zG rfl rfl (by rfl) ?_)
 refine yA rfl rfl ?_
 refine yN ?_
 dsimp only [St.put]
 refine K6 _ ?_
 refine aw_ret ?_
 refine ends_v2 rfl (rv_box rfl zG (by rfl) (by first | exact List.cons_ne_nil _ _ | (simp; done) | (simp [putAt]; done)) rfl) (rv_tmp (by constructor)) zN zS ?_ ?_
 ·rw [show rfV f p = ⟨v1.1, v1.2, p.wd + 1⟩ by simp [rfV, hf]]
  exact zW
 rw [hf]; exact Wk.refl _
theorem bookLead_pc (t : TextD) (e : EditionD) (n m V : Nat) (b : L2 → Option L2) (r : RefD) (ht : textB t = true) (hb : ∀ q p, b q = some p → ∃ l, wordsOf t p = some l) (hr : refB r = true) (G : Nat → Option GObj) (nx : Nat) (hn : n < nx) (hm : m < nx) (hG : G m = some (gmap Tryz.prog 95 V (capp b))) :
  PC Tryz.prog 43 [.elem (bookC t e n m), val r] G nx fun r' G' nx' => r' = .tup [val ((ldO t b r).getD ⟨0, 0, 0⟩), .v (.bool (ldO t b r).isSome)] ∧ G' = G ∧ nx' = nx := by
 refine pc_named_of_body (G) (nx) Tryz.func43 rfl (.tup (low_cons (val_low _ _) (low_cons .v low_nil))) zN (fun hlt => zH) ?_
 simp only [Tryz.ntmps43, List.length_cons, List.length_nil, Nat.reduceAdd, Nat.reduceSub]
 refine aw_lt fun hlt => ?_
 dsimp only at hlt
 have hr' := hr
 simp only [refB, Bool.and_eq_true, inB_true] at hr'
 refine yS fun _ K1 => ?_
 refine yR ?_
 try dsimp only [St.put]
 refine yB rfl rfl rfl ?_
 try dsimp only [St.put]
 refine aops_e rfl (e_allocC rfl ?_)
 refine yA rfl rfl ?_
 refine yN ?_
 dsimp only [St.put]
 refine K1 _ ?_
 refine yS fun _ K2 => ?_
 obtain ⟨v1, hv1⟩ : ∃ v : L2, (capp b (r.ch, r.ln)).getD (constC (.agg #[.int .i64 0, .int .i64 0])) = .agg [.v (.int .i64 v.1), .v (.int .i64 v.2)] := capp_get _ _
 obtain ⟨b1, hb1⟩ : ∃ x, (capp b (r.ch, r.ln)).isSome = x := ⟨_, rfl⟩
 have hb2 : (b (r.ch, r.ln)).isSome = b1 := by rw [← hb1]; simp [capp]
 refine aw_draw [(0, none), (1, none), (2, none), (3, none), (4, none), (5, none), (6, none), (7, none), (8, none), (9, none), (10, none), (11, none), (12, none), (13, none), (14, none), (15, none)] (fun i => [14].contains i) (fun i => [13, 14].contains i) (fun i => [0, 1, 2, 4, 6, 8, 10, 11, 12, 15].contains i) [m] (by kernel_rfl) (by kernel_rfl) ?_
 refine xM rfl rfl rfl rfl rfl ?_
 refine acan1_n rfl rfl rfl rfl (n_nilCheck rfl rfl) ?_
 refine acan1_n rfl rfl rfl rfl (n_fieldAddr' rfl rfl rfl) ?_
 try dsimp only [St.put]
 refine acan1_s rfl rfl rfl rfl (s_load rfl rfl) ?_
 refine acan1_n rfl rfl rfl rfl (n_fieldAddr' rfl rfl rfl) ?_
 try dsimp only [St.put]
 refine acan1_s rfl rfl rfl rfl (s_load rfl rfl) ?_
 refine acan1_n rfl rfl rfl rfl (n_fieldAddr' rfl rfl rfl) ?_
 try dsimp only [St.put]
 refine acan1_s rfl rfl rfl rfl (s_load rfl rfl) ?_
 refine acan1_n rfl rfl rfl rfl (n_buildA rfl rfl) ?_
 try dsimp only [St.put]
 refine acan1_s rfl rfl rfl rfl (s_lookupOk' ((r.ch, r.ln) : L2) rfl rfl zG (by simp) rfl hv1 hb1) ?_
 refine xM rfl rfl rfl rfl rfl ?_
 refine acan1_n rfl rfl rfl rfl (n_extract rfl rfl rfl) ?_
 refine acan1_n rfl rfl rfl rfl (n_extract rfl rfl rfl) ?_
 refine acan1_two ?_
 try dsimp only [St.put]
 refine acan2_e rfl rfl rfl (e_allocC rfl ⟨zD, ?_⟩)
 try dsimp only [St.put]
 refine acan2_late rfl rfl rfl rfl (e_store_all rfl rfl rfl zG rfl rfl (by rfl) ?_)
 refine acan2_n rfl rfl rfl rfl (n_as rfl (by constructor)) ?_
 refine acan2_nil ?_
 dsimp only [St.put]
 refine K2 _ ?_
 refine aw_commitD (i := 6) rfl zG (by first | exact List.cons_ne_nil _ _ | (simp; done) | (simp [putAt]; done)) ?_
 dsimp only
 refine yS fun _ K3 => ?_
 refine aw_wipe 21 ?_
 simp only [firsts, getA, Nat.reduceAdd, List.getD_cons_zero, List.getD_cons_succ, List.getD_nil, natBeq, Nat.reduceBEq, cond_true, cond_false]
 refine aw_cutD (X := Bool) (fun y => y = !(ldO t b r).isSome) (fun y => [(42, .v (.bool y))]) (fun y G' => G') rfl ?_ (fun _ _ _ _ h => .inl h) ?_ ?_
 ·rintro y hI
  exact zL
 ·refine aw_draw [(0, none), (1, none), (2, none), (3, none), (4, none), (5, none), (6, none), (7, none), (8, none), (9, none), (10, none), (11, none), (12, none), (13, none), (14, none), (15, none), (16, none), (17, none), (18, none), (19, none), (20, none), (21, none)] (fun i => [].contains i) (fun i => [].contains i) (fun i => [0, 1, 2, 3, 5, 6, 7, 8, 10, 12, 13, 15, 17, 19, 20, 21].contains i) [] (by kernel_rfl) (by kernel_rfl) ?_
  refine xM rfl rfl rfl rfl rfl ?_
  refine acan1_n rfl rfl rfl rfl (n_not rfl rfl) ?_
  refine xM rfl rfl rfl rfl rfl ?_
  refine acan1_split (fun hs => ?_) (fun hs => ?_)
  ·have hf : b (r.ch, r.ln) = none := by
    have : b1 = false := by simpa using hs
    rw [this] at hb2; simpa using hb2
   refine acan1_skip rfl rfl rfl ?_
   refine acan1_skip rfl rfl rfl ?_
   refine acan1_skip rfl rfl rfl ?_
   refine acan1_skip rfl rfl rfl ?_
   refine acan1_skip rfl rfl rfl ?_
   refine acan1_skip rfl rfl rfl ?_
   refine acan1_skip rfl rfl rfl ?_
   refine acan1_skip rfl rfl rfl ?_
   refine acan1_skip rfl rfl rfl ?_
   refine acan1_skip rfl rfl rfl ?_
   refine acan1_skip rfl rfl rfl ?_
   refine acan1_skip rfl rfl rfl ?_
   refine acan1_skip rfl rfl rfl ?_
   refine acan1_skip rfl rfl rfl ?_
   refine acan1_skip rfl rfl rfl ?_
   refine acan1_skip rfl rfl rfl ?_
   refine acan1_skip rfl rfl rfl ?_
   refine acan1_skip rfl rfl rfl ?_
   refine acan1_n rfl rfl rfl rfl (n_pt rfl rfl (by constructor)) ?_
   refine acan1_nil ?_
   dsimp only [St.put]
   refine ⟨_, ?_, ⟨⟨rfl, rfl⟩, zF, zB, zN, zX⟩⟩
   (simp [ldO, hf]; done)
  have hb0 : b1 = true := by simpa using hs
  obtain ⟨v, hf⟩ : ∃ v, b (r.ch, r.ln) = some v := Option.isSome_iff_exists.1 (hb2.trans hb0)
  have hvv : v1 = v := by
   rw [capp_v hf] at hv1
   simp only [C.agg.injEq, List.cons.injEq, C.v.injEq, Value.int.injEq, true_and, and_true] at hv1
   exact (Prod.ext hv1.1 hv1.2).symm
  subst hvv
  obtain ⟨l, hw⟩ := hb _ _ hf
  obtain ⟨k, i, c, hkn, hk, hi⟩ := wordsOf_some hw
  have hwl := words_bd ht hw
  have hch : v1.1 = ((k : Nat) : Int) := congrArg Prod.fst hkn
  have hln : v1.2 = ((i : Nat) : Int) := congrArg Prod.snd hkn
  refine acan1_n rfl rfl rfl rfl (n_fieldAddr' rfl rfl rfl) ?_
  try dsimp only [St.put]
  refine acan1_s rfl rfl rfl rfl (s_load rfl rfl) ?_
  refine xM rfl rfl rfl rfl rfl ?_
  refine acan1_n rfl rfl rfl rfl (n_nilCheck rfl rfl) ?_
  refine acan1_n rfl rfl rfl rfl (n_fieldAddr' rfl rfl rfl) ?_
  refine acan1_n rfl rfl rfl rfl (n_fieldAddr' rfl rfl rfl) ?_
  try dsimp only [St.put]
  refine acan1_s rfl rfl rfl rfl (s_load rfl rfl) ?_
  try dsimp only [St.put]
  refine acan1_n rfl rfl rfl rfl (n_indexAddr_aelem (k := 0) rfl rfl rfl (by first | exact rfl | omega) (by first | decide | omega) rfl) ?_
  try dsimp only [St.put]
  refine acan1_s rfl rfl rfl rfl (s_load rfl rfl) ?_
  try dsimp only [St.put]
  refine acan1_n rfl rfl rfl rfl (n_indexAddr rfl rfl rfl (by omega) (map_get (by assumption)) (Enc.len _)) ?_
  refine acan1_n rfl rfl rfl rfl (n_fieldAddr' rfl rfl rfl) ?_
  try dsimp only [St.put]
  refine acan1_s rfl rfl rfl rfl (s_load rfl rfl) ?_
  try dsimp only [St.put]
  refine acan1_n rfl rfl rfl rfl (n_indexAddr_aelem (k := 1) rfl rfl rfl (by first | exact rfl | omega) (by first | decide | omega) rfl) ?_
  try dsimp only [St.put]
  refine acan1_s rfl rfl rfl rfl (s_load rfl rfl) ?_
  try dsimp only [St.put]
  refine acan1_n rfl rfl rfl rfl (n_indexAddr rfl rfl rfl (by omega) (map_get (by assumption)) (Enc.len _)) ?_
  try dsimp only [St.put]
  refine acan1_s rfl rfl rfl rfl (s_load rfl rfl) ?_
  refine acan1_n rfl rfl rfl rfl (n_len' rfl rfl (List.length_map _)) ?_
  refine acan1_n rfl rfl rfl rfl (n_gtr rfl rfl rfl) ?_
  refine acan1_n rfl rfl rfl rfl (n_pf rfl rfl (by constructor)) ?_
  refine acan1_nil ?_
  dsimp only [St.put]
  refine ⟨_, ?_, ⟨⟨rfl, rfl⟩, zF, zB, zN, zX⟩⟩
  (rw [show ldO t b r = bif decide ((((wordsOf t v1).getD []).length : Int) < r.wd) then none else some ⟨v1.1, v1.2, r.wd - 1⟩ by simp [ldO, hf], hw]; simp only [Option.getD_some]; cases hd : decide ((l.length : Int) < r.wd) <;> simp_all)
 rintro y hst
 dsimp only at hst ⊢
 refine aw_cond rfl (fun hc => ?_) (fun hc => ?_)
 ·have hl0 : ldO t b r = none := by rw [hc] at hst; simpa using hst.symm
  refine yS fun _ K5 => ?_
  refine yR ?_
  refine aops_n rfl (n_build rfl rfl) ?_
  try dsimp only [St.put]
  refine aops_e rfl (e_store_all rfl rfl rfl zG rfl rfl (by rfl) ?_)
  refine yA rfl rfl ?_
  refine yN ?_
  dsimp only [St.put]
  refine K5 _ ?_
  refine aw_ret ?_
  refine ends_v2 rfl (rv_box rfl zG (by rfl) (by first | exact List.cons_ne_nil _ _ | (simp; done) | (simp [putAt]; done)) rfl) (rv_tmp (by constructor)) zN zS ?_ ?_
  ·rw [hl0]
   exact zW
  rw [hl0]; exact Wk.refl _
 have hl1 : (ldO t b r).isSome = true := by rw [hc] at hst; simpa using hst.symm
 obtain ⟨v, hf, hlv⟩ : ∃ v, b (r.ch, r.ln) = some v ∧ ldO t b r = some ⟨v.1, v.2, r.wd - 1⟩ := by
  obtain ⟨q, hq⟩ := Option.isSome_iff_exists.1 hl1
  cases hf : b (r.ch, r.ln) with
  | none => simp [ldO, hf] at hq
  | some v =>
   refine ⟨v, rfl, ?_⟩
   simp only [ldO, hf] at hq ⊢
   cases hd : decide ((((wordsOf t v).getD []).length : Int) < r.wd) with
   | true => rw [hd] at hq; cases hq
   | false => rfl
 have hvv : v1 = v := by
  rw [capp_v hf] at hv1
  simp only [C.agg.injEq, List.cons.injEq, C.v.injEq, Value.int.injEq, true_and, and_true] at hv1
  exact (Prod.ext hv1.1 hv1.2).symm
 subst hvv
 refine aw_skip ?_
 refine K3 _ ?_
 refine yS fun _ K6 => ?_
 refine yR ?_
 try dsimp only [St.put]
 refine aops_n rfl (n_indexAddr_aelem (k := 0) rfl rfl rfl (by first | exact rfl | omega) (by first | decide | omega) rfl) ?_
 refine yL rfl rfl rfl ?_
 try dsimp only [St.put]
 refine aops_n rfl (n_indexAddr_aelem (k := 1) rfl rfl rfl (by first | exact rfl | omega) (by first | decide | omega) rfl) ?_
 refine yL rfl rfl rfl ?_
 refine yF rfl rfl rfl rfl ?_
 refine yL rfl rfl rfl ?_
 refine aops_n rfl (n_sub rfl rfl rfl (by omega)) ?_
 refine aops_n rfl (n_build rfl rfl) ?_
 try dsimp only [St.put]
 refine aops_e rfl (e_store_all rfl rfl rfl zG rfl rfl (by rfl) ?_)
 refine yA rfl rfl ?_
 refine yN ?_
 dsimp only [St.put]
 refine K6 _ ?_
 refine aw_ret ?_
 refine ends_v2 rfl (rv_box rfl zG (by rfl) (by first | exact List.cons_ne_nil _ _ | (simp; done) | (simp [putAt]; done)) rfl) (rv_tmp (by constructor)) zN zS ?_ ?_
 ·rw [hlv]
  exact zW
 rw [hlv]; exact Wk.refl _
theorem chartPlaced_ok (t : TextD) (e : EditionD) (p : PlaceD) (hl : e.ss.length ≤ 20) (h : soundEr t e = 0) (hp : placeB t p = true) (G : Nat → Option GObj) (nx : Nat) (hF : G 0 = some chkF) :
  PC Tryz.prog 57 [textC t, val e, val p] G nx fun r G' nx' => ∃ y : Nat × Nat, r = .tup [.elem (bookC t e (nx + 1 + 1) (nx + 1 + 1 + 1)), .v (.int .i64 0)] ∧ G' = (setG (setG G (nx + 1 + 1) (gmap Tryz.prog 95 y.1 (capp ((asOf e.ss))))) (nx + 1 + 1 + 1) (gmap Tryz.prog 95 y.2 (capp ((backOf e.ss))))) ∧ nx' = nx + 1 + 1 + 1 + 1 := by
 refine pc_namedX_of_body (fun (y : Nat × Nat) => (setG (setG G (nx + 1 + 1) (gmap Tryz.prog 95 y.1 (capp ((asOf e.ss))))) (nx + 1 + 1 + 1) (gmap Tryz.prog 95 y.2 (capp ((backOf e.ss)))))) (nx + 1 + 1 + 1 + 1) Tryz.func57 rfl (.tup (low_cons ((.elem (low_cons .v (low_cons (lst_low _ _) (low_cons (lst_low _ _) (low_cons (.map (show nx + 1 + 1 < nx + 1 + 1 + 1 + 1 by omega)) (low_cons (.map (show nx + 1 + 1 + 1 < nx + 1 + 1 + 1 + 1 by omega)) low_nil))))))) (low_cons .v low_nil))) zN (fun hlt y => (by (repeat' (refine lowG_set ?_ (by (try dsimp only); omega) ?_)); all_goals (first | exact lowG_base zS | (repeat' (first | exact trivial | refine ⟨?_, ?_⟩ | exact .v | exact .any | refine .elem ?_ | exact lst_low _ _ | exact cells_low _ _ | exact val_low _ _ | exact data_low _ (by (try dsimp only); omega) | exact .box (by (try dsimp only); omega) | exact nil_low | exact low_nil | exact gmap_low (capp_low _ _) | refine set_low ?_ ?_ | exact .arr (by (try dsimp only); omega) | exact .own (by (try dsimp only); omega) | exact .map (by (try dsimp only); omega) | exact flatC_low _ | refine low_cons ?_ ?_ | exact lst_low _ _))))) ?_
 simp only [Tryz.ntmps57, List.length_cons, List.length_nil, Nat.reduceAdd, Nat.reduceSub]
 refine aw_lt fun hlt => ?_
 dsimp only at hlt
 have hnx := hlt 0 _ hF
 obtain ⟨ht, hl12, he⟩ := checkEr_text (soundEr_check h).1
 refine yS fun _ K1 => ?_
 refine yR ?_
 try dsimp only [St.put]
 refine yB rfl rfl rfl ?_
 try dsimp only [St.put]
 refine yB rfl rfl rfl ?_
 try dsimp only [St.put]
 refine yB rfl rfl rfl ?_
 refine yA rfl rfl ?_
 refine yA rfl rfl ?_
 refine yN ?_
 dsimp only [St.put]
 refine K1 _ ?_
 refine yS fun _ K2 => ?_
 refine yR ?_
 try dsimp only [St.put]
 refine aops_s rfl (s_load_agg' rfl rfl rfl) ?_
 refine yE rfl rfl rfl ?_
 try dsimp only [St.put]
 refine aops_e rfl (e_buildSlice rfl rfl rfl (by decide) (by decide) zR (by decide) ?_)
 try dsimp only [St.put]
 refine aops_e rfl (e_call_namedX rfl rfl rfl (sound1_ok t e hl h _ _ zG) (fun y => ?_))
 refine yM rfl rfl ?_
 refine yX rfl rfl rfl rfl ?_
 refine yX rfl rfl rfl rfl ?_
 refine yA rfl rfl ?_
 refine yA rfl rfl ?_
 refine yN ?_
 dsimp only [St.put]
 refine K2 _ ?_
 refine yS fun _ K3 => ?_
 refine yS fun _ K4 => ?_
 refine yR ?_
 refine yM rfl rfl ?_
 refine aops_n rfl (n_bool (c := false) (n_neq rfl rfl rfl) (by rfl)) ?_
 refine yN ?_
 dsimp only [St.put]
 refine K4 _ ?_
 refine aw_cond rfl (fun h => by cases h) (fun _ => ?_)
 refine aw_skip ?_
 refine K3 _ ?_
 refine yS fun _ K5 => ?_
 refine yS fun _ K6 => ?_
 refine yR ?_
 try dsimp only [St.put]
 refine aops_s rfl (s_load_agg' rfl rfl rfl) ?_
 refine yE rfl rfl rfl ?_
 try dsimp only [St.put]
 refine aops_e rfl (e_call_pure rfl rfl rfl (leafAt_pure t p) ?_)
 refine yM rfl rfl ?_
 refine yX rfl rfl rfl rfl ?_
 refine yX rfl rfl rfl rfl ?_
 refine yA rfl rfl ?_
 refine yA rfl rfl ?_
 refine yN ?_
 dsimp only [St.put]
 rw [show placedEr t p = 0 by simp [placedEr, ht, hp]]
 refine K6 _ ?_
 refine yS fun _ K7 => ?_
 refine yR ?_
 refine yM rfl rfl ?_
 refine aops_n rfl (n_bool (c := false) (n_neq rfl rfl rfl) (by rfl)) ?_
 refine yN ?_
 dsimp only [St.put]
 refine K7 _ ?_
 refine aw_cond rfl (fun h => by cases h) (fun _ => ?_)
 refine aw_skip ?_
 refine K5 _ ?_
 refine yS fun _ K8 => ?_
 refine yR ?_
 refine yM rfl rfl ?_
 try dsimp only [St.put]
 refine aops_n rfl (n_indexAddr (k := 0) rfl rfl rfl (by first | rfl | omega) rfl rfl) ?_
 refine yL rfl rfl rfl ?_
 refine yA rfl rfl ?_
 refine yA rfl rfl ?_
 refine yN ?_
 dsimp only [St.put]
 refine K8 _ ?_
 refine aw_ret ?_
 refine ⟨y, ?_⟩
 refine ends_v2 rfl (rv_tmp (by constructor)) (rv_tmp (by constructor)) zN zX ?_ ?_
 ·exact zW
 exact zW
theorem chartPlaced_no1 (t : TextD) (e : EditionD) (p : PlaceD) (hl : e.ss.length ≤ 20) (h : soundEr t e ≠ 0) :
  PureF chkF Tryz.prog 57 [textC t, val e, val p] (.tup [.v (.pointer none), .v (.int .i64 (soundEr t e))]) := by
 refine pureF_of_body Tryz.func57 rfl (fun m => .tup (low_cons .v (low_cons .v low_nil))) fun G nx hF => ?_
 simp only [Tryz.ntmps57, List.length_cons, List.length_nil, Nat.reduceAdd, Nat.reduceSub]
 refine aw_lt fun hlt => ?_
 dsimp only at hlt
 have hnx := hlt 0 _ hF
 refine yS fun _ K1 => ?_
 refine yR ?_
 try dsimp only [St.put]
 refine yB rfl rfl rfl ?_
 try dsimp only [St.put]
 refine yB rfl rfl rfl ?_
 try dsimp only [St.put]
 refine yB rfl rfl rfl ?_
 refine yA rfl rfl ?_
 refine yA rfl rfl ?_
 refine yN ?_
 dsimp only [St.put]
 refine K1 _ ?_
 refine yS fun _ K2 => ?_
 refine yR ?_
 try dsimp only [St.put]
 refine aops_s rfl (s_load_agg' rfl rfl rfl) ?_
 refine yE rfl rfl rfl ?_
 try dsimp only [St.put]
 refine aops_e rfl (e_buildSlice rfl rfl rfl (by decide) (by decide) zR (by decide) ?_)
 try dsimp only [St.put]
 refine aops_e rfl (e_call_f rfl rfl rfl (sound1_no t e hl h) zG ?_)
 refine yM rfl rfl ?_
 refine yX rfl rfl rfl rfl ?_
 refine yX rfl rfl rfl rfl ?_
 refine yA rfl rfl ?_
 refine yA rfl rfl ?_
 refine yN ?_
 dsimp only [St.put]
 refine K2 _ ?_
 refine yS fun _ K3 => ?_
 refine yS fun _ K4 => ?_
 refine yR ?_
 refine yM rfl rfl ?_
 refine aops_n rfl (n_bool (c := true) (n_neq rfl rfl rfl) (not_dec_t h)) ?_
 refine yN ?_
 dsimp only [St.put]
 refine K4 _ ?_
 refine aw_cond rfl (fun _ => ?_) (fun h => by cases h)
 refine yS fun _ K5 => ?_
 refine yR ?_
 refine yM rfl rfl ?_
 refine yA rfl rfl ?_
 refine yA rfl rfl ?_
 refine yN ?_
 dsimp only [St.put]
 refine K5 _ ?_
 refine aw_ret ?_
 refine ends_2 rfl (by constructor) (by constructor) zN zS ?_ ?_
 ·rfl
 rfl
theorem chartPlaced_no2 (t : TextD) (e : EditionD) (p : PlaceD) (hl : e.ss.length ≤ 20) (h : soundEr t e = 0) (hp : placeB t p = false) :
  PureF chkF Tryz.prog 57 [textC t, val e, val p] (.tup [.v (.pointer none), .v (.int .i64 12)]) := by
 refine pureF_of_body Tryz.func57 rfl (fun m => .tup (low_cons .v (low_cons .v low_nil))) fun G nx hF => ?_
 simp only [Tryz.ntmps57, List.length_cons, List.length_nil, Nat.reduceAdd, Nat.reduceSub]
 refine aw_lt fun hlt => ?_
 dsimp only at hlt
 have hnx := hlt 0 _ hF
 obtain ⟨ht, hl12, he⟩ := checkEr_text (soundEr_check h).1
 refine yS fun _ K1 => ?_
 refine yR ?_
 try dsimp only [St.put]
 refine yB rfl rfl rfl ?_
 try dsimp only [St.put]
 refine yB rfl rfl rfl ?_
 try dsimp only [St.put]
 refine yB rfl rfl rfl ?_
 refine yA rfl rfl ?_
 refine yA rfl rfl ?_
 refine yN ?_
 dsimp only [St.put]
 refine K1 _ ?_
 refine yS fun _ K2 => ?_
 refine yR ?_
 try dsimp only [St.put]
 refine aops_s rfl (s_load_agg' rfl rfl rfl) ?_
 refine yE rfl rfl rfl ?_
 try dsimp only [St.put]
 refine aops_e rfl (e_buildSlice rfl rfl rfl (by decide) (by decide) zR (by decide) ?_)
 try dsimp only [St.put]
 refine aops_e rfl (e_call_namedX rfl rfl rfl (sound1_ok t e hl h _ _ zG) (fun y => ?_))
 refine yM rfl rfl ?_
 refine yX rfl rfl rfl rfl ?_
 refine yX rfl rfl rfl rfl ?_
 refine yA rfl rfl ?_
 refine yA rfl rfl ?_
 refine yN ?_
 dsimp only [St.put]
 refine K2 _ ?_
 refine yS fun _ K3 => ?_
 refine yS fun _ K4 => ?_
 refine yR ?_
 refine yM rfl rfl ?_
 refine aops_n rfl (n_bool (c := false) (n_neq rfl rfl rfl) (by rfl)) ?_
 refine yN ?_
 dsimp only [St.put]
 refine K4 _ ?_
 refine aw_cond rfl (fun h => by cases h) (fun _ => ?_)
 refine aw_skip ?_
 refine K3 _ ?_
 refine yS fun _ K5 => ?_
 refine yS fun _ K6 => ?_
 refine yR ?_
 try dsimp only [St.put]
 refine aops_s rfl (s_load_agg' rfl rfl rfl) ?_
 refine yE rfl rfl rfl ?_
 try dsimp only [St.put]
 refine aops_e rfl (e_call_pure rfl rfl rfl (leafAt_pure t p) ?_)
 refine yM rfl rfl ?_
 refine yX rfl rfl rfl rfl ?_
 refine yX rfl rfl rfl rfl ?_
 refine yA rfl rfl ?_
 refine yA rfl rfl ?_
 refine yN ?_
 dsimp only [St.put]
 rw [show placedEr t p = 12 by simp [placedEr, ht, hp]]
 refine K6 _ ?_
 refine yS fun _ K7 => ?_
 refine yR ?_
 refine yM rfl rfl ?_
 refine aops_n rfl (n_bool (c := true) (n_neq rfl rfl rfl) (by rfl)) ?_
 refine yN ?_
 dsimp only [St.put]
 refine K7 _ ?_
 refine aw_cond rfl (fun _ => ?_) (fun h => by cases h)
 refine yS fun _ K8 => ?_
 refine yR ?_
 refine yM rfl rfl ?_
 refine yA rfl rfl ?_
 refine yA rfl rfl ?_
 refine yN ?_
 dsimp only [St.put]
 refine K8 _ ?_
 refine aw_ret ?_
 refine ends_2 rfl (by constructor) (by constructor) zN zS ?_ ?_
 ·rfl
 rfl
theorem chartRefer_ok (t : TextD) (e : EditionD) (p : PlaceD) (hl : e.ss.length ≤ 20) (h : soundEr t e = 0) (hp : placeB t p = true) :
  PureF chkF Tryz.prog 20 [textC t, val e, val p] (.tup [val (referV t e p), .v (.int .i64 (referEr t e p))]) := by
 refine pureF_of_body Tryz.func20 rfl (fun m => .tup (low_cons (val_low _ _) (low_cons .v low_nil))) fun G nx hF => ?_
 simp only [Tryz.ntmps20, List.length_cons, List.length_nil, Nat.reduceAdd, Nat.reduceSub]
 refine aw_lt fun hlt => ?_
 dsimp only at hlt
 have hnx := hlt 0 _ hF
 obtain ⟨ht, hl12, he⟩ := checkEr_text (soundEr_check h).1
 obtain ⟨l, hw, hw1, hw2⟩ := placeB_true.1 hp
 have hwl := words_bd ht hw
 refine yS fun _ K1 => ?_
 refine yR ?_
 try dsimp only [St.put]
 refine yB rfl rfl rfl ?_
 try dsimp only [St.put]
 refine yB rfl rfl rfl ?_
 try dsimp only [St.put]
 refine yB rfl rfl rfl ?_
 try dsimp only [St.put]
 refine aops_e rfl (e_allocC rfl ?_)
 refine yA rfl rfl ?_
 refine yN ?_
 dsimp only [St.put]
 refine K1 _ ?_
 refine yS fun _ K2 => ?_
 refine yR ?_
 try dsimp only [St.put]
 refine aops_s rfl (s_load_agg' rfl rfl rfl) ?_
 refine yE rfl rfl rfl ?_
 refine yE rfl rfl rfl ?_
 try dsimp only [St.put]
 refine aops_e rfl (e_call_namedX rfl rfl rfl (chartPlaced_ok t e p hl h hp _ _ zG) (fun y => ?_))
 refine yM rfl rfl ?_
 refine yX rfl rfl rfl rfl ?_
 refine yX rfl rfl rfl rfl ?_
 refine yA rfl rfl ?_
 refine yA rfl rfl ?_
 refine yN ?_
 dsimp only [St.put]
 refine K2 _ ?_
 refine yS fun _ K3 => ?_
 refine yS fun _ K4 => ?_
 refine yR ?_
 refine yM rfl rfl ?_
 refine aops_n rfl (n_bool (c := false) (n_neq rfl rfl rfl) (by rfl)) ?_
 refine yN ?_
 dsimp only [St.put]
 refine K4 _ ?_
 refine aw_cond rfl (fun h => by cases h) (fun _ => ?_)
 refine aw_skip ?_
 refine K3 _ ?_
 refine yS fun _ K5 => ?_
 refine yR ?_
 refine yM rfl rfl ?_
 refine yE rfl rfl rfl ?_
 try dsimp only [St.put]
 refine aops_e rfl (e_call_one rfl rfl rfl (bookRefer_pc t e _ _ _ (asOf e.ss) p (by omega) _ _ (by dsimp only [St.put]; omega) (by dsimp only [St.put]; omega) zG) ?_)
 refine yM rfl rfl ?_
 refine yX rfl rfl rfl rfl ?_
 refine yX rfl rfl rfl rfl ?_
 try dsimp only [St.put]
 refine aops_e rfl (e_allocC rfl ?_)
 try dsimp only [St.put]
 refine aops_e rfl (e_store_all rfl rfl rfl zG rfl rfl (by rfl) ?_)
 refine yA rfl rfl ?_
 refine yN ?_
 dsimp only [St.put]
 refine K5 _ ?_
 refine yS fun _ K6 => ?_
 refine yS fun _ K7 => ?_
 refine yR ?_
 refine yM rfl rfl ?_
 refine aops_n rfl (n_not rfl rfl) ?_
 refine yN ?_
 dsimp only [St.put]
 refine K7 _ ?_
 refine aw_cond rfl (fun hc => ?_) (fun hc => ?_)
 ·have hf : asOf e.ss (p.ch, p.ln) = none := by simpa using hc
  have hE : referEr t e p = 6 := by simp [referEr, h, hp, hf]
  have hV : referV t e p = ⟨0, 0, 0⟩ := by simp [referV, hE]
  refine yS fun _ K8 => ?_
  refine yR ?_
  refine aops_n rfl (n_build rfl rfl) ?_
  try dsimp only [St.put]
  refine aops_e rfl (e_store_all rfl rfl rfl zG rfl rfl (by rfl) ?_)
  refine yA rfl rfl ?_
  refine yN ?_
  dsimp only [St.put]
  refine K8 _ ?_
  refine aw_ret ?_
  refine ends_v2 rfl (rv_box rfl zG (by rfl) (by first | exact List.cons_ne_nil _ _ | (simp; done) | (simp [putAt]; done)) rfl) (rv_tmp (by constructor)) zN zS ?_ ?_
  ·rw [hV]
   exact zW
  exact Wk.of_eq (vi hE.symm)
 have hf : (asOf e.ss (p.ch, p.ln)).isSome = true := by simpa using hc
 have hE : referEr t e p = 0 := by simp [referEr, h, hp, hf]
 have hV : referV t e p = rfV (asOf e.ss) p := by
  obtain ⟨v, hv⟩ := Option.isSome_iff_exists.1 hf
  simp [referV, hE, rfV, hv]
 refine aw_skip ?_
 refine K6 _ ?_
 refine yS fun _ K9 => ?_
 refine yR ?_
 try dsimp only [St.put]
 refine aops_s rfl (s_load_box_all rfl rfl zG trivial (by rfl)) ?_
 try dsimp only [St.put]
 refine aops_e rfl (e_store_all rfl rfl rfl zG rfl rfl (by rfl) ?_)
 refine yA rfl rfl ?_
 refine yN ?_
 dsimp only [St.put]
 refine K9 _ ?_
 refine aw_ret ?_
 refine ends_v2 rfl (rv_box rfl zG (by rfl) (by first | exact List.cons_ne_nil _ _ | (simp; done) | (simp [putAt]; done)) rfl) (rv_tmp (by constructor)) zN zS ?_ ?_
 ·rw [hV]
  exact zW
 exact Wk.of_eq (vi hE.symm)
theorem chartRefer_no (t : TextD) (e : EditionD) (p : PlaceD) (er : Int) (he0 : er ≠ 0) (hcall : PureF chkF Tryz.prog 57 [textC t, val e, val p] (.tup [.v (.pointer none), .v (.int .i64 er)])) :
  PureF chkF Tryz.prog 20 [textC t, val e, val p] (.tup [val (⟨0, 0, 0⟩ : RefD), .v (.int .i64 er)]) := by
 refine pureF_of_body Tryz.func20 rfl (fun m => .tup (low_cons (val_low _ _) (low_cons .v low_nil))) fun G nx hF => ?_
 simp only [Tryz.ntmps20, List.length_cons, List.length_nil, Nat.reduceAdd, Nat.reduceSub]
 refine aw_lt fun hlt => ?_
 dsimp only at hlt
 have hnx := hlt 0 _ hF
 refine yS fun _ K1 => ?_
 refine yR ?_
 try dsimp only [St.put]
 refine yB rfl rfl rfl ?_
 try dsimp only [St.put]
 refine yB rfl rfl rfl ?_
 try dsimp only [St.put]
 refine yB rfl rfl rfl ?_
 try dsimp only [St.put]
 refine aops_e rfl (e_allocC rfl ?_)
 refine yA rfl rfl ?_
 refine yN ?_
 dsimp only [St.put]
 refine K1 _ ?_
 refine yS fun _ K2 => ?_
 refine yR ?_
 try dsimp only [St.put]
 refine aops_s rfl (s_load_agg' rfl rfl rfl) ?_
 refine yE rfl rfl rfl ?_
 refine yE rfl rfl rfl ?_
 try dsimp only [St.put]
 refine aops_e rfl (e_call_f rfl rfl rfl (hcall) zG ?_)
 refine yM rfl rfl ?_
 refine yX rfl rfl rfl rfl ?_
 refine yX rfl rfl rfl rfl ?_
 refine yA rfl rfl ?_
 refine yA rfl rfl ?_
 refine yN ?_
 dsimp only [St.put]
 refine K2 _ ?_
 refine yS fun _ K3 => ?_
 refine yS fun _ K4 => ?_
 refine yR ?_
 refine yM rfl rfl ?_
 refine aops_n rfl (n_bool (c := true) (n_neq rfl rfl rfl) (not_dec_t he0)) ?_
 refine yN ?_
 dsimp only [St.put]
 refine K4 _ ?_
 refine aw_cond rfl (fun _ => ?_) (fun h => by cases h)
 refine yS fun _ K5 => ?_
 refine yR ?_
 refine aops_n rfl (n_build rfl rfl) ?_
 refine yM rfl rfl ?_
 try dsimp only [St.put]
 refine aops_e rfl (e_store_all rfl rfl rfl zG rfl rfl (by rfl) ?_)
 refine yA rfl rfl ?_
 refine yN ?_
 dsimp only [St.put]
 refine K5 _ ?_
 refine aw_ret ?_
 refine ends_v2 rfl (rv_box rfl zG (by rfl) (by first | exact List.cons_ne_nil _ _ | (simp; done) | (simp [putAt]; done)) rfl) (rv_tmp (by constructor)) zN zS ?_ ?_
 ·exact zW
 exact zW
theorem chartRefer_pureF (t : TextD) (e : EditionD) (p : PlaceD) (hl : e.ss.length ≤ 20) :
  PureF chkF Tryz.prog 20 [textC t, val e, val p] (.tup [val (referV t e p), .v (.int .i64 (referEr t e p))]) := by
 by_cases h : soundEr t e = 0
 ·cases hp : placeB t p with
  | true => exact chartRefer_ok t e p hl h hp
  | false =>
   have hE : referEr t e p = 12 := by simp [referEr, h, hp]
   have hV : referV t e p = ⟨0, 0, 0⟩ := by simp [referV, hE]
   rw [hV, hE]
   exact chartRefer_no t e p 12 (by decide) (chartPlaced_no2 t e p hl h hp)
 have hE : referEr t e p = soundEr t e := by simp [referEr, h]
 have hV : referV t e p = ⟨0, 0, 0⟩ := by simp [referV, hE, h]
 rw [hV, hE]
 exact chartRefer_no t e p _ h (chartPlaced_no1 t e p hl h)
end Go.Proofs.YtjjklfgpffgnfabGreatDoor
