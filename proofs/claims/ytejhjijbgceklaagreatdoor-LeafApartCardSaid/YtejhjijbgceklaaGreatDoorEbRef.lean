/-
 Contracts of the reference's functions of charts: references, and where they lead; both, too, from one edition to another one.
-/
import Derived.Test.YtejhjijbgceklaaGreatDoorEaPlain
namespace Go.AB
open Go Go.RowKit
open Go.PB (Chap TextD PlaceD ReadingD CopyD WayD)
theorem words_len {t : TextD} (ht : textB t = true) (p : L2) : ((wordsOf t p).getD []).length ≤ 10 := by
 cases h : wordsOf t p with
 | none => simp
 | some l => have := words_bd ht h; simp only [Option.getD_some]; omega
end Go.AB
namespace Go.Proofs.YtejhjijbgceklaaGreatDoor
set_option maxRecDepth 10000
open Go.RowKit Go.AB
open Go.AB.Enc (cells)
open Go.PB (Chap TextD PlaceD ReadingD CopyD WayD)
theorem refLine_pure (t : TextD) (p : PlaceD) (ht : textB t = true) : Pure Tryz.prog 54 [textC t, val p] (.tup [lst ((wordsOf t (p.ch, p.ln)).getD []), .v (.bool (wordsOf t (p.ch, p.ln)).isSome)]) := by
 refine pure_of_body Tryz.func54 rfl (fun m => .tup (low_cons (lst_low _ _) (low_cons .v low_nil))) fun G nx => ?_
 simp only [Tryz.ntmps54, List.length_cons, List.length_nil, Nat.reduceAdd, Nat.reduceSub]
 refine aw_lt fun hlt => ?_
 dsimp only at hlt
 obtain ⟨hl1, hl2, hl3⟩ := text_ok ht
 refine yS fun _ K1 => ?_
 refine yR ?_
 try dsimp only [St.put]
 refine yB rfl rfl rfl ?_
 try dsimp only [St.put]
 refine yB rfl rfl rfl ?_
 refine yA rfl rfl ?_
 refine yA rfl rfl ?_
 refine yN ?_
 dsimp only [St.put]
 refine K1 _ ?_
 refine yS fun _ K2 => ?_
 refine aw_wipe 6 ?_
 simp only [firsts, getA, Nat.reduceAdd, List.getD_cons_zero, List.getD_cons_succ, List.getD_nil, natBeq, Nat.reduceBEq, cond_true, cond_false]
 refine aw_cutD (X := Bool) (fun b => b = !(wordsOf t (p.ch, p.ln)).isSome) (fun b => [(28, .v (.bool b))]) (fun b G' => G') rfl ?_ (fun _ _ _ _ h => .inl h) ?_ ?_
 ·rintro b hI
  exact zL
 ·refine aw_drawT [(0, none), (1, none), (2, none), (3, none), (4, none), (5, none)] (fun _ => false) (fun i => [0, 2, 4, 5].contains i) 17 [true, true, true, true, true, true, false, false, false, false, false, false, false, false, false, false, false, false, false, false, false, false, false] (by kernel_rfl) (by kernel_rfl) ?_
  refine acan1_n rfl rfl rfl rfl (n_fieldAddr' rfl rfl rfl) ?_
  try dsimp only [St.put]
  refine acan1_s rfl rfl rfl rfl (s_load rfl rfl) ?_
  refine acan1_n rfl rfl rfl rfl (n_fieldAddr' rfl rfl rfl) ?_
  try dsimp only [St.put]
  refine acan1_s rfl rfl rfl rfl (s_load rfl rfl) ?_
  refine acan1_n rfl rfl rfl rfl (n_len' rfl rfl (List.length_map _)) ?_
  refine acan1_n rfl rfl rfl rfl (n_sub rfl rfl rfl (by omega)) ?_
  refine acan1_nil ?_
  refine aany_step [6] (by kernel_rfl) (by simp) ?_
  refine aeach_cons ?_ ?_
  ·try dsimp only [St.put]
   refine aone_e rfl rfl rfl (e_call_pure rfl rfl rfl (within_pure _ _ _) ?_)
   refine aany_quiet [(7, none), (8, none), (9, none), (10, none), (11, none), (12, none), (13, none), (14, none), (15, none), (16, none), (17, none), (18, none), (19, none)] (fun i => [7, 8, 9, 11, 13, 15, 16, 18, 19].contains i) 3 [true, true, true, true, true, true, true, true, true, true, true, true, true, true, true, true, true, true, true, true, false, false, false] (by kernel_rfl) ?_
   refine acan1_n rfl rfl rfl rfl (n_not rfl rfl) ?_
   refine xM rfl rfl rfl rfl rfl ?_
   refine acan1_split (fun hs => ?_) (fun hs => ?_)
   ·have h8 : inB p.ch 0 ((t.length : Int) - 1) = false := by simpa using hs
    refine acan1_skip rfl rfl rfl ?_
    refine acan1_skip rfl rfl rfl ?_
    refine acan1_skip rfl rfl rfl ?_
    refine acan1_skip rfl rfl rfl ?_
    refine acan1_skip rfl rfl rfl ?_
    refine acan1_skip rfl rfl rfl ?_
    refine acan1_skip rfl rfl rfl ?_
    refine acan1_skip rfl rfl rfl ?_
    refine acan1_skip rfl rfl rfl ?_
    refine acan1_skip rfl rfl rfl ?_
    refine acan1_skip rfl rfl rfl ?_
    refine acan1_nil ?_
    refine aany_step [20] (by kernel_rfl) (by simp) ?_
    refine aeach_cons ?_ ?_
    ·refine aone_skip rfl rfl rfl ?_
     refine aany_quiet [(21, none), (22, none)] (fun i => [21, 22].contains i) 0 [true, true, true, true, true, true, true, true, true, true, true, true, true, true, true, true, true, true, true, true, true, true, true] (by kernel_rfl) ?_
     refine acan1_skip rfl rfl rfl ?_
     refine acan1_n rfl rfl rfl rfl (n_pt rfl rfl (by constructor)) ?_
     refine acan1_nil ?_
     dsimp only [St.put]
     refine aany_nil (by kernel_rfl) ?_
     refine ⟨_, ?_, ⟨⟨rfl, rfl⟩, zF, zB, zN, zX⟩⟩
     rw [wordsOf_isSome]
     (simp [h8]; done)
    exact aeach_nil
   have h8 : inB p.ch 0 ((t.length : Int) - 1) = true := by simpa using hs
   have hn1' := h8
   simp only [inB_true] at hn1'
   obtain ⟨c, hcx⟩ : ∃ c, t[p.ch.toNat]? = some c := some_of_lt (by omega)
   have hnl : nlines t p.ch = c.lines.length := by simp [nlines, hcx]
   have hll := (hl3 c (mem_of_get hcx)).2.1
   have hch : p.ch = ((p.ch.toNat : Nat) : Int) := by omega
   refine acan1_n rfl rfl rfl rfl (n_fieldAddr' rfl rfl rfl) ?_
   try dsimp only [St.put]
   refine acan1_s rfl rfl rfl rfl (s_load rfl rfl) ?_
   refine acan1_n rfl rfl rfl rfl (n_fieldAddr' rfl rfl rfl) ?_
   try dsimp only [St.put]
   refine acan1_s rfl rfl rfl rfl (s_load rfl rfl) ?_
   refine acan1_n rfl rfl rfl rfl (n_fieldAddr' rfl rfl rfl) ?_
   try dsimp only [St.put]
   refine acan1_s rfl rfl rfl rfl (s_load rfl rfl) ?_
   try dsimp only [St.put]
   refine acan1_n rfl rfl rfl rfl (n_indexAddr rfl rfl rfl (by omega) (map_get (by assumption)) (Enc.len _)) ?_
   refine acan1_n rfl rfl rfl rfl (n_fieldAddr' rfl rfl rfl) ?_
   try dsimp only [St.put]
   refine acan1_s rfl rfl rfl rfl (s_load rfl rfl) ?_
   refine acan1_n rfl rfl rfl rfl (n_len' rfl rfl (List.length_map _)) ?_
   refine acan1_n rfl rfl rfl rfl (n_sub rfl rfl rfl (by omega)) ?_
   refine acan1_nil ?_
   refine aany_step [20] (by kernel_rfl) (by simp) ?_
   refine aeach_cons ?_ ?_
   ·try dsimp only [St.put]
    refine aone_e rfl rfl rfl (e_call_pure rfl rfl rfl (within_pure _ _ _) ?_)
    refine aany_quiet [(21, none), (22, none)] (fun i => [21, 22].contains i) 0 [true, true, true, true, true, true, true, true, true, true, true, true, true, true, true, true, true, true, true, true, true, true, true] (by kernel_rfl) ?_
    refine acan1_n rfl rfl rfl rfl (n_not rfl rfl) ?_
    refine acan1_n rfl rfl rfl rfl (n_pf rfl rfl (by constructor)) ?_
    refine acan1_nil ?_
    dsimp only [St.put]
    refine aany_nil (by kernel_rfl) ?_
    refine ⟨_, ?_, ⟨⟨rfl, rfl⟩, zF, zB, zN, zX⟩⟩
    rw [wordsOf_isSome]
    (simp [h8, hnl]; done)
   exact aeach_nil
  exact aeach_nil
 rintro b hst
 dsimp only at hst ⊢
 refine aw_cond rfl (fun hc => ?_) (fun hc => ?_)
 ·have hw : wordsOf t (p.ch, p.ln) = none := by rw [hc] at hst; simpa using hst.symm
  refine yS fun _ K4 => ?_
  refine yR ?_
  refine yA rfl rfl ?_
  refine yA rfl rfl ?_
  refine yN ?_
  dsimp only [St.put]
  refine K4 _ ?_
  refine aw_ret ?_
  refine ends_v2 rfl (rv_tmp (by constructor)) (rv_tmp (by constructor)) zN zS ?_ ?_
  ·rw [hw]
   exact zW
  rw [hw]; exact Wk.refl _
 have hw0 : (wordsOf t (p.ch, p.ln)).isSome = true := by rw [hc] at hst; simpa using hst.symm
 obtain ⟨l, hw⟩ := Option.isSome_iff_exists.1 hw0
 obtain ⟨k, n, c, hkn, hk, hn⟩ := wordsOf_some hw
 have hch : p.ch = ((k : Nat) : Int) := congrArg Prod.fst hkn
 have hln : p.ln = ((n : Nat) : Int) := congrArg Prod.snd hkn
 refine aw_skip ?_
 refine K2 _ ?_
 refine yS fun _ K5 => ?_
 refine aw_draw [(0, none), (1, none), (2, none), (3, none), (4, none), (5, none), (6, none), (7, none), (8, none), (9, none), (10, none), (11, none), (12, none)] (fun i => [].contains i) (fun i => [].contains i) (fun i => [0, 2, 4, 5, 7, 9, 11, 12].contains i) [] (by kernel_rfl) (by kernel_rfl) ?_
 refine acan1_n rfl rfl rfl rfl (n_fieldAddr' rfl rfl rfl) ?_
 try dsimp only [St.put]
 refine acan1_s rfl rfl rfl rfl (s_load rfl rfl) ?_
 refine acan1_n rfl rfl rfl rfl (n_fieldAddr' rfl rfl rfl) ?_
 try dsimp only [St.put]
 refine acan1_s rfl rfl rfl rfl (s_load rfl rfl) ?_
 try dsimp only [St.put]
 refine acan1_n rfl rfl rfl rfl (n_indexAddr rfl rfl rfl (by omega) (map_get (by assumption)) (Enc.len _)) ?_
 refine acan1_n rfl rfl rfl rfl (n_fieldAddr' rfl rfl rfl) ?_
 try dsimp only [St.put]
 refine acan1_s rfl rfl rfl rfl (s_load rfl rfl) ?_
 refine acan1_n rfl rfl rfl rfl (n_fieldAddr' rfl rfl rfl) ?_
 try dsimp only [St.put]
 refine acan1_s rfl rfl rfl rfl (s_load rfl rfl) ?_
 try dsimp only [St.put]
 refine acan1_n rfl rfl rfl rfl (n_indexAddr rfl rfl rfl (by omega) (map_get (by assumption)) (Enc.len _)) ?_
 try dsimp only [St.put]
 refine acan1_s rfl rfl rfl rfl (s_load rfl rfl) ?_
 refine acan1_n rfl rfl rfl rfl (n_as rfl (by constructor)) ?_
 refine acan1_n rfl rfl rfl rfl (n_as rfl (by constructor)) ?_
 refine acan1_nil ?_
 dsimp only [St.put]
 refine K5 _ ?_
 refine aw_ret ?_
 refine ends_v2 rfl (rv_tmp (by constructor)) (rv_tmp (by constructor)) zN zS ?_ ?_
 ·rw [hw]
  exact zW
 rw [hw]; exact Wk.refl _
end Go.Proofs.YtejhjijbgceklaaGreatDoor
