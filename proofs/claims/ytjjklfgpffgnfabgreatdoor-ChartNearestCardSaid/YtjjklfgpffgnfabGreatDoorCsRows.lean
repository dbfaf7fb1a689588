/-
 Contracts of the reference's functions of charts: what clashes, rows, gaps, sound editions, plain ones.
-/
import Derived.Test.YtjjklfgpffgnfabGreatDoorCrOne
import Derived.Test.YtjjklfgpffgnfabGreatDoorCePlain
namespace Go.AB
open Go Go.RowKit
open Go.PB (Chap TextD PlaceD)
theorem clV {ss : List StretchD} {a b : Nat} (h : firstC ss = some (a, b)) : clA ss = a ∧ clB ss = b := by simp [clA, clB, h]
theorem clN {ss : List StretchD} (h : firstC ss = none) : clA ss = 0 ∧ clB ss = 0 := by simp [clA, clB, h]
theorem checkEr_text {t : TextD} {e : EditionD} (h : checkEr t e = 0) : textB t = true ∧ e.ss.length ≤ 12 ∧ ∀ s ∈ e.ss, SOk s := by
 obtain ⟨h1, h2⟩ := checkEr_ok h
 exact ⟨h1, edition_ok h1 h2⟩
end Go.AB
namespace Go.Proofs.YtjjklfgpffgnfabGreatDoor
set_option maxRecDepth 10000
open Go.RowKit Go.AB
open Go.AB.Enc (cells)
open Go.PB (Chap TextD PlaceD ReadingD CopyD WayD)

theorem clash_pure (e : EditionD) (hl : e.ss.length ≤ 12) (he : ∀ s ∈ e.ss, SOk s) : Pure Tryz.prog 91 [val e] (.tup [.v (.int .i64 (clA e.ss)), .v (.int .i64 (clB e.ss)), .v (.bool (firstC e.ss).isSome)]) := by
 refine pure_of_body Tryz.func91 rfl (fun m => .tup (low_cons .v (low_cons .v (low_cons .v low_nil)))) fun G nx => ?_
 simp only [Tryz.ntmps91, List.length_cons, List.length_nil, Nat.reduceAdd, Nat.reduceSub]
 refine aw_lt fun hlt => ?_
 dsimp only at hlt
 refine yS fun _ K1 => ?_
 refine yR ?_
 try dsimp only [St.put]
 refine yB rfl rfl rfl ?_
 refine yA rfl rfl ?_
 refine yA rfl rfl ?_
 refine yA rfl rfl ?_
 refine yN ?_
 dsimp only [St.put]
 refine K1 _ ?_
 refine yS fun _ K2 => ?_
 refine yS fun _ K3 => ?_
 refine yR ?_
 refine yA rfl rfl ?_
 refine yN ?_
 dsimp only [St.put]
 refine K3 _ ?_
 refine aw_block ?_
 refine aw_wipe 7 ?_
 simp only [firsts, getA, Nat.reduceAdd, List.getD_cons_zero, List.getD_cons_succ, List.getD_nil, natBeq, Nat.reduceBEq, cond_true, cond_false]
 refine aw_forget (G) zX ?_
 dsimp only
 refine aw_loopD (X := Nat) (fun k => k ≤ e.ss.length ∧ ∀ a b, isClash e.ss a b → k ≤ a) (fun k => e.ss.length - k) (fun k => [(5, .v (.int .i64 (k : Int))), (6, .any)]) (fun k G' => G') 0 rfl ?_ ?_ (fun _ _ h => h) ?_ ?_ ?_
 ·exact ⟨by simp, fun a b _ => Nat.zero_le _⟩
 ·exact zF
 ·rintro k hI
  exact zL
 ·exact fun _ _ _ _ h => .inl h
 rintro k hI
 dsimp only at hI ⊢
 refine yS fun _ K4 => ?_
 refine yS fun _ K5 => ?_
 refine yR ?_
 refine yM rfl rfl ?_
 refine yF rfl rfl rfl rfl ?_
 refine yL rfl rfl rfl ?_
 refine aops_n rfl (n_len' rfl rfl (List.length_map _)) ?_
 refine aops_n rfl (n_lss rfl rfl rfl) ?_
 refine yN ?_
 dsimp only [St.put]
 refine K5 _ ?_
 refine aw_cond rfl (fun hc => ?_) (fun hc => ?_)
 ·replace hc := of_decide_eq_true hc
  obtain ⟨x, hx⟩ : ∃ x, e.ss[k]? = some x := some_of_lt (by omega)
  refine aw_skip ?_
  refine K4 _ ?_
  refine yS fun _ K6 => ?_
  refine aw_block ?_
  refine yS fun _ K7 => ?_
  refine yR ?_
  refine yM rfl rfl ?_
  refine aops_n rfl (n_add rfl rfl rfl (by omega)) ?_
  refine yA rfl rfl ?_
  refine yN ?_
  dsimp only [St.put]
  refine K7 _ ?_
  refine aw_block ?_
  refine aw_wipe 7 ?_
  simp only [firsts, getA, Nat.reduceAdd, List.getD_cons_zero, List.getD_cons_succ, List.getD_nil, natBeq, Nat.reduceBEq, cond_true, cond_false]
  refine aw_forget (G) zX ?_
  dsimp only
  refine aw_loopD (X := Nat) (fun j => k + 1 ≤ j ∧ j ≤ e.ss.length ∧ ∀ b, isClash e.ss k b → j ≤ b) (fun j => e.ss.length - j) (fun j => [(6, .v (.int .i64 (j : Int)))]) (fun j G' => G') (k + 1) rfl ?_ ?_ (fun _ _ h => h) ?_ ?_ ?_
  ·exact ⟨by omega, by omega, fun b h => h.1⟩
  ·exact zF
  ·rintro j hI
   exact zL
  ·exact fun _ _ _ _ h => .inl h
  rintro j hJ
  dsimp only at hJ ⊢
  refine yS fun _ K8 => ?_
  refine yS fun _ K9 => ?_
  refine yR ?_
  refine yM rfl rfl ?_
  refine yF rfl rfl rfl rfl ?_
  refine yL rfl rfl rfl ?_
  refine aops_n rfl (n_len' rfl rfl (List.length_map _)) ?_
  refine aops_n rfl (n_lss rfl rfl rfl) ?_
  refine yN ?_
  dsimp only [St.put]
  refine K9 _ ?_
  refine aw_cond rfl (fun hc => ?_) (fun hc => ?_)
  ·replace hc := of_decide_eq_true hc
   obtain ⟨y, hy⟩ : ∃ x, e.ss[j]? = some x := some_of_lt (by omega)
   refine aw_skip ?_
   refine K8 _ ?_
   refine yS fun _ K10 => ?_
   refine aw_block ?_
   refine yS fun _ K11 => ?_
   refine aw_draw [(0, none), (1, none), (2, none), (3, none), (4, none), (5, none), (6, none), (7, none), (8, none), (9, none), (10, none)] (fun i => [10].contains i) (fun i => [10].contains i) (fun i => [0, 2, 3, 5, 7, 8].contains i) [] (by kernel_rfl) (by kernel_rfl) ?_
   refine acan1_n rfl rfl rfl rfl (n_fieldAddr' rfl rfl rfl) ?_
   try dsimp only [St.put]
   refine acan1_s rfl rfl rfl rfl (s_load rfl rfl) ?_
   refine xM rfl rfl rfl rfl rfl ?_
   try dsimp only [St.put]
   refine acan1_n rfl rfl rfl rfl (n_indexAddr rfl rfl rfl rfl (map_get (by assumption)) (Enc.len _)) ?_
   try dsimp only [St.put]
   refine acan1_s rfl rfl rfl rfl (s_load_agg' rfl rfl (Enc.len _)) ?_
   refine acan1_n rfl rfl rfl rfl (n_fieldAddr' rfl rfl rfl) ?_
   try dsimp only [St.put]
   refine acan1_s rfl rfl rfl rfl (s_load rfl rfl) ?_
   refine xM rfl rfl rfl rfl rfl ?_
   try dsimp only [St.put]
   refine acan1_n rfl rfl rfl rfl (n_indexAddr rfl rfl rfl rfl (map_get (by assumption)) (Enc.len _)) ?_
   try dsimp only [St.put]
   refine acan1_s rfl rfl rfl rfl (s_load_agg' rfl rfl (Enc.len _)) ?_
   refine acan1_two ?_
   try dsimp only [St.put]
   refine acan2_late rfl rfl rfl rfl (e_call_pure rfl rfl rfl (Clashes_pure x y (he x (mem_of_get hx)) (he y (mem_of_get hy))) ?_)
   refine acan2_nil ?_
   dsimp only [St.put]
   refine K11 _ ?_
   refine aw_cond rfl (fun hc => ?_) (fun hc => ?_)
   ·have hf : firstC e.ss = some (k, j) := firstC_eq ⟨(clash_iff (by omega) hx hy).2 hc, fun c d h => by
      have h1 := hI.2 c d h
      rcases Nat.eq_or_lt_of_le h1 with h2 | h2
      ·subst h2; exact .inr ⟨rfl, hJ.2.2 d h⟩
      exact .inl h2⟩
    refine yS fun _ K12 => ?_
    refine yR ?_
    refine yM rfl rfl ?_
    refine yM rfl rfl ?_
    refine yA rfl rfl ?_
    refine yA rfl rfl ?_
    refine yA rfl rfl ?_
    refine yN ?_
    dsimp only [St.put]
    refine K12 _ ?_
    refine aw_ret ?_
    refine ends_3 rfl (by constructor) (by constructor) (by constructor) zN zS ?_ ?_ ?_
    ·exact vi (clV hf).1.symm
    ·exact vi (clV hf).2.symm
    exact vb (by rw [hf]; rfl)
   skip
   refine aw_skip ?_
   refine K10 _ ?_
   refine yR ?_
   refine yM rfl rfl ?_
   refine aops_n rfl (n_add rfl rfl rfl (by omega)) ?_
   refine yA rfl rfl ?_
   refine yN ?_
   dsimp only [St.put]
   exact ⟨j + 1, by omega, ⟨by omega, by omega, fun b h => by
     have h1 := hJ.2.2 b h
     rcases Nat.eq_or_lt_of_le h1 with h2 | h2
     ·subst h2
      rw [clash_iff (by omega) hx hy, hc] at h
      cases h
     omega⟩, ⟨⟨rfl, rfl⟩, zF, zB, zN, zX⟩⟩
  try replace hc := of_decide_eq_false hc
  refine aw_exit ?_
  refine K6 _ ?_
  refine yR ?_
  refine yM rfl rfl ?_
  refine aops_n rfl (n_add rfl rfl rfl (by omega)) ?_
  refine yA rfl rfl ?_
  refine yN ?_
  dsimp only [St.put]
  exact ⟨k + 1, by omega, ⟨by omega, fun a b h => by
    have h1 := hI.2 a b h
    rcases Nat.eq_or_lt_of_le h1 with h2 | h2
    ·subst h2
     have h3 := hJ.2.2 b h
     obtain ⟨_, x, y, _, hy, _⟩ := h
     have := lt_of_some hy
     omega
    omega⟩, ⟨⟨rfl, rfl⟩, zF, zB, zN, zX⟩⟩
 try replace hc := of_decide_eq_false hc
 refine aw_exit ?_
 refine K2 _ ?_
 refine yS fun _ K13 => ?_
 refine yR ?_
 refine yA rfl rfl ?_
 refine yA rfl rfl ?_
 refine yA rfl rfl ?_
 refine yN ?_
 dsimp only [St.put]
 have hf : firstC e.ss = none := firstC_eq fun a b h => by
   have h1 := hI.2 a b h
   obtain ⟨h2, x, y, _, hy, _⟩ := h
   have := lt_of_some hy
   omega
 refine K13 _ ?_
 refine aw_ret ?_
 refine ends_3 rfl (by constructor) (by constructor) (by constructor) zN zS ?_ ?_ ?_
 ·exact vi (clN hf).1.symm
 ·exact vi (clN hf).2.symm
 exact vb (by rw [hf]; rfl)
theorem Clash_pure (t : TextD) (e : EditionD) : Pure Tryz.prog 66 [textC t, val e] (.tup [.v (.int .i64 (clashA t e)), .v (.int .i64 (clashBv t e)), .v (.int .i64 (clashEr t e))]) := by
 refine pure_of_body Tryz.func66 rfl (fun m => .tup (low_cons .v (low_cons .v (low_cons .v low_nil)))) fun G nx => ?_
 simp only [Tryz.ntmps66, List.length_cons, List.length_nil, Nat.reduceAdd, Nat.reduceSub]
 refine aw_lt fun hlt => ?_
 dsimp only at hlt
 refine yS fun _ K1 => ?_
 refine yR ?_
 try dsimp only [St.put]
 refine yB rfl rfl rfl ?_
 try dsimp only [St.put]
 refine yB rfl rfl rfl ?_
 refine yA rfl rfl ?_
 refine yA rfl rfl ?_
 refine yA rfl rfl ?_
 refine yN ?_
 dsimp only [St.put]
 refine K1 _ ?_
 refine yS fun _ K2 => ?_
 refine yS fun _ K3 => ?_
 refine yR ?_
 try dsimp only [St.put]
 refine aops_s rfl (s_load_agg' rfl rfl rfl) ?_
 refine yE rfl rfl rfl ?_
 try dsimp only [St.put]
 refine aops_e rfl (e_call_pure rfl rfl rfl (Check2_pure t e) ?_)
 refine yA rfl rfl ?_
 refine yN ?_
 dsimp only [St.put]
 refine K3 _ ?_
 refine yS fun _ K4 => ?_
 refine yR ?_
 refine yM rfl rfl ?_
 refine aops_n rfl (n_neq rfl rfl rfl) ?_
 refine yN ?_
 dsimp only [St.put]
 refine K4 _ ?_
 refine aw_cond rfl (fun hc => ?_) (fun hc => ?_)
 ·have h0 : ¬ checkEr t e = 0 := nd_t hc
  refine yS fun _ K5 => ?_
  refine yR ?_
  refine yM rfl rfl ?_
  refine yA rfl rfl ?_
  refine yA rfl rfl ?_
  refine yA rfl rfl ?_
  refine yN ?_
  dsimp only [St.put]
  refine K5 _ ?_
  refine aw_ret ?_
  refine ends_3 rfl (by constructor) (by constructor) (by constructor) zN zS ?_ ?_ ?_
  ·exact vi (by simp [clashA, h0])
  ·exact vi (by simp [clashBv, h0])
  exact vi (by simp [clashEr, h0])
 have h0 : checkEr t e = 0 := nd_f hc
 obtain ⟨ht, hl, he⟩ := checkEr_text h0
 refine aw_skip ?_
 refine K2 _ ?_
 refine yS fun _ K6 => ?_
 refine yR ?_
 refine yE rfl rfl rfl ?_
 try dsimp only [St.put]
 refine aops_e rfl (e_call_pure rfl rfl rfl (clash_pure e hl he) ?_)
 refine yM rfl rfl ?_
 refine yX rfl rfl rfl rfl ?_
 refine yX rfl rfl rfl rfl ?_
 refine yX rfl rfl rfl rfl ?_
 refine yA rfl rfl ?_
 refine yA rfl rfl ?_
 refine yA rfl rfl ?_
 refine yN ?_
 dsimp only [St.put]
 refine K6 _ ?_
 refine yS fun _ K7 => ?_
 refine yS fun _ K8 => ?_
 refine yR ?_
 refine yM rfl rfl ?_
 refine aops_n rfl (n_not rfl rfl) ?_
 refine yN ?_
 dsimp only [St.put]
 refine K8 _ ?_
 refine aw_cond rfl (fun hc => ?_) (fun hc => ?_)
 ·have hf : firstC e.ss = none := by simpa using hc
  refine yS fun _ K9 => ?_
  refine yR ?_
  refine yA rfl rfl ?_
  refine yA rfl rfl ?_
  refine yA rfl rfl ?_
  refine yN ?_
  dsimp only [St.put]
  refine K9 _ ?_
  refine aw_ret ?_
  refine ends_3 rfl (by constructor) (by constructor) (by constructor) zN zS ?_ ?_ ?_
  ·exact vi (by simp [clashA, h0, (clN hf).1])
  ·exact vi (by simp [clashBv, h0, (clN hf).2])
  exact vi (by simp [clashEr, h0, hf])
 have hf : (firstC e.ss).isSome = true := by simpa using hc
 refine aw_skip ?_
 refine K7 _ ?_
 refine yS fun _ K10 => ?_
 refine yR ?_
 refine yM rfl rfl ?_
 refine yM rfl rfl ?_
 refine yA rfl rfl ?_
 refine yA rfl rfl ?_
 refine yA rfl rfl ?_
 refine yN ?_
 dsimp only [St.put]
 refine K10 _ ?_
 refine aw_ret ?_
 refine ends_3 rfl (by constructor) (by constructor) (by constructor) zN zS ?_ ?_ ?_
 ·exact vi (by simp [clashA, h0])
 ·exact vi (by simp [clashBv, h0])
 exact vi (by simp [clashEr, h0, hf])
end Go.Proofs.YtjjklfgpffgnfabGreatDoor
