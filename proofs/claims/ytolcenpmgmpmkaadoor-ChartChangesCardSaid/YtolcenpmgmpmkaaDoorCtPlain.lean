/-
  Contracts of the reference's functions of charts: gaps, plain editions.
-/
import Derived.Test.YtolcenpmgmpmkaaDoorCsRows
namespace Go.AB
open Go Go.RowKit
open Go.PB (Chap TextD PlaceD)
def gapsE (t : TextD) (e : EditionD) : List PlaceD := bif decide (checkEr t e = 0) then gapsR (rowsT t e.ss) else []
noncomputable def plainE (t : TextD) (e : EditionD) : EditionD := bif decide (soundEr t e = 0) then ⟨e.id, plainR (rowsT t e.ss)⟩ else ⟨0, []⟩
theorem soundEr_check {t : TextD} {e : EditionD} (h : soundEr t e = 0) : checkEr t e = 0 ∧ firstC e.ss = none := by
  unfold soundEr at h
  by_cases h0 : checkEr t e = 0
  · simp only [h0, decide_true, cond_true] at h
    cases hf : firstC e.ss with
    | none => exact ⟨h0, rfl⟩
    | some p => rw [hf] at h; simp at h
  · rw [decide_eq_false h0] at h
    exact absurd h h0
end Go.AB
namespace Go.Proofs.YtolcenpmgmpmkaaDoor
set_option maxRecDepth 10000
open Go.RowKit Go.AB
open Go.AB.Enc (cells)
open Go.PB (Chap TextD PlaceD ReadingD CopyD WayD)
theorem Gaps_pure (t : TextD) (e : EditionD) : Pure Tryd.prog 16 [textC t, val e] (.tup [lst (gapsE t e), .v (.int .i64 (checkEr t e))]) := by
  refine pure_of_body Tryd.func16 rfl (fun m => .tup (low_cons (lst_low _ _) (low_cons .v low_nil))) fun G nx => ?_
  simp only [Tryd.ntmps16, List.length_cons, List.length_nil, Nat.reduceAdd, Nat.reduceSub]
  refine aw_lt fun hlt => ?_
  dsimp only at hlt
  refine aw_seq_k fun K1 hK1 => ?_
  refine aw_region ?_
  try dsimp only [St.put]
  refine aops_e rfl (e_box rfl rfl (by simp) ?_)
  try dsimp only [St.put]
  refine aops_e rfl (e_box rfl rfl (by simp) ?_)
  refine aops_n rfl (n_as rfl (by constructor)) ?_
  refine aops_n rfl (n_as rfl (by constructor)) ?_
  refine aops_nil ?_
  dsimp only [St.put]
  refine hK1 _ ?_
  refine aw_seq_k fun K2 hK2 => ?_
  refine aw_seq_k fun K3 hK3 => ?_
  refine aw_region ?_
  try dsimp only [St.put]
  refine aops_s rfl (s_load_agg' rfl rfl rfl) ?_
  try dsimp only [St.put]
  refine aops_s rfl (s_load_agg' rfl rfl (Enc.len _)) ?_
  try dsimp only [St.put]
  refine aops_e rfl (e_call_pure rfl rfl rfl (Check2_pure t e) ?_)
  refine aops_n rfl (n_as rfl (by constructor)) ?_
  refine aops_nil ?_
  dsimp only [St.put]
  refine hK3 _ ?_
  refine aw_seq_k fun K4 hK4 => ?_
  refine aw_region ?_
  refine aops_n rfl (n_mv rfl (by constructor)) ?_
  refine aops_n rfl (n_neq rfl rfl rfl) ?_
  refine aops_nil ?_
  dsimp only [St.put]
  refine hK4 _ ?_
  refine aw_cond rfl (fun hc => ?_) (fun hc => ?_)
  · have h0 : ¬ checkEr t e = 0 := nd_t hc
    refine aw_seq_k fun K5 hK5 => ?_
    refine aw_region ?_
    refine aops_n rfl (n_mv rfl (by constructor)) ?_
    refine aops_n rfl (n_as rfl (by constructor)) ?_
    refine aops_n rfl (n_as rfl (by constructor)) ?_
    refine aops_nil ?_
    dsimp only [St.put]
    refine hK5 _ ?_
    refine aw_ret ?_
    refine ends_v2 rfl (rv_tmp (by constructor)) (rv_tmp (by constructor)) zN zS ?_ ?_
    · rw [show gapsE t e = [] by simp [gapsE, h0]]
      exact zW
    · exact Wk.refl _
  · have h0 : checkEr t e = 0 := nd_f hc
    obtain ⟨ht, hl, he⟩ := checkEr_text h0
    refine aw_skip ?_
    refine hK2 _ ?_
    refine aw_seq_k fun K6 hK6 => ?_
    refine aw_region ?_
    refine aops_n rfl (n_as rfl (by constructor)) ?_
    refine aops_nil ?_
    dsimp only [St.put]
    refine hK6 _ ?_
    refine aw_adopt 7 62 3 rfl (by decide) ?_
    dsimp only [List.set_cons_zero, List.set_cons_succ]
    refine aw_seq_k fun K7 hK7 => ?_
    refine aw_region ?_
    try dsimp only [St.put]
    refine aops_s rfl (s_load_agg' rfl rfl rfl) ?_
    try dsimp only [St.put]
    refine aops_s rfl (s_load_agg' rfl rfl (Enc.len _)) ?_
    try dsimp only [St.put]
    refine aops_e rfl (e_call_pure rfl rfl rfl (rows_pure t e ht hl he) ?_)
    refine aops_n rfl (n_as rfl (by constructor)) ?_
    refine aops_nil ?_
    dsimp only [St.put]
    obtain ⟨l, hlr⟩ : ∃ l, rowsT t e.ss = l := ⟨_, rfl⟩
    have hll : l.length ≤ 60 := hlr ▸ rowsT_all ht e.ss
    have hg : gapsE t e = gapsR l := by simp [gapsE, h0, hlr]
    rw [hlr, hg]
    clear hlr
    refine hK7 _ ?_
    refine aw_seq_k fun K8 hK8 => ?_
    refine aw_seq_k fun K9 hK9 => ?_
    refine aw_region ?_
    refine aops_n rfl (n_as rfl (by constructor)) ?_
    refine aops_nil ?_
    dsimp only [St.put]
    refine hK9 _ ?_
    refine aw_block ?_
    refine aw_wipe 10 ?_
    simp only [firsts, getA, Nat.reduceAdd, List.getD_cons_zero, List.getD_cons_succ, List.getD_nil, natBeq, Nat.reduceBEq, cond_true, cond_false]
    refine aw_forget (setG G nx (.tip 0 62 3)) zX ?_
    dsimp only
    refine aw_loopD (X := Nat) (fun k => k ≤ l.length) (fun k => l.length - k) (fun k => [(7, .list ((gapsR (l.take k)).map cells) (.tip nx)), (9, .v (.int .i64 (k : Int)))]) (fun k G' => (setG G nx (.tip ((gapsR (l.take k))).length 62 3))) 0 rfl ?_ ?_ ?_ ?_ ?_ ?_
    · exact Nat.zero_le _
    · exact zF
    · exact zX
    · rintro k hI
      exact zL
    · rintro k hI
      exact zH
    · rintro k hI
      dsimp only at hI ⊢
      refine aw_seq_k fun K10 hK10 => ?_
      refine aw_seq_k fun K11 hK11 => ?_
      refine aw_region ?_
      refine aops_n rfl (n_mv rfl (by constructor)) ?_
      refine aops_n rfl (n_mv rfl (by constructor)) ?_
      refine aops_n rfl (n_len' rfl rfl (List.length_map _)) ?_
      refine aops_n rfl (n_lss rfl rfl rfl) ?_
      refine aops_nil ?_
      dsimp only [St.put]
      refine hK11 _ ?_
      refine aw_cond rfl (fun hc => ?_) (fun hc => ?_)
      · replace hc := of_decide_eq_true hc
        obtain ⟨r, hr⟩ : ∃ x, l[k]? = some x := some_of_lt (by omega)
        have hgl := gapsR_len (l.take k)
        rw [List.length_take] at hgl
        refine aw_skip ?_
        refine hK10 _ ?_
        refine aw_seq_k fun K12 hK12 => ?_
        refine aw_block ?_
        refine aw_seq_k fun K13 hK13 => ?_
        refine aw_region ?_
        refine aops_n rfl (n_mv rfl (by constructor)) ?_
        refine aops_n rfl (n_mv rfl (by constructor)) ?_
        try dsimp only [St.put]
        refine aops_n rfl (n_indexAddr rfl rfl rfl rfl (map_get (by assumption)) (Enc.len _)) ?_
        refine aops_n rfl (n_fieldAddr' rfl rfl rfl) ?_
        try dsimp only [St.put]
        refine aops_s rfl (s_load rfl rfl) ?_
        refine aops_n rfl (n_eql rfl rfl rfl) ?_
        refine aops_nil ?_
        dsimp only [St.put]
        refine hK13 _ ?_
        refine aw_cond rfl (fun hc => ?_) (fun hc => ?_)
        · have hd : decide (r.au = 0) = true := hc
          refine aw_draw [(0, none), (1, none), (2, none), (3, none), (4, none), (5, none), (6, none), (7, none), (8, none), (9, none), (10, none), (11, none), (12, none), (13, none), (14, none)] (fun i => [12, 13].contains i) (fun i => [12, 13].contains i) (fun i => [0, 1, 2, 3, 4, 6, 7, 8, 9, 11, 14].contains i) [] (by kernel_rfl) (by kernel_rfl) ?_
          refine acan1_n rfl rfl rfl rfl (n_mv rfl (by constructor)) ?_
          refine acan1_n rfl rfl rfl rfl (n_mv rfl (by constructor)) ?_
          refine acan1_n rfl rfl rfl rfl (n_mv rfl (by constructor)) ?_
          try dsimp only [St.put]
          refine acan1_n rfl rfl rfl rfl (n_indexAddr rfl rfl rfl rfl (map_get (by assumption)) (Enc.len _)) ?_
          refine acan1_n rfl rfl rfl rfl (n_fieldAddr' rfl rfl rfl) ?_
          try dsimp only [St.put]
          refine acan1_s rfl rfl rfl rfl (s_load rfl rfl) ?_
          refine acan1_n rfl rfl rfl rfl (n_mv rfl (by constructor)) ?_
          refine acan1_n rfl rfl rfl rfl (n_mv rfl (by constructor)) ?_
          try dsimp only [St.put]
          refine acan1_n rfl rfl rfl rfl (n_indexAddr rfl rfl rfl rfl (map_get (by assumption)) (Enc.len _)) ?_
          refine acan1_n rfl rfl rfl rfl (n_fieldAddr' rfl rfl rfl) ?_
          try dsimp only [St.put]
          refine acan1_s rfl rfl rfl rfl (s_load rfl rfl) ?_
          refine acan1_n rfl rfl rfl rfl (n_build rfl rfl) ?_
          refine acan1_two ?_
          try dsimp only [St.put]
          refine acan2_late rfl rfl rfl rfl (e_buildSlice rfl rfl rfl (by decide) (by decide) zR (by decide) ?_)
          try dsimp only [St.put]
          refine acan2_late rfl rfl rfl rfl (e_append ([(⟨r.ch, r.ln, 0⟩ : PlaceD)]) rfl rfl zG (by first | rfl | simp) rfl rfl zA ?_ zA)
          refine acan2_n rfl rfl rfl rfl (n_as rfl (by constructor)) ?_
          refine acan2_nil ?_
          dsimp only [St.put]
          refine hK12 _ ?_
          refine aw_region ?_
          refine aops_n rfl (n_mv rfl (by constructor)) ?_
          refine aops_n rfl (n_add rfl rfl rfl (by omega)) ?_
          refine aops_n rfl (n_as rfl (by constructor)) ?_
          refine aops_nil ?_
          dsimp only [St.put]
          first
            | (rw [show gapsR (l.take k) ++ [(⟨r.ch, r.ln, 0⟩ : PlaceD)] = gapsR (l.take (k + 1)) by rw [gapsR_succ hr, hd]; rfl]; exact ⟨k + 1, by omega, by omega, ⟨⟨rfl, rfl⟩, zF, zB, zN, zX⟩⟩)
            | (rw [show gapsR (l.take k) = gapsR (l.take (k + 1)) by rw [gapsR_succ hr, hd]; rfl]; exact ⟨k + 1, by omega, by omega, ⟨⟨rfl, rfl⟩, zF, zB, zN, zX⟩⟩)
        · have hd : decide (r.au = 0) = false := hc
          refine aw_skip ?_
          refine hK12 _ ?_
          refine aw_region ?_
          refine aops_n rfl (n_mv rfl (by constructor)) ?_
          refine aops_n rfl (n_add rfl rfl rfl (by omega)) ?_
          refine aops_n rfl (n_as rfl (by constructor)) ?_
          refine aops_nil ?_
          dsimp only [St.put]
          first
            | (rw [show gapsR (l.take k) ++ [(⟨r.ch, r.ln, 0⟩ : PlaceD)] = gapsR (l.take (k + 1)) by rw [gapsR_succ hr, hd]; rfl]; exact ⟨k + 1, by omega, by omega, ⟨⟨rfl, rfl⟩, zF, zB, zN, zX⟩⟩)
            | (rw [show gapsR (l.take k) = gapsR (l.take (k + 1)) by rw [gapsR_succ hr, hd]; rfl]; exact ⟨k + 1, by omega, by omega, ⟨⟨rfl, rfl⟩, zF, zB, zN, zX⟩⟩)
      · try replace hc := of_decide_eq_false hc
        refine aw_exit ?_
        refine hK8 _ ?_
        refine aw_seq_k fun K14 hK14 => ?_
        refine aw_region ?_
        refine aops_n rfl (n_mv rfl (by constructor)) ?_
        refine aops_n rfl (n_as rfl (by constructor)) ?_
        refine aops_n rfl (n_as rfl (by constructor)) ?_
        refine aops_nil ?_
        dsimp only [St.put]
        refine hK14 _ ?_
        refine aw_ret ?_
        refine ends_v2 rfl (rv_tmp (by constructor)) (rv_tmp (by constructor)) zN zS ?_ ?_
        · rw [hg, take_all (show l.length ≤ k by omega)]
          exact zW
        · exact Wk.of_eq (vi h0.symm)
theorem plain_pure (l : List RowD) (hll : l.length ≤ 60) (hbd : ∀ r ∈ l, RBd r) : Pure Tryd.prog 79 [lst l] (lst (plainR l)) := by
  refine pure_of_body Tryd.func79 rfl (fun m => (lst_low _ _)) fun G nx => ?_
  simp only [Tryd.ntmps79, List.length_cons, List.length_nil, Nat.reduceAdd, Nat.reduceSub]
  refine aw_lt fun hlt => ?_
  dsimp only at hlt
  refine aw_seq_k fun K1 hK1 => ?_
  refine aw_region ?_
  refine aops_n rfl (n_as rfl (by constructor)) ?_
  refine aops_nil ?_
  dsimp only [St.put]
  refine hK1 _ ?_
  refine aw_seq_k fun K2 hK2 => ?_
  refine aw_region ?_
  refine aops_n rfl (n_as rfl (by constructor)) ?_
  refine aops_nil ?_
  dsimp only [St.put]
  refine hK2 _ ?_
  refine aw_adopt_own 3 50 5 rfl (by decide) ?_
  dsimp only
  refine aw_seq_k fun K3 hK3 => ?_
  refine aw_seq_k fun K4 hK4 => ?_
  refine aw_region ?_
  refine aops_n rfl (n_as rfl (by constructor)) ?_
  refine aops_nil ?_
  dsimp only [St.put]
  refine hK4 _ ?_
  refine aw_block ?_
  refine aw_wipe 8 ?_
  simp only [firsts, getA, Nat.reduceAdd, List.getD_cons_zero, List.getD_cons_succ, List.getD_nil, natBeq, Nat.reduceBEq, cond_true, cond_false]
  refine aw_forget (setG G nx (.arr 0 0 50 5 0 [])) zX ?_
  dsimp only
  refine aw_loopD (X := Nat × Nat) (fun x => x.1 ≤ l.length) (fun x => l.length - x.1) (fun x => [(3, .own nx (plainR (l.take x.1)).length (plainR (l.take x.1)).length), (4, .v (.int .i64 (x.1 : Int))), (5, .any), (6, .any), (7, .any)]) (fun x G' => (setG G nx (.arr ((plainR (l.take x.1))).length x.2 50 5 ((plainR (l.take x.1))).length (flatC ((plainR (l.take x.1))))))) (0, 0) rfl ?_ ?_ ?_ ?_ ?_ ?_
  · exact Nat.zero_le _
  · exact zF
  · exact zX
  · rintro ⟨k, wv⟩ hI
    exact zL
  · rintro ⟨k, wv⟩ hI
    exact zH
  · rintro ⟨k, wv⟩ hI
    dsimp only at hI ⊢
    obtain ⟨out, hout⟩ : ∃ out, plainR (l.take k) = out := ⟨_, rfl⟩
    rw [hout]
    have hol : out.length ≤ 60 := by
      have := plainR_len (l.take k)
      rw [hout, List.length_take] at this
      omega
    have hob : ∀ s ∈ out, SBd s := hout ▸ plainR_bd fun r hr => hbd r (List.mem_of_mem_take hr)
    refine aw_seq_k fun K5 hK5 => ?_
    refine aw_seq_k fun K6 hK6 => ?_
    refine aw_region ?_
    refine aops_n rfl (n_mv rfl (by constructor)) ?_
    refine aops_n rfl (n_mv rfl (by constructor)) ?_
    refine aops_n rfl (n_len' rfl rfl (List.length_map _)) ?_
    refine aops_n rfl (n_lss rfl rfl rfl) ?_
    refine aops_nil ?_
    dsimp only [St.put]
    refine hK6 _ ?_
    refine aw_cond rfl (fun hc => ?_) (fun hc => ?_)
    · replace hc := of_decide_eq_true hc
      obtain ⟨r, hr⟩ : ∃ x, l[k]? = some x := some_of_lt (by omega)
      obtain ⟨r1, r2, r3, r4⟩ := hbd r (mem_of_get hr)
      refine aw_skip ?_
      refine hK5 _ ?_
      refine aw_seq_k fun K7 hK7 => ?_
      refine aw_block ?_
      refine aw_seq_k fun K8 hK8 => ?_
      refine aw_region ?_
      refine aops_n rfl (n_mv rfl (by constructor)) ?_
      refine aops_n rfl (n_mv rfl (by constructor)) ?_
      try dsimp only [St.put]
      refine aops_n rfl (n_indexAddr rfl rfl rfl rfl (map_get (by assumption)) (Enc.len _)) ?_
      try dsimp only [St.put]
      refine aops_s rfl (s_load_agg' rfl rfl (Enc.len _)) ?_
      try dsimp only [St.put]
      refine aops_e rfl (e_allocC rfl ?_)
      try dsimp only [St.put]
      refine aops_e rfl (e_store_all rfl rfl rfl zG rfl rfl (by rfl) ?_)
      refine aops_nil ?_
      dsimp only [St.put]
      refine hK8 _ ?_
      refine aw_commitD (i := 5) rfl zG (by first | exact List.cons_ne_nil _ _ | (simp; done) | (simp [putAt]; done)) ?_
      dsimp only
      refine aw_seq_k fun K9 hK9 => ?_
      refine aw_seq_k fun K10 hK10 => ?_
      refine aw_region ?_
      refine aops_n rfl (n_fieldAddr' rfl rfl rfl) ?_
      try dsimp only [St.put]
      refine aops_s rfl (s_load rfl rfl) ?_
      refine aops_n rfl (n_eql rfl rfl rfl) ?_
      refine aops_nil ?_
      dsimp only [St.put]
      refine hK10 _ ?_
      refine aw_cond rfl (fun hc => ?_) (fun hc => ?_)
      · have hd : decide (r.au = 0) = true := hc
        refine aw_exit ?_
        refine hK7 _ ?_
        refine aw_region ?_
        refine aops_n rfl (n_mv rfl (by constructor)) ?_
        refine aops_n rfl (n_add rfl rfl rfl (by omega)) ?_
        refine aops_n rfl (n_as rfl (by constructor)) ?_
        refine aops_nil ?_
        dsimp only [St.put]
        have e2 := plainR_succ hr
        rw [hout, hd] at e2
        first
        | (rw [hm] at e2
           have e3 : out.length + 1 = (plainR (l.take (k + 1))).length := by rw [e2]; simp
           simp only [cond_false] at e2
           rw [← e2, e3]
           exact ⟨(k + 1, wv), by (dsimp only; omega), by (dsimp only; omega), ⟨⟨rfl, rfl⟩, zF, zB, zN, zX⟩⟩)
        | (rw [ho] at e2
           simp only [cond_false] at e2
           have e3 : out.length = (plainR (l.take (k + 1))).length := by rw [e2]; simp
           rw [← e2, e3]
           exact ⟨(k + 1, wv + 1), by (dsimp only; omega), by (dsimp only; omega), ⟨⟨rfl, rfl⟩, zF, zB, zN, zX⟩⟩)
        | (simp only [cond_true] at e2
           rw [← e2]
           exact ⟨(k + 1, wv), by (dsimp only; omega), by (dsimp only; omega), ⟨⟨rfl, rfl⟩, zF, zB, zN, zX⟩⟩)
      · have hd : decide (r.au = 0) = false := hc
        refine aw_skip ?_
        refine hK9 _ ?_
        refine aw_seq_k fun K11 hK11 => ?_
        refine aw_seq_k fun K12 hK12 => ?_
        refine aw_region ?_
        refine aops_n rfl (n_mv rfl (by constructor)) ?_
        refine aops_n rfl (n_len_own rfl rfl) ?_
        refine aops_n rfl (n_as rfl (by constructor)) ?_
        refine aops_nil ?_
        dsimp only [St.put]
        refine hK12 _ ?_
        refine aw_seq_k fun K13 hK13 => ?_
        refine aw_region ?_
        refine aops_n rfl (n_mv rfl (by constructor)) ?_
        refine aops_n rfl (n_gtr rfl rfl rfl) ?_
        refine aops_nil ?_
        dsimp only [St.put]
        refine hK13 _ ?_
        refine aw_cond rfl (fun hc => ?_) (fun hc => ?_)
        · replace hc := of_decide_eq_true hc
          obtain ⟨s, hz⟩ : ∃ x, out[out.length - 1]? = some x := some_of_lt (by omega)
          obtain ⟨b1, b2, b3⟩ := hob s (mem_of_get hz)
          refine aw_seq_k fun K14 hK14 => ?_
          refine aw_region ?_
          refine aops_n rfl (n_mv rfl (by constructor)) ?_
          refine aops_n rfl (n_mv rfl (by constructor)) ?_
          refine aops_n rfl (n_sub rfl rfl rfl (by omega)) ?_
          try dsimp only [St.put]
          refine aops_n rfl (n_indexAddr_own (k := (out.length - 1)) rfl rfl zG rfl (by first | exact rfl | omega) (by first | omega | (simp; omega))) ?_
          refine aops_n rfl (n_as rfl (by constructor)) ?_
          refine aops_nil ?_
          dsimp only [St.put]
          refine hK14 _ ?_
          refine aw_wipe 8 ?_
          simp only [firsts, getA, Nat.reduceAdd, List.getD_cons_zero, List.getD_cons_succ, List.getD_nil, natBeq, Nat.reduceBEq, cond_true, cond_false]
          refine aw_cutD (X := Bool) (fun b => goesOn s (r.ch, r.ln) (r.au, r.nu) = b) (fun b => [(72, .v (.bool b))]) (fun b G' => G') rfl ?_ (fun _ _ _ _ h => .inl h) ?_ ?_
          · rintro b hI
            exact zL
          · refine aw_draw [(0, none), (1, none), (2, none), (3, none), (4, none), (5, none), (6, none), (7, none), (8, none), (9, none), (10, none), (11, none), (12, none), (13, none), (14, none), (15, none), (16, none), (17, none), (18, none), (19, none), (20, none), (21, none), (22, none), (23, none), (24, none), (25, none), (26, none), (27, none), (28, none), (29, none), (30, none), (31, none), (32, none), (33, none), (34, none), (35, none), (36, none), (37, none), (38, none), (39, none), (40, none), (41, none), (42, none), (43, none)] (fun i => [].contains i) (fun i => [].contains i) (fun i => [0, 1, 2, 4, 6, 7, 8, 9, 10, 12, 14, 15, 16, 17, 18, 19, 21, 23, 24, 25, 26, 27, 28, 30, 31, 32, 34, 35, 36, 37, 39, 40, 42, 43].contains i) [nx] (by kernel_rfl) (by kernel_rfl) ?_
            refine acan1_n rfl rfl rfl rfl (n_mv rfl (by constructor)) ?_
            refine acan1_n rfl rfl rfl rfl (n_nilCheck_box rfl rfl) ?_
            refine acan1_n rfl rfl rfl rfl (n_fieldAddr_box rfl rfl) ?_
            try dsimp only [St.put]
            refine acan1_s rfl rfl rfl rfl (s_load_own rfl rfl zG (by simp) (flatC_get (by assumption) rfl)) ?_
            refine acan1_n rfl rfl rfl rfl (n_fieldAddr' rfl rfl rfl) ?_
            try dsimp only [St.put]
            refine acan1_s rfl rfl rfl rfl (s_load rfl rfl) ?_
            refine acan1_n rfl rfl rfl rfl (n_eql rfl rfl rfl) ?_
            refine acan1_n rfl rfl rfl rfl (n_mv rfl (by constructor)) ?_
            refine acan1_split (fun hs => ?_) (fun hs => ?_)
            · have q1 := of_decide_eq_true hs
              refine acan1_n rfl rfl rfl rfl (n_mv rfl (by constructor)) ?_
              refine acan1_n rfl rfl rfl rfl (n_nilCheck_box rfl rfl) ?_
              refine acan1_n rfl rfl rfl rfl (n_fieldAddr_box rfl rfl) ?_
              try dsimp only [St.put]
              refine acan1_s rfl rfl rfl rfl (s_load_own rfl rfl zG (by simp) (flatC_get (by assumption) rfl)) ?_
              refine acan1_n rfl rfl rfl rfl (n_fieldAddr' rfl rfl rfl) ?_
              try dsimp only [St.put]
              refine acan1_s rfl rfl rfl rfl (s_load rfl rfl) ?_
              refine acan1_n rfl rfl rfl rfl (n_eql rfl rfl rfl) ?_
              refine acan1_n rfl rfl rfl rfl (n_pt rfl rfl (by constructor)) ?_
              refine acan1_n rfl rfl rfl rfl (n_mv rfl (by constructor)) ?_
              refine acan1_split (fun hs => ?_) (fun hs => ?_)
              · have q2 := of_decide_eq_true hs
                refine acan1_n rfl rfl rfl rfl (n_mv rfl (by constructor)) ?_
                refine acan1_n rfl rfl rfl rfl (n_nilCheck_box rfl rfl) ?_
                refine acan1_n rfl rfl rfl rfl (n_fieldAddr_box rfl rfl) ?_
                try dsimp only [St.put]
                refine acan1_s rfl rfl rfl rfl (s_load_own rfl rfl zG (by simp) (flatC_get (by assumption) rfl)) ?_
                refine acan1_n rfl rfl rfl rfl (n_fieldAddr' rfl rfl rfl) ?_
                try dsimp only [St.put]
                refine acan1_s rfl rfl rfl rfl (s_load rfl rfl) ?_
                refine acan1_n rfl rfl rfl rfl (n_eql rfl rfl rfl) ?_
                refine acan1_n rfl rfl rfl rfl (n_pt rfl rfl (by constructor)) ?_
                refine acan1_n rfl rfl rfl rfl (n_mv rfl (by constructor)) ?_
                refine acan1_split (fun hs => ?_) (fun hs => ?_)
                · have q3 := of_decide_eq_true hs
                  refine acan1_n rfl rfl rfl rfl (n_mv rfl (by constructor)) ?_
                  refine acan1_n rfl rfl rfl rfl (n_nilCheck_box rfl rfl) ?_
                  refine acan1_n rfl rfl rfl rfl (n_fieldAddr_box rfl rfl) ?_
                  try dsimp only [St.put]
                  refine acan1_s rfl rfl rfl rfl (s_load_own rfl rfl zG (by simp) (flatC_get (by assumption) rfl)) ?_
                  refine acan1_n rfl rfl rfl rfl (n_mv rfl (by constructor)) ?_
                  refine acan1_n rfl rfl rfl rfl (n_nilCheck_box rfl rfl) ?_
                  refine acan1_n rfl rfl rfl rfl (n_fieldAddr_box rfl rfl) ?_
                  try dsimp only [St.put]
                  refine acan1_s rfl rfl rfl rfl (s_load_own rfl rfl zG (by simp) (flatC_get (by assumption) rfl)) ?_
                  refine acan1_n rfl rfl rfl rfl (n_add rfl rfl rfl (by omega)) ?_
                  refine acan1_n rfl rfl rfl rfl (n_mv rfl (by constructor)) ?_
                  refine acan1_n rfl rfl rfl rfl (n_nilCheck_box rfl rfl) ?_
                  refine acan1_n rfl rfl rfl rfl (n_fieldAddr_box rfl rfl) ?_
                  try dsimp only [St.put]
                  refine acan1_s rfl rfl rfl rfl (s_load_own rfl rfl zG (by simp) (flatC_get (by assumption) rfl)) ?_
                  refine acan1_n rfl rfl rfl rfl (n_sub rfl rfl rfl (by omega)) ?_
                  refine acan1_n rfl rfl rfl rfl (n_fieldAddr' rfl rfl rfl) ?_
                  try dsimp only [St.put]
                  refine acan1_s rfl rfl rfl rfl (s_load rfl rfl) ?_
                  refine acan1_n rfl rfl rfl rfl (n_eql rfl rfl rfl) ?_
                  refine acan1_n rfl rfl rfl rfl (n_pt rfl rfl (by constructor)) ?_
                  refine acan1_nil ?_
                  dsimp only [St.put]
                  refine ⟨_, ?_, ⟨⟨rfl, rfl⟩, zF, zB, zN, zX⟩⟩
                  (simp [goesOn, q1, q2, q3]; omega)
                · have q3 := of_decide_eq_false hs
                  refine acan1_skip rfl rfl rfl ?_
                  refine acan1_skip rfl rfl rfl ?_
                  refine acan1_skip rfl rfl rfl ?_
                  refine acan1_skip rfl rfl rfl ?_
                  refine acan1_skip rfl rfl rfl ?_
                  refine acan1_skip rfl rfl rfl ?_
                  refine acan1_skip rfl rfl rfl ?_
                  refine acan1_skip rfl rfl rfl ?_
                  refine acan1_skip rfl rfl rfl ?_
                  refine acan1_skip rfl rfl rfl ?_
                  refine acan1_skip rfl rfl rfl ?_
                  refine acan1_skip rfl rfl rfl ?_
                  refine acan1_skip rfl rfl rfl ?_
                  refine acan1_skip rfl rfl rfl ?_
                  refine acan1_skip rfl rfl rfl ?_
                  refine acan1_skip rfl rfl rfl ?_
                  refine acan1_skip rfl rfl rfl ?_
                  refine acan1_n rfl rfl rfl rfl (n_pf rfl rfl (by constructor)) ?_
                  refine acan1_nil ?_
                  dsimp only [St.put]
                  refine ⟨_, ?_, ⟨⟨rfl, rfl⟩, zF, zB, zN, zX⟩⟩
                  (simp [goesOn, q1, q2, q3]; done)
              · have q2 := of_decide_eq_false hs
                refine acan1_skip rfl rfl rfl ?_
                refine acan1_skip rfl rfl rfl ?_
                refine acan1_skip rfl rfl rfl ?_
                refine acan1_skip rfl rfl rfl ?_
                refine acan1_skip rfl rfl rfl ?_
                refine acan1_skip rfl rfl rfl ?_
                refine acan1_skip rfl rfl rfl ?_
                refine acan1_n rfl rfl rfl rfl (n_pf rfl rfl (by constructor)) ?_
                refine acan1_n rfl rfl rfl rfl (n_mv rfl (by constructor)) ?_
                refine acan1_skip rfl rfl rfl ?_
                refine acan1_skip rfl rfl rfl ?_
                refine acan1_skip rfl rfl rfl ?_
                refine acan1_skip rfl rfl rfl ?_
                refine acan1_skip rfl rfl rfl ?_
                refine acan1_skip rfl rfl rfl ?_
                refine acan1_skip rfl rfl rfl ?_
                refine acan1_skip rfl rfl rfl ?_
                refine acan1_skip rfl rfl rfl ?_
                refine acan1_skip rfl rfl rfl ?_
                refine acan1_skip rfl rfl rfl ?_
                refine acan1_skip rfl rfl rfl ?_
                refine acan1_skip rfl rfl rfl ?_
                refine acan1_skip rfl rfl rfl ?_
                refine acan1_skip rfl rfl rfl ?_
                refine acan1_skip rfl rfl rfl ?_
                refine acan1_skip rfl rfl rfl ?_
                refine acan1_n rfl rfl rfl rfl (n_pf rfl rfl (by constructor)) ?_
                refine acan1_nil ?_
                dsimp only [St.put]
                refine ⟨_, ?_, ⟨⟨rfl, rfl⟩, zF, zB, zN, zX⟩⟩
                (simp [goesOn, q1, q2]; done)
            · have q1 := of_decide_eq_false hs
              refine acan1_skip rfl rfl rfl ?_
              refine acan1_skip rfl rfl rfl ?_
              refine acan1_skip rfl rfl rfl ?_
              refine acan1_skip rfl rfl rfl ?_
              refine acan1_skip rfl rfl rfl ?_
              refine acan1_skip rfl rfl rfl ?_
              refine acan1_skip rfl rfl rfl ?_
              refine acan1_n rfl rfl rfl rfl (n_pf rfl rfl (by constructor)) ?_
              refine acan1_n rfl rfl rfl rfl (n_mv rfl (by constructor)) ?_
              refine acan1_skip rfl rfl rfl ?_
              refine acan1_skip rfl rfl rfl ?_
              refine acan1_skip rfl rfl rfl ?_
              refine acan1_skip rfl rfl rfl ?_
              refine acan1_skip rfl rfl rfl ?_
              refine acan1_skip rfl rfl rfl ?_
              refine acan1_skip rfl rfl rfl ?_
              refine acan1_n rfl rfl rfl rfl (n_pf rfl rfl (by constructor)) ?_
              refine acan1_n rfl rfl rfl rfl (n_mv rfl (by constructor)) ?_
              refine acan1_skip rfl rfl rfl ?_
              refine acan1_skip rfl rfl rfl ?_
              refine acan1_skip rfl rfl rfl ?_
              refine acan1_skip rfl rfl rfl ?_
              refine acan1_skip rfl rfl rfl ?_
              refine acan1_skip rfl rfl rfl ?_
              refine acan1_skip rfl rfl rfl ?_
              refine acan1_skip rfl rfl rfl ?_
              refine acan1_skip rfl rfl rfl ?_
              refine acan1_skip rfl rfl rfl ?_
              refine acan1_skip rfl rfl rfl ?_
              refine acan1_skip rfl rfl rfl ?_
              refine acan1_skip rfl rfl rfl ?_
              refine acan1_skip rfl rfl rfl ?_
              refine acan1_skip rfl rfl rfl ?_
              refine acan1_skip rfl rfl rfl ?_
              refine acan1_skip rfl rfl rfl ?_
              refine acan1_n rfl rfl rfl rfl (n_pf rfl rfl (by constructor)) ?_
              refine acan1_nil ?_
              dsimp only [St.put]
              refine ⟨_, ?_, ⟨⟨rfl, rfl⟩, zF, zB, zN, zX⟩⟩
              (simp [goesOn, q1]; done)
          · rintro b hst
            dsimp only at hst ⊢
            refine aw_cond rfl (fun hc => ?_) (fun hc => ?_)
            · have ho := mergeS_on hz (hst.trans hc)
              have hot : s.tt = r.ln := by
                have := hst.trans hc
                simp only [goesOn, Bool.and_eq_true, decide_eq_true_eq] at this
                exact this.2.1
              refine aw_seq_k fun K16 hK16 => ?_
              refine aw_region ?_
              refine aops_n rfl (n_mv rfl (by constructor)) ?_
              refine aops_n rfl (n_nilCheck_box rfl rfl) ?_
              refine aops_n rfl (n_fieldAddr_box rfl rfl) ?_
              try dsimp only [St.put]
              refine aops_s rfl (s_load_own rfl rfl zG trivial (flatC_get (by assumption) rfl)) ?_
              refine aops_n rfl (n_add rfl rfl rfl (by omega)) ?_
              refine aops_n rfl (n_nilCheck_box rfl rfl) ?_
              refine aops_n rfl (n_fieldAddr_box rfl rfl) ?_
              try dsimp only [St.put]
              refine aops_e rfl (e_store_own1 (k := out.length - 1) (j := 2) (z := s) (z' := { s with tt := s.tt + 1 }) rfl rfl rfl zG rfl rfl hz rfl (by decide) rfl ?_)
              refine aops_nil ?_
              dsimp only [St.put]
              refine hK16 _ ?_
              refine aw_exit ?_
              refine hK7 _ ?_
              refine aw_region ?_
              refine aops_n rfl (n_mv rfl (by constructor)) ?_
              refine aops_n rfl (n_add rfl rfl rfl (by omega)) ?_
              refine aops_n rfl (n_as rfl (by constructor)) ?_
              refine aops_nil ?_
              dsimp only [St.put]
              have e2 := plainR_succ hr
              rw [hout, hd] at e2
              first
              | (rw [hm] at e2
                 have e3 : out.length + 1 = (plainR (l.take (k + 1))).length := by rw [e2]; simp
                 simp only [cond_false] at e2
                 rw [← e2, e3]
                 exact ⟨(k + 1, wv), by (dsimp only; omega), by (dsimp only; omega), ⟨⟨rfl, rfl⟩, zF, zB, zN, zX⟩⟩)
              | (rw [ho] at e2
                 simp only [cond_false] at e2
                 have e3 : out.length = (plainR (l.take (k + 1))).length := by rw [e2]; simp
                 rw [← e2, e3]
                 exact ⟨(k + 1, wv + 1), by (dsimp only; omega), by (dsimp only; omega), ⟨⟨rfl, rfl⟩, zF, zB, zN, zX⟩⟩)
              | (simp only [cond_true] at e2
                 rw [← e2]
                 exact ⟨(k + 1, wv), by (dsimp only; omega), by (dsimp only; omega), ⟨⟨rfl, rfl⟩, zF, zB, zN, zX⟩⟩)
            · have hm := mergeS_new hz (hst.trans hc)
              refine aw_skip ?_
              refine hK11 _ ?_
              refine aw_region ?_
              refine aops_n rfl (n_mv rfl (by constructor)) ?_
              refine aops_n rfl (n_fieldAddr' rfl rfl rfl) ?_
              try dsimp only [St.put]
              refine aops_s rfl (s_load rfl rfl) ?_
              refine aops_n rfl (n_fieldAddr' rfl rfl rfl) ?_
              try dsimp only [St.put]
              refine aops_s rfl (s_load rfl rfl) ?_
              refine aops_n rfl (n_fieldAddr' rfl rfl rfl) ?_
              try dsimp only [St.put]
              refine aops_s rfl (s_load rfl rfl) ?_
              refine aops_n rfl (n_add rfl rfl rfl (by omega)) ?_
              refine aops_n rfl (n_fieldAddr' rfl rfl rfl) ?_
              try dsimp only [St.put]
              refine aops_s rfl (s_load rfl rfl) ?_
              refine aops_n rfl (n_fieldAddr' rfl rfl rfl) ?_
              try dsimp only [St.put]
              refine aops_s rfl (s_load rfl rfl) ?_
              refine aops_n rfl (n_build rfl rfl) ?_
              try dsimp only [St.put]
              refine aops_e rfl (e_buildSlice rfl rfl rfl (by decide) (by decide) zR (by decide) ?_)
              try dsimp only [St.put]
              refine aops_e rfl (e_append_own (⟨r.ch, r.ln, r.ln + 1, r.au, r.nu⟩ : StretchD) rfl rfl zG rfl rfl rfl rfl zA ?_ zA)
              refine aops_n rfl (n_as rfl (by constructor)) ?_
              refine aops_nil ?_
              dsimp only [St.put]
              refine hK7 _ ?_
              refine aw_region ?_
              refine aops_n rfl (n_mv rfl (by constructor)) ?_
              refine aops_n rfl (n_add rfl rfl rfl (by omega)) ?_
              refine aops_n rfl (n_as rfl (by constructor)) ?_
              refine aops_nil ?_
              dsimp only [St.put]
              have e2 := plainR_succ hr
              rw [hout, hd] at e2
              first
              | (rw [hm] at e2
                 have e3 : out.length + 1 = (plainR (l.take (k + 1))).length := by rw [e2]; simp
                 simp only [cond_false] at e2
                 rw [← e2, e3]
                 exact ⟨(k + 1, wv), by (dsimp only; omega), by (dsimp only; omega), ⟨⟨rfl, rfl⟩, zF, zB, zN, zX⟩⟩)
              | (rw [ho] at e2
                 simp only [cond_false] at e2
                 have e3 : out.length = (plainR (l.take (k + 1))).length := by rw [e2]; simp
                 rw [← e2, e3]
                 exact ⟨(k + 1, wv + 1), by (dsimp only; omega), by (dsimp only; omega), ⟨⟨rfl, rfl⟩, zF, zB, zN, zX⟩⟩)
              | (simp only [cond_true] at e2
                 rw [← e2]
                 exact ⟨(k + 1, wv), by (dsimp only; omega), by (dsimp only; omega), ⟨⟨rfl, rfl⟩, zF, zB, zN, zX⟩⟩)
        · replace hc := of_decide_eq_false hc
          have hm : mergeS out (r.ch, r.ln) (r.au, r.nu) = out ++ [(⟨r.ch, r.ln, r.ln + 1, r.au, r.nu⟩ : StretchD)] := mergeS_nil (List.eq_nil_of_length_eq_zero (by omega))
          refine aw_skip ?_
          refine hK11 _ ?_
          refine aw_region ?_
          refine aops_n rfl (n_mv rfl (by constructor)) ?_
          refine aops_n rfl (n_fieldAddr' rfl rfl rfl) ?_
          try dsimp only [St.put]
          refine aops_s rfl (s_load rfl rfl) ?_
          refine aops_n rfl (n_fieldAddr' rfl rfl rfl) ?_
          try dsimp only [St.put]
          refine aops_s rfl (s_load rfl rfl) ?_
          refine aops_n rfl (n_fieldAddr' rfl rfl rfl) ?_
          try dsimp only [St.put]
          refine aops_s rfl (s_load rfl rfl) ?_
          refine aops_n rfl (n_add rfl rfl rfl (by omega)) ?_
          refine aops_n rfl (n_fieldAddr' rfl rfl rfl) ?_
          try dsimp only [St.put]
          refine aops_s rfl (s_load rfl rfl) ?_
          refine aops_n rfl (n_fieldAddr' rfl rfl rfl) ?_
          try dsimp only [St.put]
          refine aops_s rfl (s_load rfl rfl) ?_
          refine aops_n rfl (n_build rfl rfl) ?_
          try dsimp only [St.put]
          refine aops_e rfl (e_buildSlice rfl rfl rfl (by decide) (by decide) zR (by decide) ?_)
          try dsimp only [St.put]
          refine aops_e rfl (e_append_own (⟨r.ch, r.ln, r.ln + 1, r.au, r.nu⟩ : StretchD) rfl rfl zG rfl rfl rfl rfl zA ?_ zA)
          refine aops_n rfl (n_as rfl (by constructor)) ?_
          refine aops_nil ?_
          dsimp only [St.put]
          refine hK7 _ ?_
          refine aw_region ?_
          refine aops_n rfl (n_mv rfl (by constructor)) ?_
          refine aops_n rfl (n_add rfl rfl rfl (by omega)) ?_
          refine aops_n rfl (n_as rfl (by constructor)) ?_
          refine aops_nil ?_
          dsimp only [St.put]
          have e2 := plainR_succ hr
          rw [hout, hd] at e2
          first
          | (rw [hm] at e2
             have e3 : out.length + 1 = (plainR (l.take (k + 1))).length := by rw [e2]; simp
             simp only [cond_false] at e2
             rw [← e2, e3]
             exact ⟨(k + 1, wv), by (dsimp only; omega), by (dsimp only; omega), ⟨⟨rfl, rfl⟩, zF, zB, zN, zX⟩⟩)
          | (rw [ho] at e2
             simp only [cond_false] at e2
             have e3 : out.length = (plainR (l.take (k + 1))).length := by rw [e2]; simp
             rw [← e2, e3]
             exact ⟨(k + 1, wv + 1), by (dsimp only; omega), by (dsimp only; omega), ⟨⟨rfl, rfl⟩, zF, zB, zN, zX⟩⟩)
          | (simp only [cond_true] at e2
             rw [← e2]
             exact ⟨(k + 1, wv), by (dsimp only; omega), by (dsimp only; omega), ⟨⟨rfl, rfl⟩, zF, zB, zN, zX⟩⟩)
    · replace hc := of_decide_eq_false hc
      refine aw_exit ?_
      refine hK3 _ ?_
      refine aw_seq_k fun K17 hK17 => ?_
      refine aw_region ?_
      refine aops_n rfl (n_mv rfl (by constructor)) ?_
      refine aops_n rfl (n_as rfl (by constructor)) ?_
      refine aops_nil ?_
      dsimp only [St.put]
      have hf : out = plainR l := by rw [← hout, take_all (show l.length ≤ k by omega)]
      subst hf
      refine hK17 _ ?_
      refine aw_commit_own 2 (plainR l) rfl zG rfl rfl rfl ?_
      dsimp only
      refine aw_ret ?_
      refine ends_1 rfl (by constructor) zN zS ?_
      rfl
theorem Plain_pure (t : TextD) (e : EditionD) : Pure Tryd.prog 18 [textC t, val e] (.tup [val (plainE t e), .v (.int .i64 (soundEr t e))]) := by
  refine pure_of_body Tryd.func18 rfl (fun m => .tup (low_cons (val_low _ _) (low_cons .v low_nil))) fun G nx => ?_
  simp only [Tryd.ntmps18, List.length_cons, List.length_nil, Nat.reduceAdd, Nat.reduceSub]
  refine aw_lt fun hlt => ?_
  dsimp only at hlt
  refine aw_seq_k fun K1 hK1 => ?_
  refine aw_region ?_
  try dsimp only [St.put]
  refine aops_e rfl (e_box rfl rfl (by simp) ?_)
  try dsimp only [St.put]
  refine aops_e rfl (e_box rfl rfl (by simp) ?_)
  try dsimp only [St.put]
  refine aops_e rfl (e_allocC rfl ?_)
  refine aops_n rfl (n_as rfl (by constructor)) ?_
  refine aops_nil ?_
  dsimp only [St.put]
  refine hK1 _ ?_
  refine aw_seq_k fun K2 hK2 => ?_
  refine aw_seq_k fun K3 hK3 => ?_
  refine aw_region ?_
  try dsimp only [St.put]
  refine aops_s rfl (s_load_agg' rfl rfl rfl) ?_
  try dsimp only [St.put]
  refine aops_s rfl (s_load_agg' rfl rfl (Enc.len _)) ?_
  try dsimp only [St.put]
  refine aops_e rfl (e_call_pure rfl rfl rfl (sound2_pure t e) ?_)
  refine aops_n rfl (n_as rfl (by constructor)) ?_
  refine aops_nil ?_
  dsimp only [St.put]
  refine hK3 _ ?_
  refine aw_seq_k fun K4 hK4 => ?_
  refine aw_region ?_
  refine aops_n rfl (n_mv rfl (by constructor)) ?_
  refine aops_n rfl (n_neq rfl rfl rfl) ?_
  refine aops_nil ?_
  dsimp only [St.put]
  refine hK4 _ ?_
  refine aw_cond rfl (fun hc => ?_) (fun hc => ?_)
  · have h0 : ¬ soundEr t e = 0 := nd_t hc
    refine aw_seq_k fun K5 hK5 => ?_
    refine aw_region ?_
    refine aops_n rfl (n_build rfl rfl) ?_
    refine aops_n rfl (n_mv rfl (by constructor)) ?_
    try dsimp only [St.put]
    refine aops_e rfl (e_store_all rfl rfl rfl zG rfl rfl (by rfl) ?_)
    refine aops_n rfl (n_as rfl (by constructor)) ?_
    refine aops_nil ?_
    dsimp only [St.put]
    refine hK5 _ ?_
    refine aw_ret ?_
    refine ends_v2 rfl (rv_box rfl zG (by rfl) (by first | exact List.cons_ne_nil _ _ | (simp; done) | (simp [putAt]; done)) rfl) (rv_tmp (by constructor)) zN zS ?_ ?_
    · rw [show plainE t e = ⟨0, []⟩ by simp [plainE, h0]]
      exact zW
    · exact Wk.refl _
  · have h0 : soundEr t e = 0 := nd_f hc
    obtain ⟨ht, hl, he⟩ := checkEr_text (soundEr_check h0).1
    refine aw_skip ?_
    refine hK2 _ ?_
    refine aw_seq_k fun K6 hK6 => ?_
    refine aw_draw [(0, none), (1, none), (2, none), (3, none), (4, none), (5, none), (6, none), (7, none), (8, none)] (fun i => [7].contains i) (fun i => [4, 5, 7].contains i) (fun i => [0, 6, 8].contains i) [] (by kernel_rfl) (by kernel_rfl) ?_
    refine acan1_n rfl rfl rfl rfl (n_fieldAddr' rfl rfl rfl) ?_
    try dsimp only [St.put]
    refine acan1_s rfl rfl rfl rfl (s_load rfl rfl) ?_
    try dsimp only [St.put]
    refine acan1_s rfl rfl rfl rfl (s_load_agg' rfl rfl rfl) ?_
    try dsimp only [St.put]
    refine acan1_s rfl rfl rfl rfl (s_load_agg' rfl rfl (Enc.len _)) ?_
    refine acan1_two ?_
    try dsimp only [St.put]
    refine acan2_e rfl rfl rfl (e_call_pure rfl rfl rfl (rows_pure t e ht hl he) ⟨zD, ?_⟩)
    try dsimp only [St.put]
    refine acan2_e rfl rfl rfl (e_call_pure rfl rfl rfl (plain_pure _ (rowsT_all ht _) (rowsT_bd ht he)) ⟨zD, ?_⟩)
    refine acan2_n rfl rfl rfl rfl (n_build rfl rfl) ?_
    try dsimp only [St.put]
    refine acan2_late rfl rfl rfl rfl (e_store_all rfl rfl rfl zG rfl rfl (by rfl) ?_)
    refine acan2_n rfl rfl rfl rfl (n_as rfl (by constructor)) ?_
    refine acan2_nil ?_
    dsimp only [St.put]
    refine hK6 _ ?_
    refine aw_ret ?_
    refine ends_v2 rfl (rv_box rfl zG (by rfl) (by first | exact List.cons_ne_nil _ _ | (simp; done) | (simp [putAt]; done)) rfl) (rv_tmp (by constructor)) zN zS ?_ ?_
    · rw [show plainE t e = ⟨e.id, plainR (rowsT t e.ss)⟩ by simp [plainE, h0]]
      exact zW
    · exact Wk.of_eq (vi h0.symm)
end Go.Proofs.YtolcenpmgmpmkaaDoor
