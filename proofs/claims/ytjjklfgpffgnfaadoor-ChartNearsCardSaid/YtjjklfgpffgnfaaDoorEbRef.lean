/-
  Contracts of the reference's functions of charts: references, and where they lead; both, too, from one edition to another one.
-/
import Derived.Test.YtjjklfgpffgnfaaDoorEaPlain
namespace Go.AB
open Go Go.RowKit
open Go.PB (Chap TextD PlaceD ReadingD CopyD WayD)
theorem atR_yes {l : List RowD} {p : PlaceD} {k : Nat} {r : RowD} (hr : l[k]? = some r) (h : ∀ y ∈ l.take k, (decide (y.ch = p.ch) && decide (y.ln = p.ln)) = false) (hq : (decide (r.ch = p.ch) && decide (r.ln = p.ln)) = true) : atR l p = r := by
  unfold atR
  rw [find_at (q := fun r => decide (r.ch = p.ch) && decide (r.ln = p.ln)) hr h hq]; rfl
theorem atR_no {l : List RowD} {p : PlaceD} {k : Nat} (hk : l.length ≤ k) (h : ∀ y ∈ l.take k, (decide (y.ch = p.ch) && decide (y.ln = p.ln)) = false) : atR l p = ⟨0, 0, 0, 0, 0⟩ := by
  unfold atR
  rw [find_no (q := fun r => decide (r.ch = p.ch) && decide (r.ln = p.ln)) hk h]; rfl
def leadQ (r : RefD) (x : RowD) : Bool := decide (x.au = r.ch) && (decide (x.nu = r.ln) && inB r.wd 1 x.ws)
theorem leadR_yes {l : List RowD} {r : RefD} {k : Nat} {x : RowD} (hx : l[k]? = some x) (h : ∀ y ∈ l.take k, leadQ r y = false) (hq : leadQ r x = true) : leadR l r = some ⟨x.ch, x.ln, r.wd - 1⟩ := by
  show (l.find? (leadQ r)).map _ = _
  rw [find_at hx h hq]; rfl
theorem leadR_no {l : List RowD} {r : RefD} {k : Nat} (hk : l.length ≤ k) (h : ∀ y ∈ l.take k, leadQ r y = false) : leadR l r = none := by
  show (l.find? (leadQ r)).map _ = _
  rw [find_no hk h]; rfl
theorem words_len {t : TextD} (ht : textB t = true) (p : L2) : ((wordsOf t p).getD []).length ≤ 10 := by
  cases h : wordsOf t p with
  | none => simp
  | some l => have := words_bd ht h; simp only [Option.getD_some]; omega
end Go.AB
namespace Go.Proofs.YtjjklfgpffgnfaaDoor
set_option maxRecDepth 10000
open Go.RowKit Go.AB
open Go.AB.Enc (cells)
open Go.PB (Chap TextD PlaceD ReadingD CopyD WayD)
theorem refLine_pure (t : TextD) (p : PlaceD) (ht : textB t = true) : Pure Tryd.prog 95 [textC t, val p] (.tup [lst ((wordsOf t (p.ch, p.ln)).getD []), .v (.bool (wordsOf t (p.ch, p.ln)).isSome)]) := by
  refine pure_of_body Tryd.func95 rfl (fun m => .tup (low_cons (lst_low _ _) (low_cons .v low_nil))) fun G nx => ?_
  simp only [Tryd.ntmps95, List.length_cons, List.length_nil, Nat.reduceAdd, Nat.reduceSub]
  refine aw_lt fun hlt => ?_
  dsimp only at hlt
  obtain ⟨hl1, hl2, hl3⟩ := text_ok ht
  refine aw_seq_k fun K1 hK1 => ?_
  refine aw_region ?_
  try dsimp only [St.put]
  refine aops_e rfl (e_box rfl rfl (by simp) ?_)
  try dsimp only [St.put]
  refine aops_e rfl (e_box rfl rfl (by simp) ?_)
  refine aops_n rfl (n_as rfl (by constructor)) ?_
  refine aops_n rfl (n_as rfl (by constructor)) ?_
  refine aops_nil ?_
  dsimp only [St.put]
  refine hK1 _ ?_
  refine aw_seq_k fun K2 hK2 => ?_
  refine aw_wipe 6 ?_
  simp only [firsts, getA, Nat.reduceAdd, List.getD_cons_zero, List.getD_cons_succ, List.getD_nil, natBeq, Nat.reduceBEq, cond_true, cond_false]
  refine aw_cutD (X := Bool) (fun b => b = !(wordsOf t (p.ch, p.ln)).isSome) (fun b => [(28, .v (.bool b))]) (fun b G' => G') rfl ?_ (fun _ _ _ _ h => .inl h) ?_ ?_
  · rintro b hI
    exact zL
  · refine aw_drawT [(0, none), (1, none), (2, none), (3, none), (4, none), (5, none)] (fun _ => false) (fun i => [0, 2, 4, 5].contains i) 17 [true, true, true, true, true, true, false, false, false, false, false, false, false, false, false, false, false, false, false, false, false, false, false] (by kernel_rfl) (by kernel_rfl) ?_
    refine acan1_n rfl rfl rfl rfl (n_fieldAddr' rfl rfl rfl) ?_
    try dsimp only [St.put]
    refine acan1_s rfl rfl rfl rfl (s_load rfl rfl) ?_
    refine acan1_n rfl rfl rfl rfl (n_fieldAddr' rfl rfl rfl) ?_
    try dsimp only [St.put]
    refine acan1_s rfl rfl rfl rfl (s_load rfl rfl) ?_
    refine acan1_n rfl rfl rfl rfl (n_len' rfl rfl (List.length_map _)) ?_
    refine acan1_n rfl rfl rfl rfl (n_sub rfl rfl rfl (by omega)) ?_
    refine acan1_nil ?_
    refine aany_step [6] (by kernel_rfl) (by simp) ?_
    refine aeach_cons ?_ ?_
    · try dsimp only [St.put]
      refine aone_e rfl rfl rfl (e_call_pure rfl rfl rfl (within_pure _ _ _) ?_)
      refine aany_quiet [(7, none), (8, none), (9, none), (10, none), (11, none), (12, none), (13, none), (14, none), (15, none), (16, none), (17, none), (18, none), (19, none)] (fun i => [7, 8, 9, 11, 13, 15, 16, 18, 19].contains i) 3 [true, true, true, true, true, true, true, true, true, true, true, true, true, true, true, true, true, true, true, true, false, false, false] (by kernel_rfl) ?_
      refine acan1_n rfl rfl rfl rfl (n_not rfl rfl) ?_
      refine acan1_n rfl rfl rfl rfl (n_mv rfl (by constructor)) ?_
      refine acan1_split (fun hs => ?_) (fun hs => ?_)
      · have h8 : inB p.ch 0 ((t.length : Int) - 1) = false := by simpa using hs
        refine acan1_skip rfl rfl rfl ?_
        refine acan1_skip rfl rfl rfl ?_
        refine acan1_skip rfl rfl rfl ?_
        refine acan1_skip rfl rfl rfl ?_
        refine acan1_skip rfl rfl rfl ?_
        refine acan1_skip rfl rfl rfl ?_
        refine acan1_skip rfl rfl rfl ?_
        refine acan1_skip rfl rfl rfl ?_
        refine acan1_skip rfl rfl rfl ?_
        refine acan1_skip rfl rfl rfl ?_
        refine acan1_skip rfl rfl rfl ?_
        refine acan1_nil ?_
        refine aany_step [20] (by kernel_rfl) (by simp) ?_
        refine aeach_cons ?_ ?_
        · refine aone_skip rfl rfl rfl ?_
          refine aany_quiet [(21, none), (22, none)] (fun i => [21, 22].contains i) 0 [true, true, true, true, true, true, true, true, true, true, true, true, true, true, true, true, true, true, true, true, true, true, true] (by kernel_rfl) ?_
          refine acan1_skip rfl rfl rfl ?_
          refine acan1_n rfl rfl rfl rfl (n_pt rfl rfl (by constructor)) ?_
          refine acan1_nil ?_
          dsimp only [St.put]
          refine aany_nil (by kernel_rfl) ?_
          refine ⟨_, ?_, ⟨⟨rfl, rfl⟩, zF, zB, zN, zX⟩⟩
          rw [wordsOf_isSome]
          (simp [h8]; done)
        exact aeach_nil
      · have h8 : inB p.ch 0 ((t.length : Int) - 1) = true := by simpa using hs
        have hn1' := h8
        simp only [inB_true] at hn1'
        obtain ⟨c, hcx⟩ : ∃ c, t[p.ch.toNat]? = some c := some_of_lt (by omega)
        have hnl : nlines t p.ch = c.lines.length := by simp [nlines, hcx]
        have hll := (hl3 c (mem_of_get hcx)).2.1
        have hch : p.ch = ((p.ch.toNat : Nat) : Int) := by omega
        refine acan1_n rfl rfl rfl rfl (n_fieldAddr' rfl rfl rfl) ?_
        try dsimp only [St.put]
        refine acan1_s rfl rfl rfl rfl (s_load rfl rfl) ?_
        refine acan1_n rfl rfl rfl rfl (n_fieldAddr' rfl rfl rfl) ?_
        try dsimp only [St.put]
        refine acan1_s rfl rfl rfl rfl (s_load rfl rfl) ?_
        refine acan1_n rfl rfl rfl rfl (n_fieldAddr' rfl rfl rfl) ?_
        try dsimp only [St.put]
        refine acan1_s rfl rfl rfl rfl (s_load rfl rfl) ?_
        try dsimp only [St.put]
        refine acan1_n rfl rfl rfl rfl (n_indexAddr rfl rfl rfl (by omega) (map_get (by assumption)) (Enc.len _)) ?_
        refine acan1_n rfl rfl rfl rfl (n_fieldAddr' rfl rfl rfl) ?_
        try dsimp only [St.put]
        refine acan1_s rfl rfl rfl rfl (s_load rfl rfl) ?_
        refine acan1_n rfl rfl rfl rfl (n_len' rfl rfl (List.length_map _)) ?_
        refine acan1_n rfl rfl rfl rfl (n_sub rfl rfl rfl (by omega)) ?_
        refine acan1_nil ?_
        refine aany_step [20] (by kernel_rfl) (by simp) ?_
        refine aeach_cons ?_ ?_
        · try dsimp only [St.put]
          refine aone_e rfl rfl rfl (e_call_pure rfl rfl rfl (within_pure _ _ _) ?_)
          refine aany_quiet [(21, none), (22, none)] (fun i => [21, 22].contains i) 0 [true, true, true, true, true, true, true, true, true, true, true, true, true, true, true, true, true, true, true, true, true, true, true] (by kernel_rfl) ?_
          refine acan1_n rfl rfl rfl rfl (n_not rfl rfl) ?_
          refine acan1_n rfl rfl rfl rfl (n_pf rfl rfl (by constructor)) ?_
          refine acan1_nil ?_
          dsimp only [St.put]
          refine aany_nil (by kernel_rfl) ?_
          refine ⟨_, ?_, ⟨⟨rfl, rfl⟩, zF, zB, zN, zX⟩⟩
          rw [wordsOf_isSome]
          (simp [h8, hnl]; done)
        exact aeach_nil
    exact aeach_nil
  · rintro b hst
    dsimp only at hst ⊢
    refine aw_cond rfl (fun hc => ?_) (fun hc => ?_)
    · have hw : wordsOf t (p.ch, p.ln) = none := by rw [hc] at hst; simpa using hst.symm
      refine aw_seq_k fun K4 hK4 => ?_
      refine aw_region ?_
      refine aops_n rfl (n_as rfl (by constructor)) ?_
      refine aops_n rfl (n_as rfl (by constructor)) ?_
      refine aops_nil ?_
      dsimp only [St.put]
      refine hK4 _ ?_
      refine aw_ret ?_
      refine ends_v2 rfl (rv_tmp (by constructor)) (rv_tmp (by constructor)) zN zS ?_ ?_
      · rw [hw]
        exact zW
      · rw [hw]; exact Wk.refl _
    · have hw0 : (wordsOf t (p.ch, p.ln)).isSome = true := by rw [hc] at hst; simpa using hst.symm
      obtain ⟨l, hw⟩ := Option.isSome_iff_exists.1 hw0
      obtain ⟨k, n, c, hkn, hk, hn⟩ := wordsOf_some hw
      have hch : p.ch = ((k : Nat) : Int) := congrArg Prod.fst hkn
      have hln : p.ln = ((n : Nat) : Int) := congrArg Prod.snd hkn
      refine aw_skip ?_
      refine hK2 _ ?_
      refine aw_seq_k fun K5 hK5 => ?_
      refine aw_draw [(0, none), (1, none), (2, none), (3, none), (4, none), (5, none), (6, none), (7, none), (8, none), (9, none), (10, none), (11, none), (12, none)] (fun i => [].contains i) (fun i => [].contains i) (fun i => [0, 2, 4, 5, 7, 9, 11, 12].contains i) [] (by kernel_rfl) (by kernel_rfl) ?_
      refine acan1_n rfl rfl rfl rfl (n_fieldAddr' rfl rfl rfl) ?_
      try dsimp only [St.put]
      refine acan1_s rfl rfl rfl rfl (s_load rfl rfl) ?_
      refine acan1_n rfl rfl rfl rfl (n_fieldAddr' rfl rfl rfl) ?_
      try dsimp only [St.put]
      refine acan1_s rfl rfl rfl rfl (s_load rfl rfl) ?_
      try dsimp only [St.put]
      refine acan1_n rfl rfl rfl rfl (n_indexAddr rfl rfl rfl (by omega) (map_get (by assumption)) (Enc.len _)) ?_
      refine acan1_n rfl rfl rfl rfl (n_fieldAddr' rfl rfl rfl) ?_
      try dsimp only [St.put]
      refine acan1_s rfl rfl rfl rfl (s_load rfl rfl) ?_
      refine acan1_n rfl rfl rfl rfl (n_fieldAddr' rfl rfl rfl) ?_
      try dsimp only [St.put]
      refine acan1_s rfl rfl rfl rfl (s_load rfl rfl) ?_
      try dsimp only [St.put]
      refine acan1_n rfl rfl rfl rfl (n_indexAddr rfl rfl rfl (by omega) (map_get (by assumption)) (Enc.len _)) ?_
      try dsimp only [St.put]
      refine acan1_s rfl rfl rfl rfl (s_load rfl rfl) ?_
      refine acan1_n rfl rfl rfl rfl (n_as rfl (by constructor)) ?_
      refine acan1_n rfl rfl rfl rfl (n_as rfl (by constructor)) ?_
      refine acan1_nil ?_
      dsimp only [St.put]
      refine hK5 _ ?_
      refine aw_ret ?_
      refine ends_v2 rfl (rv_tmp (by constructor)) (rv_tmp (by constructor)) zN zS ?_ ?_
      · rw [hw]
        exact zW
      · rw [hw]; exact Wk.refl _
theorem Place_pure (t : TextD) (p : PlaceD) (ht : textB t = true) : Pure Tryd.prog 64 [textC t, val p] (.v (.bool (placeB t p))) := by
  refine pure_of_body Tryd.func64 rfl (fun m => .v) fun G nx => ?_
  simp only [Tryd.ntmps64, List.length_cons, List.length_nil, Nat.reduceAdd, Nat.reduceSub]
  refine aw_lt fun hlt => ?_
  dsimp only at hlt
  have hwl := words_len ht (p.ch, p.ln)
  refine aw_seq_k fun K1 hK1 => ?_
  refine aw_region ?_
  try dsimp only [St.put]
  refine aops_e rfl (e_box rfl rfl (by simp) ?_)
  try dsimp only [St.put]
  refine aops_e rfl (e_box rfl rfl (by simp) ?_)
  refine aops_n rfl (n_as rfl (by constructor)) ?_
  refine aops_nil ?_
  dsimp only [St.put]
  refine hK1 _ ?_
  refine aw_seq_k fun K2 hK2 => ?_
  refine aw_region ?_
  try dsimp only [St.put]
  refine aops_s rfl (s_load_agg' rfl rfl rfl) ?_
  try dsimp only [St.put]
  refine aops_s rfl (s_load_agg' rfl rfl (Enc.len _)) ?_
  try dsimp only [St.put]
  refine aops_e rfl (e_call_pure rfl rfl rfl (refLine_pure t p ht) ?_)
  refine aops_n rfl (n_mv rfl (by constructor)) ?_
  refine aops_n rfl (n_extract rfl rfl rfl) ?_
  refine aops_n rfl (n_extract rfl rfl rfl) ?_
  refine aops_n rfl (n_as rfl (by constructor)) ?_
  refine aops_n rfl (n_as rfl (by constructor)) ?_
  refine aops_nil ?_
  dsimp only [St.put]
  refine hK2 _ ?_
  refine aw_seq_k fun K3 hK3 => ?_
  refine aw_region ?_
  refine aops_n rfl (n_mv rfl (by constructor)) ?_
  refine aops_n rfl (n_mv rfl (by constructor)) ?_
  refine aops_split (fun hs => ?_) (fun hs => ?_)
  · obtain ⟨l, hw⟩ := Option.isSome_iff_exists.1 hs
    refine aops_n rfl (n_fieldAddr' rfl rfl rfl) ?_
    try dsimp only [St.put]
    refine aops_s rfl (s_load rfl rfl) ?_
    refine aops_n rfl (n_mv rfl (by constructor)) ?_
    refine aops_n rfl (n_len' rfl rfl (List.length_map _)) ?_
    refine aops_n rfl (n_sub rfl rfl rfl (by omega)) ?_
    try dsimp only [St.put]
    refine aops_e rfl (e_call_pure rfl rfl rfl (within_pure _ _ _) ?_)
    refine aops_n rfl (n_pt rfl rfl (by constructor)) ?_
    refine aops_n rfl (n_as rfl (by constructor)) ?_
    refine aops_nil ?_
    dsimp only [St.put]
    refine hK3 _ ?_
    refine aw_ret ?_
    refine ends_1 rfl (by constructor) zN zS ?_
    exact vb (by simp [placeB, hw])
  · have hw : wordsOf t (p.ch, p.ln) = none := by simpa using hs
    refine aops_skip rfl ?_
    refine aops_skip rfl ?_
    refine aops_skip rfl ?_
    refine aops_skip rfl ?_
    refine aops_skip rfl ?_
    refine aops_skip rfl ?_
    refine aops_n rfl (n_pf rfl rfl (by constructor)) ?_
    refine aops_n rfl (n_as rfl (by constructor)) ?_
    refine aops_nil ?_
    dsimp only [St.put]
    refine hK3 _ ?_
    refine aw_ret ?_
    refine ends_1 rfl (by constructor) zN zS ?_
    exact vb (by simp [placeB, hw])
theorem refAt_pure (l : List RowD) (p : PlaceD) (hll : l.length ≤ 60) : Pure Tryd.prog 65 [lst l, val p] (val (atR l p)) := by
  refine pure_of_body Tryd.func65 rfl (fun m => (val_low _ _)) fun G nx => ?_
  simp only [Tryd.ntmps65, List.length_cons, List.length_nil, Nat.reduceAdd, Nat.reduceSub]
  refine aw_lt fun hlt => ?_
  dsimp only at hlt
  refine aw_seq_k fun K1 hK1 => ?_
  refine aw_region ?_
  try dsimp only [St.put]
  refine aops_e rfl (e_box rfl rfl (by simp) ?_)
  try dsimp only [St.put]
  refine aops_e rfl (e_allocC rfl ?_)
  refine aops_nil ?_
  dsimp only [St.put]
  refine hK1 _ ?_
  refine aw_seq_k fun K2 hK2 => ?_
  refine aw_seq_k fun K3 hK3 => ?_
  refine aw_region ?_
  refine aops_n rfl (n_as rfl (by constructor)) ?_
  refine aops_nil ?_
  dsimp only [St.put]
  refine hK3 _ ?_
  refine aw_block ?_
  refine aw_wipe 6 ?_
  simp only [firsts, getA, Nat.reduceAdd, List.getD_cons_zero, List.getD_cons_succ, List.getD_nil, natBeq, Nat.reduceBEq, cond_true, cond_false]
  refine aw_forget (setG G nx (.box 0 [.v (.int .i64 0), .v (.int .i64 0), .v (.int .i64 0), .v (.int .i64 0), .v (.int .i64 0)])) zX ?_
  dsimp only
  refine aw_loopD (X := Nat) (fun k => k ≤ l.length ∧ ∀ r ∈ l.take k, (decide (r.ch = p.ch) && decide (r.ln = p.ln)) = false) (fun k => l.length - k) (fun k => [(5, .v (.int .i64 (k : Int)))]) (fun k G' => G') 0 rfl ?_ ?_ (fun _ _ h => h) ?_ ?_ ?_
  · exact ⟨Nat.zero_le _, by simp⟩
  · exact zF
  · rintro k hI
    exact zL
  · exact fun _ _ _ _ h => .inl h
  · rintro k hI
    dsimp only at hI ⊢
    refine aw_seq_k fun K4 hK4 => ?_
    refine aw_seq_k fun K5 hK5 => ?_
    refine aw_region ?_
    refine aops_n rfl (n_mv rfl (by constructor)) ?_
    refine aops_n rfl (n_mv rfl (by constructor)) ?_
    refine aops_n rfl (n_len' rfl rfl (List.length_map _)) ?_
    refine aops_n rfl (n_lss rfl rfl rfl) ?_
    refine aops_nil ?_
    dsimp only [St.put]
    refine hK5 _ ?_
    refine aw_cond rfl (fun hc => ?_) (fun hc => ?_)
    · replace hc := of_decide_eq_true hc
      obtain ⟨r, hr⟩ : ∃ x, l[k]? = some x := some_of_lt (by omega)
      refine aw_skip ?_
      refine hK4 _ ?_
      refine aw_seq_k fun K6 hK6 => ?_
      refine aw_block ?_
      refine aw_wipe 6 ?_
      simp only [firsts, getA, Nat.reduceAdd, List.getD_cons_zero, List.getD_cons_succ, List.getD_nil, natBeq, Nat.reduceBEq, cond_true, cond_false]
      refine aw_cutD (X := Bool) (fun b => (decide (r.ch = p.ch) && decide (r.ln = p.ln)) = b) (fun b => [(29, .v (.bool b))]) (fun b G' => G') rfl ?_ (fun _ _ _ _ h => .inl h) ?_ ?_
      · rintro b hI
        exact zL
      · refine aw_draw [(0, none), (1, none), (2, none), (3, none), (4, none), (5, none), (6, none), (7, none), (8, none), (9, none), (10, none), (11, none), (12, none), (13, none), (14, none), (15, none), (16, none), (17, none)] (fun i => [].contains i) (fun i => [].contains i) (fun i => [0, 1, 2, 3, 5, 7, 8, 9, 10, 11, 12, 14, 16, 17].contains i) [] (by kernel_rfl) (by kernel_rfl) ?_
        refine acan1_n rfl rfl rfl rfl (n_mv rfl (by constructor)) ?_
        refine acan1_n rfl rfl rfl rfl (n_mv rfl (by constructor)) ?_
        try dsimp only [St.put]
        refine acan1_n rfl rfl rfl rfl (n_indexAddr rfl rfl rfl rfl (map_get (by assumption)) (Enc.len _)) ?_
        refine acan1_n rfl rfl rfl rfl (n_fieldAddr' rfl rfl rfl) ?_
        try dsimp only [St.put]
        refine acan1_s rfl rfl rfl rfl (s_load rfl rfl) ?_
        refine acan1_n rfl rfl rfl rfl (n_fieldAddr' rfl rfl rfl) ?_
        try dsimp only [St.put]
        refine acan1_s rfl rfl rfl rfl (s_load rfl rfl) ?_
        refine acan1_n rfl rfl rfl rfl (n_eql rfl rfl rfl) ?_
        refine acan1_n rfl rfl rfl rfl (n_mv rfl (by constructor)) ?_
        refine acan1_split (fun hs => ?_) (fun hs => ?_)
        · have h8 := of_decide_eq_true hs
          refine acan1_n rfl rfl rfl rfl (n_mv rfl (by constructor)) ?_
          refine acan1_n rfl rfl rfl rfl (n_mv rfl (by constructor)) ?_
          try dsimp only [St.put]
          refine acan1_n rfl rfl rfl rfl (n_indexAddr rfl rfl rfl rfl (map_get (by assumption)) (Enc.len _)) ?_
          refine acan1_n rfl rfl rfl rfl (n_fieldAddr' rfl rfl rfl) ?_
          try dsimp only [St.put]
          refine acan1_s rfl rfl rfl rfl (s_load rfl rfl) ?_
          refine acan1_n rfl rfl rfl rfl (n_fieldAddr' rfl rfl rfl) ?_
          try dsimp only [St.put]
          refine acan1_s rfl rfl rfl rfl (s_load rfl rfl) ?_
          refine acan1_n rfl rfl rfl rfl (n_eql rfl rfl rfl) ?_
          refine acan1_n rfl rfl rfl rfl (n_pt rfl rfl (by constructor)) ?_
          refine acan1_nil ?_
          dsimp only [St.put]
          refine ⟨_, ?_, ⟨⟨rfl, rfl⟩, zF, zB, zN, zX⟩⟩
          (simp [h8]; done)
        · have h8 := of_decide_eq_false hs
          refine acan1_skip rfl rfl rfl ?_
          refine acan1_skip rfl rfl rfl ?_
          refine acan1_skip rfl rfl rfl ?_
          refine acan1_skip rfl rfl rfl ?_
          refine acan1_skip rfl rfl rfl ?_
          refine acan1_skip rfl rfl rfl ?_
          refine acan1_skip rfl rfl rfl ?_
          refine acan1_skip rfl rfl rfl ?_
          refine acan1_n rfl rfl rfl rfl (n_pf rfl rfl (by constructor)) ?_
          refine acan1_nil ?_
          dsimp only [St.put]
          refine ⟨_, ?_, ⟨⟨rfl, rfl⟩, zF, zB, zN, zX⟩⟩
          (simp [h8]; done)
      · rintro b hst
        dsimp only at hst ⊢
        refine aw_cond rfl (fun hc => ?_) (fun hc => ?_)
        · rw [hc] at hst
          refine aw_seq_k fun K8 hK8 => ?_
          refine aw_region ?_
          refine aops_n rfl (n_mv rfl (by constructor)) ?_
          refine aops_n rfl (n_mv rfl (by constructor)) ?_
          try dsimp only [St.put]
          refine aops_n rfl (n_indexAddr rfl rfl rfl rfl (map_get (by assumption)) (Enc.len _)) ?_
          try dsimp only [St.put]
          refine aops_s rfl (s_load_agg' rfl rfl (Enc.len _)) ?_
          try dsimp only [St.put]
          refine aops_e rfl (e_store_all rfl rfl rfl zG rfl rfl (by rfl) ?_)
          refine aops_nil ?_
          dsimp only [St.put]
          refine hK8 _ ?_
          refine aw_ret ?_
          refine ends_v1 rfl (rv_box rfl zG (by rfl) (by first | exact List.cons_ne_nil _ _ | (simp; done) | (simp [putAt]; done)) rfl) zN zS ?_
          rw [atR_yes hr hI.2 hst]
          exact zW
        · rw [hc] at hst
          refine aw_skip ?_
          refine hK6 _ ?_
          refine aw_region ?_
          refine aops_n rfl (n_mv rfl (by constructor)) ?_
          refine aops_n rfl (n_add rfl rfl rfl (by omega)) ?_
          refine aops_n rfl (n_as rfl (by constructor)) ?_
          refine aops_nil ?_
          dsimp only [St.put]
          exact ⟨k + 1, by omega, ⟨by omega, take_no (q := fun r => decide (r.ch = p.ch) && decide (r.ln = p.ln)) hr hI.2 hst⟩, ⟨⟨rfl, rfl⟩, zF, zB, zN, zX⟩⟩
    · replace hc := of_decide_eq_false hc
      refine aw_exit ?_
      refine hK2 _ ?_
      refine aw_seq_k fun K9 hK9 => ?_
      refine aw_region ?_
      refine aops_n rfl (n_build rfl rfl) ?_
      try dsimp only [St.put]
      refine aops_e rfl (e_store_all rfl rfl rfl zG rfl rfl (by rfl) ?_)
      refine aops_nil ?_
      dsimp only [St.put]
      refine hK9 _ ?_
      refine aw_ret ?_
      refine ends_v1 rfl (rv_box rfl zG (by rfl) (by first | exact List.cons_ne_nil _ _ | (simp; done) | (simp [putAt]; done)) rfl) zN zS ?_
      rw [atR_no (show l.length ≤ k by omega) hI.2]
      exact zW
theorem Ref2_pure (r : RefD) : Pure Tryd.prog 68 [val r] (.v (.bool (refB r))) := by
  refine pure_of_body Tryd.func68 rfl (fun m => .v) fun G nx => ?_
  simp only [Tryd.ntmps68, List.length_cons, List.length_nil, Nat.reduceAdd, Nat.reduceSub]
  refine aw_lt fun hlt => ?_
  dsimp only at hlt
  refine aw_seq_k fun K1 hK1 => ?_
  refine aw_region ?_
  try dsimp only [St.put]
  refine aops_e rfl (e_box rfl rfl (by simp) ?_)
  refine aops_n rfl (n_as rfl (by constructor)) ?_
  refine aops_nil ?_
  dsimp only [St.put]
  refine hK1 _ ?_
  refine aw_seq_k fun K2 hK2 => ?_
  refine aw_region ?_
  refine aops_n rfl (n_fieldAddr' rfl rfl rfl) ?_
  try dsimp only [St.put]
  refine aops_s rfl (s_load rfl rfl) ?_
  try dsimp only [St.put]
  refine aops_e rfl (e_call_pure rfl rfl rfl (within2_pure _ _ _) ?_)
  refine aops_n rfl (n_mv rfl (by constructor)) ?_
  refine aops_split (fun hs => ?_) (fun hs => ?_)
  · have h3 := hs
    refine aops_n rfl (n_fieldAddr' rfl rfl rfl) ?_
    try dsimp only [St.put]
    refine aops_s rfl (s_load rfl rfl) ?_
    try dsimp only [St.put]
    refine aops_e rfl (e_call_pure rfl rfl rfl (within2_pure _ _ _) ?_)
    refine aops_n rfl (n_pt rfl rfl (by constructor)) ?_
    refine aops_n rfl (n_mv rfl (by constructor)) ?_
    refine aops_split (fun hs => ?_) (fun hs => ?_)
    · have h8 := hs
      refine aops_n rfl (n_fieldAddr' rfl rfl rfl) ?_
      try dsimp only [St.put]
      refine aops_s rfl (s_load rfl rfl) ?_
      try dsimp only [St.put]
      refine aops_e rfl (e_call_pure rfl rfl rfl (within2_pure _ _ _) ?_)
      refine aops_n rfl (n_pt rfl rfl (by constructor)) ?_
      refine aops_n rfl (n_as rfl (by constructor)) ?_
      refine aops_nil ?_
      dsimp only [St.put]
      refine hK2 _ ?_
      refine aw_ret ?_
      refine ends_1 rfl (by constructor) zN zS ?_
      exact vb (by simp [refB, h3]; try simp [h8])
    · have h8 := hs
      refine aops_skip rfl ?_
      refine aops_skip rfl ?_
      refine aops_skip rfl ?_
      refine aops_n rfl (n_pf rfl rfl (by constructor)) ?_
      refine aops_n rfl (n_as rfl (by constructor)) ?_
      refine aops_nil ?_
      dsimp only [St.put]
      refine hK2 _ ?_
      refine aw_ret ?_
      refine ends_1 rfl (by constructor) zN zS ?_
      exact vb (by simp [refB, h3]; try simp [h8])
  · have h3 := hs
    refine aops_skip rfl ?_
    refine aops_skip rfl ?_
    refine aops_skip rfl ?_
    refine aops_n rfl (n_pf rfl rfl (by constructor)) ?_
    refine aops_n rfl (n_mv rfl (by constructor)) ?_
    refine aops_skip rfl ?_
    refine aops_skip rfl ?_
    refine aops_skip rfl ?_
    refine aops_n rfl (n_pf rfl rfl (by constructor)) ?_
    refine aops_n rfl (n_as rfl (by constructor)) ?_
    refine aops_nil ?_
    dsimp only [St.put]
    refine hK2 _ ?_
    refine aw_ret ?_
    refine ends_1 rfl (by constructor) zN zS ?_
    exact vb (by simp [refB, h3]; try simp [h8])
theorem refLead_pure (l : List RowD) (r : RefD) (hll : l.length ≤ 60) (hr : refB r = true) : Pure Tryd.prog 69 [lst l, val r] (.tup [val ((leadR l r).getD ⟨0, 0, 0⟩), .v (.bool (leadR l r).isSome)]) := by
  refine pure_of_body Tryd.func69 rfl (fun m => .tup (low_cons (val_low _ _) (low_cons .v low_nil))) fun G nx => ?_
  simp only [Tryd.ntmps69, List.length_cons, List.length_nil, Nat.reduceAdd, Nat.reduceSub]
  refine aw_lt fun hlt => ?_
  dsimp only at hlt
  have hr' := hr
  simp only [refB, Bool.and_eq_true, inB_true] at hr'
  refine aw_seq_k fun K1 hK1 => ?_
  refine aw_region ?_
  try dsimp only [St.put]
  refine aops_e rfl (e_box rfl rfl (by simp) ?_)
  try dsimp only [St.put]
  refine aops_e rfl (e_allocC rfl ?_)
  refine aops_n rfl (n_as rfl (by constructor)) ?_
  refine aops_nil ?_
  dsimp only [St.put]
  refine hK1 _ ?_
  refine aw_seq_k fun K2 hK2 => ?_
  refine aw_seq_k fun K3 hK3 => ?_
  refine aw_region ?_
  refine aops_n rfl (n_as rfl (by constructor)) ?_
  refine aops_nil ?_
  dsimp only [St.put]
  refine hK3 _ ?_
  refine aw_block ?_
  refine aw_wipe 7 ?_
  simp only [firsts, getA, Nat.reduceAdd, List.getD_cons_zero, List.getD_cons_succ, List.getD_nil, natBeq, Nat.reduceBEq, cond_true, cond_false]
  refine aw_forget (setG G nx (.box 0 [.v (.int .i64 0), .v (.int .i64 0), .v (.int .i64 0)])) zX ?_
  dsimp only
  refine aw_loopD (X := Nat) (fun k => k ≤ l.length ∧ ∀ x ∈ l.take k, leadQ r x = false) (fun k => l.length - k) (fun k => [(6, .v (.int .i64 (k : Int)))]) (fun k G' => G') 0 rfl ?_ ?_ (fun _ _ h => h) ?_ ?_ ?_
  · exact ⟨Nat.zero_le _, by simp⟩
  · exact zF
  · rintro k hI
    exact zL
  · exact fun _ _ _ _ h => .inl h
  · rintro k hI
    dsimp only at hI ⊢
    refine aw_seq_k fun K4 hK4 => ?_
    refine aw_seq_k fun K5 hK5 => ?_
    refine aw_region ?_
    refine aops_n rfl (n_mv rfl (by constructor)) ?_
    refine aops_n rfl (n_mv rfl (by constructor)) ?_
    refine aops_n rfl (n_len' rfl rfl (List.length_map _)) ?_
    refine aops_n rfl (n_lss rfl rfl rfl) ?_
    refine aops_nil ?_
    dsimp only [St.put]
    refine hK5 _ ?_
    refine aw_cond rfl (fun hc => ?_) (fun hc => ?_)
    · replace hc := of_decide_eq_true hc
      obtain ⟨x, hx⟩ : ∃ x, l[k]? = some x := some_of_lt (by omega)
      refine aw_skip ?_
      refine hK4 _ ?_
      refine aw_seq_k fun K6 hK6 => ?_
      refine aw_block ?_
      refine aw_wipe 7 ?_
      simp only [firsts, getA, Nat.reduceAdd, List.getD_cons_zero, List.getD_cons_succ, List.getD_nil, natBeq, Nat.reduceBEq, cond_true, cond_false]
      refine aw_cutD (X := Bool) (fun b => leadQ r x = b) (fun b => [(40, .v (.bool b))]) (fun b G' => G') rfl ?_ (fun _ _ _ _ h => .inl h) ?_ ?_
      · rintro b hI
        exact zL
      · refine aw_draw [(0, none), (1, none), (2, none), (3, none), (4, none), (5, none), (6, none), (7, none), (8, none), (9, none), (10, none), (11, none), (12, none), (13, none), (14, none), (15, none), (16, none), (17, none), (18, none), (19, none), (20, none), (21, none), (22, none), (23, none), (24, none), (25, none), (26, none), (27, none)] (fun i => [26].contains i) (fun i => [26].contains i) (fun i => [0, 1, 2, 3, 5, 7, 8, 9, 10, 11, 12, 14, 16, 17, 18, 19, 21, 22, 23, 24, 27].contains i) [] (by kernel_rfl) (by kernel_rfl) ?_
        refine acan1_n rfl rfl rfl rfl (n_mv rfl (by constructor)) ?_
        refine acan1_n rfl rfl rfl rfl (n_mv rfl (by constructor)) ?_
        try dsimp only [St.put]
        refine acan1_n rfl rfl rfl rfl (n_indexAddr rfl rfl rfl rfl (map_get (by assumption)) (Enc.len _)) ?_
        refine acan1_n rfl rfl rfl rfl (n_fieldAddr' rfl rfl rfl) ?_
        try dsimp only [St.put]
        refine acan1_s rfl rfl rfl rfl (s_load rfl rfl) ?_
        refine acan1_n rfl rfl rfl rfl (n_fieldAddr' rfl rfl rfl) ?_
        try dsimp only [St.put]
        refine acan1_s rfl rfl rfl rfl (s_load rfl rfl) ?_
        refine acan1_n rfl rfl rfl rfl (n_eql rfl rfl rfl) ?_
        refine acan1_n rfl rfl rfl rfl (n_mv rfl (by constructor)) ?_
        refine acan1_split (fun hs => ?_) (fun hs => ?_)
        · have h8 := of_decide_eq_true hs
          refine acan1_n rfl rfl rfl rfl (n_mv rfl (by constructor)) ?_
          refine acan1_n rfl rfl rfl rfl (n_mv rfl (by constructor)) ?_
          try dsimp only [St.put]
          refine acan1_n rfl rfl rfl rfl (n_indexAddr rfl rfl rfl rfl (map_get (by assumption)) (Enc.len _)) ?_
          refine acan1_n rfl rfl rfl rfl (n_fieldAddr' rfl rfl rfl) ?_
          try dsimp only [St.put]
          refine acan1_s rfl rfl rfl rfl (s_load rfl rfl) ?_
          refine acan1_n rfl rfl rfl rfl (n_fieldAddr' rfl rfl rfl) ?_
          try dsimp only [St.put]
          refine acan1_s rfl rfl rfl rfl (s_load rfl rfl) ?_
          refine acan1_n rfl rfl rfl rfl (n_eql rfl rfl rfl) ?_
          refine acan1_n rfl rfl rfl rfl (n_pt rfl rfl (by constructor)) ?_
          refine acan1_n rfl rfl rfl rfl (n_mv rfl (by constructor)) ?_
          refine acan1_split (fun hs => ?_) (fun hs => ?_)
          · have h18 := of_decide_eq_true hs
            refine acan1_n rfl rfl rfl rfl (n_fieldAddr' rfl rfl rfl) ?_
            try dsimp only [St.put]
            refine acan1_s rfl rfl rfl rfl (s_load rfl rfl) ?_
            refine acan1_n rfl rfl rfl rfl (n_mv rfl (by constructor)) ?_
            refine acan1_n rfl rfl rfl rfl (n_mv rfl (by constructor)) ?_
            try dsimp only [St.put]
            refine acan1_n rfl rfl rfl rfl (n_indexAddr rfl rfl rfl rfl (map_get (by assumption)) (Enc.len _)) ?_
            refine acan1_n rfl rfl rfl rfl (n_fieldAddr' rfl rfl rfl) ?_
            try dsimp only [St.put]
            refine acan1_s rfl rfl rfl rfl (s_load rfl rfl) ?_
            refine acan1_two ?_
            try dsimp only [St.put]
            refine acan2_late rfl rfl rfl rfl (e_call_pure rfl rfl rfl (within2_pure _ _ _) ?_)
            refine acan2_n rfl rfl rfl rfl (n_pt rfl rfl (by constructor)) ?_
            refine acan2_nil ?_
            dsimp only [St.put]
            refine ⟨_, ?_, ⟨⟨rfl, rfl⟩, zF, zB, zN, zX⟩⟩
            (simp [leadQ, h8, h18]; done)
          · have h18 := of_decide_eq_false hs
            refine acan1_skip rfl rfl rfl ?_
            refine acan1_skip rfl rfl rfl ?_
            refine acan1_skip rfl rfl rfl ?_
            refine acan1_skip rfl rfl rfl ?_
            refine acan1_skip rfl rfl rfl ?_
            refine acan1_skip rfl rfl rfl ?_
            refine acan1_skip rfl rfl rfl ?_
            refine acan1_two ?_
            refine acan2_skipE rfl rfl rfl ?_
            refine acan2_n rfl rfl rfl rfl (n_pf rfl rfl (by constructor)) ?_
            refine acan2_nil ?_
            dsimp only [St.put]
            refine ⟨_, ?_, ⟨⟨rfl, rfl⟩, zF, zB, zN, zX⟩⟩
            (simp [leadQ, h8, h18]; done)
        · have h8 := of_decide_eq_false hs
          refine acan1_skip rfl rfl rfl ?_
          refine acan1_skip rfl rfl rfl ?_
          refine acan1_skip rfl rfl rfl ?_
          refine acan1_skip rfl rfl rfl ?_
          refine acan1_skip rfl rfl rfl ?_
          refine acan1_skip rfl rfl rfl ?_
          refine acan1_skip rfl rfl rfl ?_
          refine acan1_skip rfl rfl rfl ?_
          refine acan1_n rfl rfl rfl rfl (n_pf rfl rfl (by constructor)) ?_
          refine acan1_n rfl rfl rfl rfl (n_mv rfl (by constructor)) ?_
          refine acan1_skip rfl rfl rfl ?_
          refine acan1_skip rfl rfl rfl ?_
          refine acan1_skip rfl rfl rfl ?_
          refine acan1_skip rfl rfl rfl ?_
          refine acan1_skip rfl rfl rfl ?_
          refine acan1_skip rfl rfl rfl ?_
          refine acan1_skip rfl rfl rfl ?_
          refine acan1_two ?_
          refine acan2_skipE rfl rfl rfl ?_
          refine acan2_n rfl rfl rfl rfl (n_pf rfl rfl (by constructor)) ?_
          refine acan2_nil ?_
          dsimp only [St.put]
          refine ⟨_, ?_, ⟨⟨rfl, rfl⟩, zF, zB, zN, zX⟩⟩
          (simp [leadQ, h8]; done)
      · rintro b hst
        dsimp only at hst ⊢
        refine aw_cond rfl (fun hc => ?_) (fun hc => ?_)
        · rw [hc] at hst
          refine aw_seq_k fun K8 hK8 => ?_
          refine aw_draw [(0, none), (1, none), (2, none), (3, none), (4, none), (5, none), (6, none), (7, none), (8, none), (9, none), (10, none), (11, none), (12, none), (13, none), (14, none), (15, none)] (fun i => [14].contains i) (fun i => [14].contains i) (fun i => [0, 1, 2, 3, 5, 6, 7, 8, 10, 12, 13, 15].contains i) [] (by kernel_rfl) (by kernel_rfl) ?_
          refine acan1_n rfl rfl rfl rfl (n_mv rfl (by constructor)) ?_
          refine acan1_n rfl rfl rfl rfl (n_mv rfl (by constructor)) ?_
          try dsimp only [St.put]
          refine acan1_n rfl rfl rfl rfl (n_indexAddr rfl rfl rfl rfl (map_get (by assumption)) (Enc.len _)) ?_
          refine acan1_n rfl rfl rfl rfl (n_fieldAddr' rfl rfl rfl) ?_
          try dsimp only [St.put]
          refine acan1_s rfl rfl rfl rfl (s_load rfl rfl) ?_
          refine acan1_n rfl rfl rfl rfl (n_mv rfl (by constructor)) ?_
          refine acan1_n rfl rfl rfl rfl (n_mv rfl (by constructor)) ?_
          try dsimp only [St.put]
          refine acan1_n rfl rfl rfl rfl (n_indexAddr rfl rfl rfl rfl (map_get (by assumption)) (Enc.len _)) ?_
          refine acan1_n rfl rfl rfl rfl (n_fieldAddr' rfl rfl rfl) ?_
          try dsimp only [St.put]
          refine acan1_s rfl rfl rfl rfl (s_load rfl rfl) ?_
          refine acan1_n rfl rfl rfl rfl (n_fieldAddr' rfl rfl rfl) ?_
          try dsimp only [St.put]
          refine acan1_s rfl rfl rfl rfl (s_load rfl rfl) ?_
          refine acan1_n rfl rfl rfl rfl (n_sub rfl rfl rfl (by omega)) ?_
          refine acan1_n rfl rfl rfl rfl (n_build rfl rfl) ?_
          refine acan1_two ?_
          try dsimp only [St.put]
          refine acan2_late rfl rfl rfl rfl (e_store_all rfl rfl rfl zG rfl rfl (by rfl) ?_)
          refine acan2_n rfl rfl rfl rfl (n_as rfl (by constructor)) ?_
          refine acan2_nil ?_
          dsimp only [St.put]
          refine hK8 _ ?_
          refine aw_ret ?_
          refine ends_v2 rfl (rv_box rfl zG (by rfl) (by first | exact List.cons_ne_nil _ _ | (simp; done) | (simp [putAt]; done)) rfl) (rv_tmp (by constructor)) zN zS ?_ ?_
          · rw [leadR_yes hx hI.2 hst]
            exact zW
          · rw [leadR_yes hx hI.2 hst]; exact Wk.refl _
        · rw [hc] at hst
          refine aw_skip ?_
          refine hK6 _ ?_
          refine aw_region ?_
          refine aops_n rfl (n_mv rfl (by constructor)) ?_
          refine aops_n rfl (n_add rfl rfl rfl (by omega)) ?_
          refine aops_n rfl (n_as rfl (by constructor)) ?_
          refine aops_nil ?_
          dsimp only [St.put]
          exact ⟨k + 1, by omega, ⟨by omega, take_no hx hI.2 hst⟩, ⟨⟨rfl, rfl⟩, zF, zB, zN, zX⟩⟩
    · replace hc := of_decide_eq_false hc
      refine aw_exit ?_
      refine hK2 _ ?_
      refine aw_seq_k fun K9 hK9 => ?_
      refine aw_region ?_
      refine aops_n rfl (n_build rfl rfl) ?_
      try dsimp only [St.put]
      refine aops_e rfl (e_store_all rfl rfl rfl zG rfl rfl (by rfl) ?_)
      refine aops_n rfl (n_as rfl (by constructor)) ?_
      refine aops_nil ?_
      dsimp only [St.put]
      refine hK9 _ ?_
      refine aw_ret ?_
      refine ends_v2 rfl (rv_box rfl zG (by rfl) (by first | exact List.cons_ne_nil _ _ | (simp; done) | (simp [putAt]; done)) rfl) (rv_tmp (by constructor)) zN zS ?_ ?_
      · rw [leadR_no (show l.length ≤ k by omega) hI.2]
        exact zW
      · rw [leadR_no (show l.length ≤ k by omega) hI.2]; exact Wk.refl _
end Go.Proofs.YtjjklfgpffgnfaaDoor
