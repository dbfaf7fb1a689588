/-
  Contracts of the reference's functions of charts: references, and where they lead; both, too, from one edition to another one.
-/
import Derived.Test.YtjjklfgpffgnfaaDoorEaPlain
namespace Go.AB
open Go Go.RowKit
open Go.PB (Chap TextD PlaceD ReadingD CopyD WayD)
theorem atR_yes {l : List RowD} {p : PlaceD} {k : Nat} {r : RowD} (hr : l[k]? = some r) (h : ∀ y ∈ l.take k, (decide (y.ch = p.ch) && decide (y.ln = p.ln)) = false) (hq : (decide (r.ch = p.ch) && decide (r.ln = p.ln)) = true) : atR l p = r := by
  unfold atR
  rw [find_at (q := fun r => decide (r.ch = p.ch) && decide (r.ln = p.ln)) hr h hq]; rfl
theorem atR_no {l : List RowD} {p : PlaceD} {k : Nat} (hk : l.length ≤ k) (h : ∀ y ∈ l.take k, (decide (y.ch = p.ch) && decide (y.ln = p.ln)) = false) : atR l p = ⟨0, 0, 0, 0, 0⟩ := by
  unfold atR
  rw [find_no (q := fun r => decide (r.ch = p.ch) && decide (r.ln = p.ln)) hk h]; rfl
def leadQ (r : RefD) (x : RowD) : Bool := decide (x.au = r.ch) && (decide (x.nu = r.ln) && inB r.wd 1 x.ws)
theorem leadR_yes {l : List RowD} {r : RefD} {k : Nat} {x : RowD} (hx : l[k]? = some x) (h : ∀ y ∈ l.take k, leadQ r y = false) (hq : leadQ r x = true) : leadR l r = some ⟨x.ch, x.ln, r.wd - 1⟩ := by
  show (l.find? (leadQ r)).map _ = _
  rw [find_at hx h hq]; rfl
theorem leadR_no {l : List RowD} {r : RefD} {k : Nat} (hk : l.length ≤ k) (h : ∀ y ∈ l.take k, leadQ r y = false) : leadR l r = none := by
  show (l.find? (leadQ r)).map _ = _
  rw [find_no hk h]; rfl
theorem words_len {t : TextD} (ht : textB t = true) (p : L2) : ((wordsOf t p).getD []).length ≤ 10 := by
  cases h : wordsOf t p with
  | none => simp
  | some l => have := words_bd ht h; simp only [Option.getD_some]; omega
end Go.AB
namespace Go.Proofs.YtjjklfgpffgnfaaDoor
set_option maxRecDepth 10000
open Go.RowKit Go.AB
open Go.AB.Enc (cells)
open Go.PB (Chap TextD PlaceD ReadingD CopyD WayD)
theorem refLine_pure (t : TextD) (p : PlaceD) (ht : textB t = true) : Pure Tryd.prog 95 [textC t, val p] (.tup [lst ((wordsOf t (p.ch, p.ln)).getD []), .v (.bool (wordsOf t (p.ch, p.ln)).isSome)]) := by
  refine pure_of_body Tryd.func95 rfl (fun m => .tup (low_cons (lst_low _ _) (low_cons .v low_nil))) fun G nx => ?_
  simp only [Tryd.ntmps95, List.length_cons, List.length_nil, Nat.reduceAdd, Nat.reduceSub]
  refine aw_lt fun hlt => ?_
  dsimp only at hlt
  obtain ⟨hl1, hl2, hl3⟩ := text_ok ht
  refine aw_seq_k fun K1 hK1 => ?_
  refine aw_region ?_
  try dsimp only [St.put]
  refine aops_e rfl (e_box rfl rfl (by simp) ?_)
  try dsimp only [St.put]
  refine aops_e rfl (e_box rfl rfl (by simp) ?_)
  refine aops_n rfl (n_as rfl (by constructor)) ?_
  refine aops_n rfl (n_as rfl (by constructor)) ?_
  refine aops_nil ?_
  dsimp only [St.put]
  refine hK1 _ ?_
  refine aw_seq_k fun K2 hK2 => ?_
  refine aw_wipe 6 ?_
  simp only [firsts, getA, Nat.reduceAdd, List.getD_cons_zero, List.getD_cons_succ, List.getD_nil, natBeq, Nat.reduceBEq, cond_true, cond_false]
  refine aw_cutD (X := Bool) (fun b => b = !(wordsOf t (p.ch, p.ln)).isSome) (fun b => [(28, .v (.bool b))]) (fun b G' => G') rfl ?_ (fun _ _ _ _ h => .inl h) ?_ ?_
  · rintro b hI
    exact zL
  · refine aw_drawT [(0, none), (1, none), (2, none), (3, none), (4, none), (5, none)] (fun _ => false) (fun i => [0, 2, 4, 5].contains i) 17 [true, true, true, true, true, true, false, false, false, false, false, false, false, false, false, false, false, false, false, false, false, false, false] (by kernel_rfl) (by kernel_rfl) ?_
    refine acan1_n rfl rfl rfl rfl (n_fieldAddr' rfl rfl rfl) ?_
    try dsimp only [St.put]
    refine acan1_s rfl rfl rfl rfl (s_load rfl rfl) ?_
    refine acan1_n rfl rfl rfl rfl (n_fieldAddr' rfl rfl rfl) ?_
    try dsimp only [St.put]
    refine acan1_s rfl rfl rfl rfl (s_load rfl rfl) ?_
    refine acan1_n rfl rfl rfl rfl (n_len' rfl rfl (List.length_map _)) ?_
    refine acan1_n rfl rfl rfl rfl (n_sub rfl rfl rfl (by omega)) ?_
    refine acan1_nil ?_
    refine aany_step [6] (by kernel_rfl) (by simp) ?_
    refine aeach_cons ?_ ?_
    · try dsimp only [St.put]
      refine aone_e rfl rfl rfl (e_call_pure rfl rfl rfl (within_pure _ _ _) ?_)
      refine aany_quiet [(7, none), (8, none), (9, none), (10, none), (11, none), (12, none), (13, none), (14, none), (15, none), (16, none), (17, none), (18, none), (19, none)] (fun i => [7, 8, 9, 11, 13, 15, 16, 18, 19].contains i) 3 [true, true, true, true, true, true, true, true, true, true, true, true, true, true, true, true, true, true, true, true, false, false, false] (by kernel_rfl) ?_
      refine acan1_n rfl rfl rfl rfl (n_not rfl rfl) ?_
      refine acan1_n rfl rfl rfl rfl (n_mv rfl (by constructor)) ?_
      refine acan1_split (fun hs => ?_) (fun hs => ?_)
      · have h8 : inB p.ch 0 ((t.length : Int) - 1) = false := by simpa using hs
        refine acan1_skip rfl rfl rfl ?_
        refine acan1_skip rfl rfl rfl ?_
        refine acan1_skip rfl rfl rfl ?_
        refine acan1_skip rfl rfl rfl ?_
        refine acan1_skip rfl rfl rfl ?_
        refine acan1_skip rfl rfl rfl ?_
        refine acan1_skip rfl rfl rfl ?_
        refine acan1_skip rfl rfl rfl ?_
        refine acan1_skip rfl rfl rfl ?_
        refine acan1_skip rfl rfl rfl ?_
        refine acan1_skip rfl rfl rfl ?_
        refine acan1_nil ?_
        refine aany_step [20] (by kernel_rfl) (by simp) ?_
        refine aeach_cons ?_ ?_
        · refine aone_skip rfl rfl rfl ?_
          refine aany_quiet [(21, none), (22, none)] (fun i => [21, 22].contains i) 0 [true, true, true, true, true, true, true, true, true, true, true, true, true, true, true, true, true, true, true, true, true, true, true] (by kernel_rfl) ?_
          refine acan1_skip rfl rfl rfl ?_
          refine acan1_n rfl rfl rfl rfl (n_pt rfl rfl (by constructor)) ?_
          refine acan1_nil ?_
          dsimp only [St.put]
          refine aany_nil (by kernel_rfl) ?_
          refine ⟨_, ?_, ⟨⟨rfl, rfl⟩, zF, zB, zN, zX⟩⟩
          rw [wordsOf_isSome]
          (simp [h8]; done)
        exact aeach_nil
      · have h8 : inB p.ch 0 ((t.length : Int) - 1) = true := by simpa using hs
        have hn1' := h8
        simp only [inB_true] at hn1'
        obtain ⟨c, hcx⟩ : ∃ c, t[p.ch.toNat]? = some c := some_of_lt (by omega)
        have hnl : nlines t p.ch = c.lines.length := by simp [nlines, hcx]
        have hll := (hl3 c (mem_of_get hcx)).2.1
        have hch : p.ch = ((p.ch.toNat : Nat) : Int) := by omega
        refine acan1_n rfl rfl rfl rfl (n_fieldAddr' rfl rfl rfl) ?_
        try dsimp only [St.put]
        refine acan1_s rfl rfl rfl rfl (s_load rfl rfl) ?_
        refine acan1_n rfl rfl rfl rfl (n_fieldAddr' rfl rfl rfl) ?_
        try dsimp only [St.put]
        refine acan1_s rfl rfl rfl rfl (s_load rfl rfl) ?_
        refine acan1_n rfl rfl rfl rfl (n_fieldAddr' rfl rfl rfl) ?_
        try dsimp only [St.put]
        refine acan1_s rfl rfl rfl rfl (s_load rfl rfl) ?_
        try dsimp only [St.put]
        refine acan1_n rfl rfl rfl rfl (n_indexAddr rfl rfl rfl (by omega) (map_get (by assumption)) (Enc.len _)) ?_
        refine acan1_n rfl rfl rfl rfl (n_fieldAddr' rfl rfl rfl) ?_
        try dsimp only [St.put]
        refine acan1_s rfl rfl rfl rfl (s_load rfl rfl) ?_
        refine acan1_n rfl rfl rfl rfl (n_len' rfl rfl (List.length_map _)) ?_
        refine acan1_n rfl rfl rfl rfl (n_sub rfl rfl rfl (by omega)) ?_
        refine acan1_nil ?_
        refine aany_step [20] (by kernel_rfl) (by simp) ?_
        refine aeach_cons ?_ ?_
        · try dsimp only [St.put]
          refine aone_e rfl rfl rfl (e_call_pure rfl rfl rfl (within_pure _ _ _) ?_)
          refine aany_quiet [(21, none), (22, none)] (fun i => [21, 22].contains i) 0 [true, true, true, true, true, true, true, true, true, true, true, true, true, true, true, true, true, true, true, true, true, true, true] (by kernel_rfl) ?_
          refine acan1_n rfl rfl rfl rfl (n_not rfl rfl) ?_
          refine acan1_n rfl rfl rfl rfl (n_pf rfl rfl (by constructor)) ?_
          refine acan1_nil ?_
          dsimp only [St.put]
          refine aany_nil (by kernel_rfl) ?_
          refine ⟨_, ?_, ⟨⟨rfl, rfl⟩, zF, zB, zN, zX⟩⟩
          rw [wordsOf_isSome]
          (simp [h8, hnl]; done)
        exact aeach_nil
    exact aeach_nil
  · rintro b hst
    dsimp only at hst ⊢
    refine aw_cond rfl (fun hc => ?_) (fun hc => ?_)
    · have hw : wordsOf t (p.ch, p.ln) = none := by rw [hc] at hst; simpa using hst.symm
      refine aw_seq_k fun K4 hK4 => ?_
      refine aw_region ?_
      refine aops_n rfl (n_as rfl (by constructor)) ?_
      refine aops_n rfl (n_as rfl (by constructor)) ?_
      refine aops_nil ?_
      dsimp only [St.put]
      refine hK4 _ ?_
      refine aw_ret ?_
      refine ends_v2 rfl (rv_tmp (by constructor)) (rv_tmp (by constructor)) zN zS ?_ ?_
      · rw [hw]
        exact zW
      · rw [hw]; exact Wk.refl _
    · have hw0 : (wordsOf t (p.ch, p.ln)).isSome = true := by rw [hc] at hst; simpa using hst.symm
      obtain ⟨l, hw⟩ := Option.isSome_iff_exists.1 hw0
      obtain ⟨k, n, c, hkn, hk, hn⟩ := wordsOf_some hw
      have hch : p.ch = ((k : Nat) : Int) := congrArg Prod.fst hkn
      have hln : p.ln = ((n : Nat) : Int) := congrArg Prod.snd hkn
      refine aw_skip ?_
      refine hK2 _ ?_
      refine aw_seq_k fun K5 hK5 => ?_
      refine aw_draw [(0, none), (1, none), (2, none), (3, none), (4, none), (5, none), (6, none), (7, none), (8, none), (9, none), (10, none), (11, none), (12, none)] (fun i => [].contains i) (fun i => [].contains i) (fun i => [0, 2, 4, 5, 7, 9, 11, 12].contains i) [] (by kernel_rfl) (by kernel_rfl) ?_
      refine acan1_n rfl rfl rfl rfl (n_fieldAddr' rfl rfl rfl) ?_
      try dsimp only [St.put]
      refine acan1_s rfl rfl rfl rfl (s_load rfl rfl) ?_
      refine acan1_n rfl rfl rfl rfl (n_fieldAddr' rfl rfl rfl) ?_
      try dsimp only [St.put]
      refine acan1_s rfl rfl rfl rfl (s_load rfl rfl) ?_
      try dsimp only [St.put]
      refine acan1_n rfl rfl rfl rfl (n_indexAddr rfl rfl rfl (by omega) (map_get (by assumption)) (Enc.len _)) ?_
      refine acan1_n rfl rfl rfl rfl (n_fieldAddr' rfl rfl rfl) ?_
      try dsimp only [St.put]
      refine acan1_s rfl rfl rfl rfl (s_load rfl rfl) ?_
      refine acan1_n rfl rfl rfl rfl (n_fieldAddr' rfl rfl rfl) ?_
      try dsimp only [St.put]
      refine acan1_s rfl rfl rfl rfl (s_load rfl rfl) ?_
      try dsimp only [St.put]
      refine acan1_n rfl rfl rfl rfl (n_indexAddr rfl rfl rfl (by omega) (map_get (by assumption)) (Enc.len _)) ?_
      try dsimp only [St.put]
      refine acan1_s rfl rfl rfl rfl (s_load rfl rfl) ?_
      refine acan1_n rfl rfl rfl rfl (n_as rfl (by constructor)) ?_
      refine acan1_n rfl rfl rfl rfl (n_as rfl (by constructor)) ?_
      refine acan1_nil ?_
      dsimp only [St.put]
      refine hK5 _ ?_
      refine aw_ret ?_
      refine ends_v2 rfl (rv_tmp (by constructor)) (rv_tmp (by constructor)) zN zS ?_ ?_
      · rw [hw]
        exact zW
      · rw [hw]; exact Wk.refl _
theorem Place_pure (t : TextD) (p : PlaceD) (ht : textB t = true) : Pure Tryd.prog 64 [textC t, val p] (.v (.bool (placeB t p))) := by
  refine pure_of_body Tryd.func64 rfl (fun m => .v) fun G nx => ?_
  simp only [Tryd.ntmps64, List.length_cons, List.length_nil, Nat.reduceAdd, Nat.reduceSub]
  refine aw_lt fun hlt => ?_
  dsimp only at hlt
  have hwl := words_len ht (p.ch, p.ln)
  refine aw_seq_k fun K1 hK1 => ?_
  refine aw_region ?_
  try dsimp only [St.put]
  refine aops_e rfl (e_box rfl rfl (by simp) ?_)
  try dsimp only [St.put]
  refine aops_e rfl (e_box rfl rfl (by simp) ?_)
  refine aops_n rfl (n_as rfl (by constructor)) ?_
  refine aops_nil ?_
  dsimp only [St.put]
  refine hK1 _ ?_
  refine aw_seq_k fun K2 hK2 => ?_
  refine aw_region ?_
  try dsimp only [St.put]
  refine aops_s rfl (s_load_agg' rfl rfl rfl) ?_
  try dsimp only [St.put]
  refine aops_s rfl (s_load_agg' rfl rfl (Enc.len _)) ?_
  try dsimp only [St.put]
  refine aops_e rfl (e_call_pure rfl rfl rfl (refLine_pure t p ht) ?_)
  refine aops_n rfl (n_mv rfl (by constructor)) ?_
  refine aops_n rfl (n_extract rfl rfl rfl) ?_
  refine aops_n rfl (n_extract rfl rfl rfl) ?_
  refine aops_n rfl (n_as rfl (by constructor)) ?_
  refine aops_n rfl (n_as rfl (by constructor)) ?_
  refine aops_nil ?_
  dsimp only [St.put]
  refine hK2 _ ?_
  refine aw_seq_k fun K3 hK3 => ?_
  refine aw_region ?_
  refine aops_n rfl (n_mv rfl (by constructor)) ?_
  refine aops_n rfl (n_mv rfl (by constructor)) ?_
  refine aops_split (fun hs => ?_) (fun hs => ?_)
  · obtain ⟨l, hw⟩ := Option.isSome_iff_exists.1 hs
    refine aops_n rfl (n_fieldAddr' rfl rfl rfl) ?_
    try dsimp only [St.put]
    refine aops_s rfl (s_load rfl rfl) ?_
    refine aops_n rfl (n_mv rfl (by constructor)) ?_
    refine aops_n rfl (n_len' rfl rfl (List.length_map _)) ?_
    refine aops_n rfl (n_sub rfl rfl rfl (by omega)) ?_
    try dsimp only [St.put]
    refine aops_e rfl (e_call_pure rfl rfl rfl (within_pure _ _ _) ?_)
    refine aops_n rfl (n_pt rfl rfl (by constructor)) ?_
    refine aops_n rfl (n_as rfl (by constructor)) ?_
    refine aops_nil ?_
    dsimp only [St.put]
    refine hK3 _ ?_
    refine aw_ret ?_
    refine ends_1 rfl (by constructor) zN zS ?_
    exact vb (by simp [placeB, hw])
  · have hw : wordsOf t (p.ch, p.ln) = none := by simpa using hs
    refine aops_skip rfl ?_
    refine aops_skip rfl ?_
    refine aops_skip rfl ?_
    refine aops_skip rfl ?_
    refine aops_skip rfl ?_
    refine aops_skip rfl ?_
    refine aops_n rfl (n_pf rfl rfl (by constructor)) ?_
    refine aops_n rfl (n_as rfl (by constructor)) ?_
    refine aops_nil ?_
    dsimp only [St.put]
    refine hK3 _ ?_
    refine aw_ret ?_
    refine ends_1 rfl (by constructor) zN zS ?_
    exact vb (by simp [placeB, hw])
theorem refAt_pure (l : List RowD) (p : PlaceD) (hll : l.length ≤ 60) : Pure Tryd.prog 65 [lst l, val p] (val (atR l p)) := by
  refine pure_of_body Tryd.func65 rfl (fun m => (val_low _ _)) fun G nx => ?_
  simp only [Tryd.ntmps65, List.length_cons, List.length_nil, Nat.reduceAdd, Nat.reduceSub]
  refine aw_lt fun hlt => ?_
  dsimp only at hlt
  refine aw_seq_k fun K1 hK1 => ?_
  refine aw_region ?_
  try dsimp only [St.put]
  refine aops_e rfl (e_box rfl rfl (by simp) ?_)
  try dsimp only [St.put]
  refine aops_e rfl (e_allocC rfl ?_)
  refine aops_nil ?_
  dsimp only [St.put]
  refine hK1 _ ?_
  refine aw_seq_k fun K2 hK2 => ?_
  refine aw_seq_k fun K3 hK3 => ?_
  refine aw_region ?_
  refine aops_n rfl (n_as rfl (by constructor)) ?_
  refine aops_nil ?_
  dsimp only [St.put]
  refine hK3 _ ?_
  refine aw_block ?_
  refine aw_wipe 6 ?_
  simp only [firsts, getA, Nat.reduceAdd, List.getD_cons_zero, List.getD_cons_succ, List.getD_nil, natBeq, Nat.reduceBEq, cond_true, cond_false]
  refine aw_forget (setG G nx (.box 0 [.v (.int .i64 0), .v (.int .i64 0), .v (.int .i64 0), .v (.int .i64 0), .v (.int .i64 0)])) zX ?_
  dsimp only
  refine aw_loopD (X := Nat) (fun k => k ≤ l.length ∧ ∀ r ∈ l.take k, (decide (r.ch = p.ch) && decide (r.ln = p.ln)) = false) (fun k => l.length - k) (fun k => [(5, .v (.int .i64 (k : Int)))]) (fun k G' => G') 0 rfl ?_ ?_ (fun _ _ h => h) ?_ ?_ ?_
  · exact ⟨Nat.zero_le _, by simp⟩
  · exact zF
  · rintro k hI
    exact zL
  · exact fun _ _ _ _ h => .inl h
  · rintro k hI
    dsimp only at hI ⊢
    refine aw_seq_k fun K4 hK4 => ?_
    refine aw_seq_k fun K5 hK5 => ?_
    refine aw_region ?_
    refine aops_n rfl (n_mv rfl (by constructor)) ?_
    refine aops_n rfl (n_mv rfl (by constructor)) ?_
    refine aops_n rfl (n_len' rfl rfl (List.length_map _)) ?_
    refine aops_n rfl (n_lss rfl rfl rfl) ?_
    refine aops_nil ?_
    dsimp only [St.put]
    refine hK5 _ ?_
    refine aw_cond rfl (fun hc => ?_) (fun hc => ?_)
    · replace hc := of_decide_eq_true hc
      obtain ⟨r, hr⟩ : ∃ x, l[k]? = some x := some_of_lt (by omega)
      refine aw_skip ?_
      refine hK4 _ ?_
      refine aw_seq_k fun K6 hK6 => ?_
      refine aw_block ?_
      refine aw_wipe 6 ?_
      simp only [firsts, getA, Nat.reduceAdd, List.getD_cons_zero, List.getD_cons_succ, List.getD_nil, natBeq, Nat.reduceBEq, cond_true, cond_false]
      refine aw_cutD (X := Bool) (fun b => (decide (r.ch = p.ch) && decide (r.ln = p.ln)) = b) (fun b => [(29, .v (.bool b))]) (fun b G' => G') rfl ?_ (fun _ _ _ _ h => .inl h) ?_ ?_
      · rintro b hI
        exact zL
      · refine aw_draw [(0, none), (1, none), (2, none), (3, none), (4, none), (5, none), (6, none), (7, none), (8, none), (9, none), (10, none), (11, none), (12, none), (13, none), (14, none), (15, none), (16, none), (17, none)] (fun i => [].contains i) (fun i => [].contains i) (fun i => [0, 1, 2, 3, 5, 7, 8, 9, 10, 11, 12, 14, 16, 17].contains i) [] (by kernel_rfl) (by kernel_rfl) ?_
        refine acan1_n rfl rfl rfl rfl (n_mv rfl (by constructor)) ?_
        refine acan1_n rfl rfl rfl rfl (n_mv rfl (by constructor)) ?_
        try dsimp only [St.put]
        refine acan1_n rfl rfl rfl rfl (n_indexAddr rfl rfl rfl rfl (map_get (by assumption)) (Enc.len _)) ?_
        refine acan1_n rfl rfl rfl rfl (n_fieldAddr' rfl rfl rfl) ?_
        try dsimp only [St.put]
        refine acan1_s rfl rfl rfl rfl (s_load rfl rfl) ?_
        refine acan1_n rfl rfl rfl rfl (n_fieldAddr' rfl rfl rfl) ?_
        try dsimp only [St.put]
        refine acan1_s rfl rfl rfl rfl (s_load rfl rfl) ?_
        refine acan1_n rfl rfl rfl rfl (n_eql rfl rfl rfl) ?_
        refine acan1_n rfl rfl rfl rfl (n_mv rfl (by constructor)) ?_
        refine acan1_split (fun hs => ?_) (fun hs => ?_)
        · have h8 := of_decide_eq_true hs
          refine acan1_n rfl rfl rfl rfl (n_mv rfl (by constructor)) ?_
          refine acan1_n rfl rfl rfl rfl (n_mv rfl (by constructor)) ?_
          try dsimp only [St.put]
          refine acan1_n rfl rfl rfl rfl (n_indexAddr rfl rfl rfl rfl (map_get (by assumption)) (Enc.len _)) ?_
          refine acan1_n rfl rfl rfl rfl (n_fieldAddr' rfl rfl rfl) ?_
          try dsimp only [St.put]
          refine acan1_s rfl rfl rfl rfl (s_load rfl rfl) ?_
          refine acan1_n rfl rfl rfl rfl (n_fieldAddr' rfl rfl rfl) ?_
          try dsimp only [St.put]
          refine acan1_s rfl rfl rfl rfl (s_load rfl rfl) ?_
          refine acan1_n rfl rfl rfl rfl (n_eql rfl rfl rfl) ?_
          refine acan1_n rfl rfl rfl rfl (n_pt rfl rfl (by constructor)) ?_
          refine acan1_nil ?_
          dsimp only [St.put]
          refine ⟨_, ?_, ⟨⟨rfl, rfl⟩, zF, zB, zN, zX⟩⟩
          (simp [h8]; done)
        · have h8 := of_decide_eq_false hs
          refine acan1_skip rfl rfl rfl ?_
          refine acan1_skip rfl rfl rfl ?_
          refine acan1_skip rfl rfl rfl ?_
          refine acan1_skip rfl rfl rfl ?_
          refine acan1_skip rfl rfl rfl ?_
          refine acan1_skip rfl rfl rfl ?_
          refine acan1_skip rfl rfl rfl ?_
          refine acan1_skip rfl rfl rfl ?_
          refine acan1_n rfl rfl rfl rfl (n_pf rfl rfl (by constructor)) ?_
          refine acan1_nil ?_
          dsimp only [St.put]
          refine ⟨_, ?_, ⟨⟨rfl, rfl⟩, zF, zB, zN, zX⟩⟩
          (simp [h8]; done)
      · rintro b hst
        dsimp only at hst ⊢
        refine aw_cond rfl (fun hc => ?_) (fun hc => ?_)
        · rw [hc] at hst
          refine aw_seq_k fun K8 hK8 => ?_
          refine aw_region ?_
          refine aops_n rfl (n_mv rfl (by constructor)) ?_
          refine aops_n rfl (n_mv rfl (by constructor)) ?_
          try dsimp only [St.put]
          refine aops_n rfl (n_indexAddr rfl rfl rfl rfl (map_get (by assumption)) (Enc.len _)) ?_
          try dsimp only [St.put]
          refine aops_s rfl (s_load_agg' rfl rfl (Enc.len _)) ?_
          try dsimp only [St.put]
          refine aops_e rfl (e_store_all rfl rfl rfl zG rfl rfl (by rfl) ?_)
          refine aops_nil ?_
          dsimp only [St.put]
          refine hK8 _ ?_
          refine aw_ret ?_
          refine ends_v1 rfl (rv_box rfl zG (by rfl) (by first | exact List.cons_ne_nil _ _ | (simp; done) | (simp [putAt]; done)) rfl) zN zS ?_
          rw [atR_yes hr hI.2 hst]
          exact zW
        · rw [hc] at hst
          refine aw_skip ?_
          refine hK6 _ ?_
          refine aw_region ?_
          refine aops_n rfl (n_mv rfl (by constructor)) ?_
          refine aops_n rfl (n_add rfl rfl rfl (by omega)) ?_
          refine aops_n rfl (n_as rfl (by constructor)) ?_
          refine aops_nil ?_
          dsimp only [St.put]
          exact ⟨k + 1, by omega, ⟨by omega, take_no (q := fun r => decide (r.ch = p.ch) && decide (r.ln = p.ln)) hr hI.2 hst⟩, ⟨⟨rfl, rfl⟩, zF, zB, zN, zX⟩⟩
    · replace hc := of_decide_eq_false hc
      refine aw_exit ?_
      refine hK2 _ ?_
      refine aw_seq_k fun K9 hK9 => ?_
      refine aw_region ?_
      refine aops_n rfl (n_build rfl rfl) ?_
      try dsimp only [St.put]
      refine aops_e rfl (e_store_all rfl rfl rfl zG rfl rfl (by rfl) ?_)
      refine aops_nil ?_
      dsimp only [St.put]
      refine hK9 _ ?_
      refine aw_ret ?_
      refine ends_v1 rfl (rv_box rfl zG (by rfl) (by first | exact List.cons_ne_nil _ _ | (simp; done) | (simp [putAt]; done)) rfl) zN zS ?_
      rw [atR_no (show l.length ≤ k by omega) hI.2]
      exact zW
theorem Refer2_pure (t : TextD) (e : EditionD) (p : PlaceD) : Pure Tryd.prog 26 [textC t, val e, val p] (.tup [val (referV t e p), .v (.int .i64 (referEr t e p))]) := by
  refine pure_of_body Tryd.func26 rfl (fun m => .tup (low_cons (val_low _ _) (low_cons .v low_nil))) fun G nx => ?_
  simp only [Tryd.ntmps26, List.length_cons, List.length_nil, Nat.reduceAdd, Nat.reduceSub]
  refine aw_lt fun hlt => ?_
  dsimp only at hlt
  refine aw_seq_k fun K1 hK1 => ?_
  refine aw_region ?_
  try dsimp only [St.put]
  refine aops_e rfl (e_box rfl rfl (by simp) ?_)
  try dsimp only [St.put]
  refine aops_e rfl (e_box rfl rfl (by simp) ?_)
  try dsimp only [St.put]
  refine aops_e rfl (e_box rfl rfl (by simp) ?_)
  try dsimp only [St.put]
  refine aops_e rfl (e_allocC rfl ?_)
  refine aops_n rfl (n_as rfl (by constructor)) ?_
  refine aops_nil ?_
  dsimp only [St.put]
  refine hK1 _ ?_
  refine aw_seq_k fun K2 hK2 => ?_
  refine aw_seq_k fun K3 hK3 => ?_
  refine aw_region ?_
  try dsimp only [St.put]
  refine aops_s rfl (s_load_agg' rfl rfl rfl) ?_
  try dsimp only [St.put]
  refine aops_s rfl (s_load_agg' rfl rfl (Enc.len _)) ?_
  try dsimp only [St.put]
  refine aops_e rfl (e_call_pure rfl rfl rfl (sound2_pure t e) ?_)
  refine aops_n rfl (n_as rfl (by constructor)) ?_
  refine aops_nil ?_
  dsimp only [St.put]
  refine hK3 _ ?_
  refine aw_seq_k fun K4 hK4 => ?_
  refine aw_region ?_
  refine aops_n rfl (n_mv rfl (by constructor)) ?_
  refine aops_n rfl (n_neq rfl rfl rfl) ?_
  refine aops_nil ?_
  dsimp only [St.put]
  refine hK4 _ ?_
  refine aw_cond rfl (fun hc => ?_) (fun hc => ?_)
  · have h0 : ¬ soundEr t e = 0 := nd_t hc
    have hE : referEr t e p = soundEr t e := by simp [referEr, h0]
    have hV : referV t e p = ⟨0, 0, 0⟩ := by simp [referV, hE, h0]
    refine aw_seq_k fun K5 hK5 => ?_
    refine aw_region ?_
    refine aops_n rfl (n_build rfl rfl) ?_
    refine aops_n rfl (n_mv rfl (by constructor)) ?_
    try dsimp only [St.put]
    refine aops_e rfl (e_store_all rfl rfl rfl zG rfl rfl (by rfl) ?_)
    refine aops_n rfl (n_as rfl (by constructor)) ?_
    refine aops_nil ?_
    dsimp only [St.put]
    refine hK5 _ ?_
    refine aw_ret ?_
    refine ends_v2 rfl (rv_box rfl zG (by rfl) (by first | exact List.cons_ne_nil _ _ | (simp; done) | (simp [putAt]; done)) rfl) (rv_tmp (by constructor)) zN zS ?_ ?_
    · rw [hV]
      exact zW
    · exact Wk.of_eq (vi hE.symm)
  · have h0 : soundEr t e = 0 := nd_f hc
    obtain ⟨ht, hl, he⟩ := checkEr_text (soundEr_check h0).1
    refine aw_skip ?_
    refine hK2 _ ?_
    refine aw_seq_k fun K6 hK6 => ?_
    refine aw_seq_k fun K7 hK7 => ?_
    refine aw_region ?_
    try dsimp only [St.put]
    refine aops_s rfl (s_load_agg' rfl rfl rfl) ?_
    try dsimp only [St.put]
    refine aops_s rfl (s_load_agg' rfl rfl (Enc.len _)) ?_
    try dsimp only [St.put]
    refine aops_e rfl (e_call_pure rfl rfl rfl (Place_pure t p ht) ?_)
    refine aops_n rfl (n_not rfl rfl) ?_
    refine aops_nil ?_
    dsimp only [St.put]
    refine hK7 _ ?_
    refine aw_cond rfl (fun hc => ?_) (fun hc => ?_)
    · have h1 : placeB t p = false := by simpa using hc
      have hE : referEr t e p = 12 := by simp [referEr, h0, h1]
      have hV : referV t e p = ⟨0, 0, 0⟩ := by simp [referV, hE]
      refine aw_seq_k fun K8 hK8 => ?_
      refine aw_region ?_
      refine aops_n rfl (n_build rfl rfl) ?_
      try dsimp only [St.put]
      refine aops_e rfl (e_store_all rfl rfl rfl zG rfl rfl (by rfl) ?_)
      refine aops_n rfl (n_as rfl (by constructor)) ?_
      refine aops_nil ?_
      dsimp only [St.put]
      refine hK8 _ ?_
      refine aw_ret ?_
      refine ends_v2 rfl (rv_box rfl zG (by rfl) (by first | exact List.cons_ne_nil _ _ | (simp; done) | (simp [putAt]; done)) rfl) (rv_tmp (by constructor)) zN zS ?_ ?_
      · rw [hV]
        exact zW
      · exact Wk.of_eq (vi hE.symm)
    · have h1 : placeB t p = true := by simpa using hc
      obtain ⟨l, hw, hw1, hw2⟩ := placeB_true.1 h1
      have hwl := words_bd ht hw
      refine aw_skip ?_
      refine hK6 _ ?_
      refine aw_seq_k fun K9 hK9 => ?_
      refine aw_drawT [(0, none), (1, none), (3, none)] (fun _ => false) (fun i => [].contains i) 4 [true, true, false, true, false, false, false] (by kernel_rfl) (by kernel_rfl) ?_
      try dsimp only [St.put]
      refine acan1_s rfl rfl rfl rfl (s_load_agg' rfl rfl rfl) ?_
      try dsimp only [St.put]
      refine acan1_s rfl rfl rfl rfl (s_load_agg' rfl rfl (Enc.len _)) ?_
      try dsimp only [St.put]
      refine acan1_s rfl rfl rfl rfl (s_load_agg' rfl rfl (Enc.len _)) ?_
      refine acan1_nil ?_
      refine aany_step [2, 5] (by kernel_rfl) (by simp) ?_
      refine aeach_cons ?_ ?_
      · try dsimp only [St.put]
        refine aone_e rfl rfl rfl (e_call_pure rfl rfl rfl (rows_pure t e ht hl he) ?_)
        refine aany_step [4, 5] (by kernel_rfl) (by simp) ?_
        refine aeach_cons ?_ ?_
        · try dsimp only [St.put]
          refine aone_e rfl rfl rfl (e_call_pure rfl rfl rfl (refAt_pure _ p (rowsT_all ht _)) ?_)
          refine aany_step [5] (by kernel_rfl) (by simp) ?_
          refine aeach_cons ?_ ?_
          · try dsimp only [St.put]
            refine aone_e rfl rfl rfl (e_allocC rfl ?_)
            refine aany_step [6] (by kernel_rfl) (by simp) ?_
            refine aeach_cons ?_ ?_
            · try dsimp only [St.put]
              refine aone_e rfl rfl rfl (e_store_all rfl rfl rfl zG rfl rfl (by rfl) ?_)
              dsimp only [St.put]
              refine aany_nil (by kernel_rfl) ?_
              rw [atR_rows hw]
              refine hK9 _ ?_
              refine aw_seq_k fun K10 hK10 => ?_
              refine aw_seq_k fun K11 hK11 => ?_
              refine aw_region ?_
              refine aops_n rfl (n_fieldAddr_box rfl rfl) ?_
              try dsimp only [St.put]
              refine aops_s rfl (s_load_box rfl rfl zG trivial (by first | rfl | assumption)) ?_
              refine aops_n rfl (n_eql rfl rfl rfl) ?_
              refine aops_nil ?_
              dsimp only [St.put]
              refine hK11 _ ?_
              refine aw_cond rfl (fun hc => ?_) (fun hc => ?_)
              · have ha : asOf e.ss (p.ch, p.ln) = none := (rowOf_none he).1 (of_decide_eq_true hc)
                have hE : referEr t e p = 6 := by simp [referEr, h0, h1, ha]
                have hV : referV t e p = ⟨0, 0, 0⟩ := by simp [referV, hE]
                refine aw_seq_k fun K12 hK12 => ?_
                refine aw_region ?_
                refine aops_n rfl (n_build rfl rfl) ?_
                try dsimp only [St.put]
                refine aops_e rfl (e_store_all rfl rfl rfl zG rfl rfl (by rfl) ?_)
                refine aops_n rfl (n_as rfl (by constructor)) ?_
                refine aops_nil ?_
                dsimp only [St.put]
                refine hK12 _ ?_
                refine aw_ret ?_
                refine ends_v2 rfl (rv_box rfl zG (by rfl) (by first | exact List.cons_ne_nil _ _ | (simp; done) | (simp [putAt]; done)) rfl) (rv_tmp (by constructor)) zN zS ?_ ?_
                · rw [hV]
                  exact zW
                · exact Wk.of_eq (vi hE.symm)
              · have ha : asOf e.ss (p.ch, p.ln) ≠ none := fun h => of_decide_eq_false hc ((rowOf_none he).2 h)
                have ha' : (asOf e.ss (p.ch, p.ln)).isSome = true := by cases h : asOf e.ss (p.ch, p.ln) with | none => exact absurd h ha | some v => rfl
                have hE : referEr t e p = 0 := by simp [referEr, h0, h1, ha']
                have hV : referV t e p = ⟨((asOf e.ss (p.ch, p.ln)).getD (0, 0)).1, ((asOf e.ss (p.ch, p.ln)).getD (0, 0)).2, p.wd + 1⟩ := by simp [referV, hE]
                refine aw_skip ?_
                refine hK10 _ ?_
                refine aw_seq_k fun K13 hK13 => ?_
                refine aw_region ?_
                refine aops_n rfl (n_fieldAddr_box rfl rfl) ?_
                try dsimp only [St.put]
                refine aops_s rfl (s_load_box rfl rfl zG trivial (by first | rfl | assumption)) ?_
                refine aops_n rfl (n_fieldAddr_box rfl rfl) ?_
                try dsimp only [St.put]
                refine aops_s rfl (s_load_box rfl rfl zG trivial (by first | rfl | assumption)) ?_
                refine aops_n rfl (n_fieldAddr' rfl rfl rfl) ?_
                try dsimp only [St.put]
                refine aops_s rfl (s_load rfl rfl) ?_
                refine aops_n rfl (n_add rfl rfl rfl (by omega)) ?_
                refine aops_n rfl (n_build rfl rfl) ?_
                try dsimp only [St.put]
                refine aops_e rfl (e_store_all rfl rfl rfl zG rfl rfl (by rfl) ?_)
                refine aops_n rfl (n_as rfl (by constructor)) ?_
                refine aops_nil ?_
                dsimp only [St.put]
                refine hK13 _ ?_
                refine aw_ret ?_
                refine ends_v2 rfl (rv_box rfl zG (by rfl) (by first | exact List.cons_ne_nil _ _ | (simp; done) | (simp [putAt]; done)) rfl) (rv_tmp (by constructor)) zN zS ?_ ?_
                · rw [hV]
                  exact zW
                · exact Wk.of_eq (vi hE.symm)
            exact aeach_nil
          exact aeach_nil
        refine aeach_cons ?_ ?_
        · try dsimp only [St.put]
          refine aone_e rfl rfl rfl (e_allocC rfl ?_)
          refine aany_step [4] (by kernel_rfl) (by simp) ?_
          refine aeach_cons ?_ ?_
          · try dsimp only [St.put]
            refine aone_e rfl rfl rfl (e_call_pure rfl rfl rfl (refAt_pure _ p (rowsT_all ht _)) ?_)
            refine aany_step [6] (by kernel_rfl) (by simp) ?_
            refine aeach_cons ?_ ?_
            · try dsimp only [St.put]
              refine aone_e rfl rfl rfl (e_store_all rfl rfl rfl zG rfl rfl (by rfl) ?_)
              dsimp only [St.put]
              refine aany_nil (by kernel_rfl) ?_
              rw [atR_rows hw]
              refine hK9 _ ?_
              refine aw_seq_k fun K14 hK14 => ?_
              refine aw_seq_k fun K15 hK15 => ?_
              refine aw_region ?_
              refine aops_n rfl (n_fieldAddr_box rfl rfl) ?_
              try dsimp only [St.put]
              refine aops_s rfl (s_load_box rfl rfl zG trivial (by first | rfl | assumption)) ?_
              refine aops_n rfl (n_eql rfl rfl rfl) ?_
              refine aops_nil ?_
              dsimp only [St.put]
              refine hK15 _ ?_
              refine aw_cond rfl (fun hc => ?_) (fun hc => ?_)
              · have ha : asOf e.ss (p.ch, p.ln) = none := (rowOf_none he).1 (of_decide_eq_true hc)
                have hE : referEr t e p = 6 := by simp [referEr, h0, h1, ha]
                have hV : referV t e p = ⟨0, 0, 0⟩ := by simp [referV, hE]
                refine aw_seq_k fun K16 hK16 => ?_
                refine aw_region ?_
                refine aops_n rfl (n_build rfl rfl) ?_
                try dsimp only [St.put]
                refine aops_e rfl (e_store_all rfl rfl rfl zG rfl rfl (by rfl) ?_)
                refine aops_n rfl (n_as rfl (by constructor)) ?_
                refine aops_nil ?_
                dsimp only [St.put]
                refine hK16 _ ?_
                refine aw_ret ?_
                refine ends_v2 rfl (rv_box rfl zG (by rfl) (by first | exact List.cons_ne_nil _ _ | (simp; done) | (simp [putAt]; done)) rfl) (rv_tmp (by constructor)) zN zS ?_ ?_
                · rw [hV]
                  exact zW
                · exact Wk.of_eq (vi hE.symm)
              · have ha : asOf e.ss (p.ch, p.ln) ≠ none := fun h => of_decide_eq_false hc ((rowOf_none he).2 h)
                have ha' : (asOf e.ss (p.ch, p.ln)).isSome = true := by cases h : asOf e.ss (p.ch, p.ln) with | none => exact absurd h ha | some v => rfl
                have hE : referEr t e p = 0 := by simp [referEr, h0, h1, ha']
                have hV : referV t e p = ⟨((asOf e.ss (p.ch, p.ln)).getD (0, 0)).1, ((asOf e.ss (p.ch, p.ln)).getD (0, 0)).2, p.wd + 1⟩ := by simp [referV, hE]
                refine aw_skip ?_
                refine hK14 _ ?_
                refine aw_seq_k fun K17 hK17 => ?_
                refine aw_region ?_
                refine aops_n rfl (n_fieldAddr_box rfl rfl) ?_
                try dsimp only [St.put]
                refine aops_s rfl (s_load_box rfl rfl zG trivial (by first | rfl | assumption)) ?_
                refine aops_n rfl (n_fieldAddr_box rfl rfl) ?_
                try dsimp only [St.put]
                refine aops_s rfl (s_load_box rfl rfl zG trivial (by first | rfl | assumption)) ?_
                refine aops_n rfl (n_fieldAddr' rfl rfl rfl) ?_
                try dsimp only [St.put]
                refine aops_s rfl (s_load rfl rfl) ?_
                refine aops_n rfl (n_add rfl rfl rfl (by omega)) ?_
                refine aops_n rfl (n_build rfl rfl) ?_
                try dsimp only [St.put]
                refine aops_e rfl (e_store_all rfl rfl rfl zG rfl rfl (by rfl) ?_)
                refine aops_n rfl (n_as rfl (by constructor)) ?_
                refine aops_nil ?_
                dsimp only [St.put]
                refine hK17 _ ?_
                refine aw_ret ?_
                refine ends_v2 rfl (rv_box rfl zG (by rfl) (by first | exact List.cons_ne_nil _ _ | (simp; done) | (simp [putAt]; done)) rfl) (rv_tmp (by constructor)) zN zS ?_ ?_
                · rw [hV]
                  exact zW
                · exact Wk.of_eq (vi hE.symm)
            exact aeach_nil
          exact aeach_nil
        exact aeach_nil
      refine aeach_cons ?_ ?_
      · try dsimp only [St.put]
        refine aone_e rfl rfl rfl (e_allocC rfl ?_)
        refine aany_step [2] (by kernel_rfl) (by simp) ?_
        refine aeach_cons ?_ ?_
        · try dsimp only [St.put]
          refine aone_e rfl rfl rfl (e_call_pure rfl rfl rfl (rows_pure t e ht hl he) ?_)
          refine aany_step [4] (by kernel_rfl) (by simp) ?_
          refine aeach_cons ?_ ?_
          · try dsimp only [St.put]
            refine aone_e rfl rfl rfl (e_call_pure rfl rfl rfl (refAt_pure _ p (rowsT_all ht _)) ?_)
            refine aany_step [6] (by kernel_rfl) (by simp) ?_
            refine aeach_cons ?_ ?_
            · try dsimp only [St.put]
              refine aone_e rfl rfl rfl (e_store_all rfl rfl rfl zG rfl rfl (by rfl) ?_)
              dsimp only [St.put]
              refine aany_nil (by kernel_rfl) ?_
              rw [atR_rows hw]
              refine hK9 _ ?_
              refine aw_seq_k fun K18 hK18 => ?_
              refine aw_seq_k fun K19 hK19 => ?_
              refine aw_region ?_
              refine aops_n rfl (n_fieldAddr_box rfl rfl) ?_
              try dsimp only [St.put]
              refine aops_s rfl (s_load_box rfl rfl zG trivial (by first | rfl | assumption)) ?_
              refine aops_n rfl (n_eql rfl rfl rfl) ?_
              refine aops_nil ?_
              dsimp only [St.put]
              refine hK19 _ ?_
              refine aw_cond rfl (fun hc => ?_) (fun hc => ?_)
              · have ha : asOf e.ss (p.ch, p.ln) = none := (rowOf_none he).1 (of_decide_eq_true hc)
                have hE : referEr t e p = 6 := by simp [referEr, h0, h1, ha]
                have hV : referV t e p = ⟨0, 0, 0⟩ := by simp [referV, hE]
                refine aw_seq_k fun K20 hK20 => ?_
                refine aw_region ?_
                refine aops_n rfl (n_build rfl rfl) ?_
                try dsimp only [St.put]
                refine aops_e rfl (e_store_all rfl rfl rfl zG rfl rfl (by rfl) ?_)
                refine aops_n rfl (n_as rfl (by constructor)) ?_
                refine aops_nil ?_
                dsimp only [St.put]
                refine hK20 _ ?_
                refine aw_ret ?_
                refine ends_v2 rfl (rv_box rfl zG (by rfl) (by first | exact List.cons_ne_nil _ _ | (simp; done) | (simp [putAt]; done)) rfl) (rv_tmp (by constructor)) zN zS ?_ ?_
                · rw [hV]
                  exact zW
                · exact Wk.of_eq (vi hE.symm)
              · have ha : asOf e.ss (p.ch, p.ln) ≠ none := fun h => of_decide_eq_false hc ((rowOf_none he).2 h)
                have ha' : (asOf e.ss (p.ch, p.ln)).isSome = true := by cases h : asOf e.ss (p.ch, p.ln) with | none => exact absurd h ha | some v => rfl
                have hE : referEr t e p = 0 := by simp [referEr, h0, h1, ha']
                have hV : referV t e p = ⟨((asOf e.ss (p.ch, p.ln)).getD (0, 0)).1, ((asOf e.ss (p.ch, p.ln)).getD (0, 0)).2, p.wd + 1⟩ := by simp [referV, hE]
                refine aw_skip ?_
                refine hK18 _ ?_
                refine aw_seq_k fun K21 hK21 => ?_
                refine aw_region ?_
                refine aops_n rfl (n_fieldAddr_box rfl rfl) ?_
                try dsimp only [St.put]
                refine aops_s rfl (s_load_box rfl rfl zG trivial (by first | rfl | assumption)) ?_
                refine aops_n rfl (n_fieldAddr_box rfl rfl) ?_
                try dsimp only [St.put]
                refine aops_s rfl (s_load_box rfl rfl zG trivial (by first | rfl | assumption)) ?_
                refine aops_n rfl (n_fieldAddr' rfl rfl rfl) ?_
                try dsimp only [St.put]
                refine aops_s rfl (s_load rfl rfl) ?_
                refine aops_n rfl (n_add rfl rfl rfl (by omega)) ?_
                refine aops_n rfl (n_build rfl rfl) ?_
                try dsimp only [St.put]
                refine aops_e rfl (e_store_all rfl rfl rfl zG rfl rfl (by rfl) ?_)
                refine aops_n rfl (n_as rfl (by constructor)) ?_
                refine aops_nil ?_
                dsimp only [St.put]
                refine hK21 _ ?_
                refine aw_ret ?_
                refine ends_v2 rfl (rv_box rfl zG (by rfl) (by first | exact List.cons_ne_nil _ _ | (simp; done) | (simp [putAt]; done)) rfl) (rv_tmp (by constructor)) zN zS ?_ ?_
                · rw [hV]
                  exact zW
                · exact Wk.of_eq (vi hE.symm)
            exact aeach_nil
          exact aeach_nil
        exact aeach_nil
      exact aeach_nil
theorem Ref2_pure (r : RefD) : Pure Tryd.prog 68 [val r] (.v (.bool (refB r))) := by
  refine pure_of_body Tryd.func68 rfl (fun m => .v) fun G nx => ?_
  simp only [Tryd.ntmps68, List.length_cons, List.length_nil, Nat.reduceAdd, Nat.reduceSub]
  refine aw_lt fun hlt => ?_
  dsimp only at hlt
  refine aw_seq_k fun K1 hK1 => ?_
  refine aw_region ?_
  try dsimp only [St.put]
  refine aops_e rfl (e_box rfl rfl (by simp) ?_)
  refine aops_n rfl (n_as rfl (by constructor)) ?_
  refine aops_nil ?_
  dsimp only [St.put]
  refine hK1 _ ?_
  refine aw_seq_k fun K2 hK2 => ?_
  refine aw_region ?_
  refine aops_n rfl (n_fieldAddr' rfl rfl rfl) ?_
  try dsimp only [St.put]
  refine aops_s rfl (s_load rfl rfl) ?_
  try dsimp only [St.put]
  refine aops_e rfl (e_call_pure rfl rfl rfl (within2_pure _ _ _) ?_)
  refine aops_n rfl (n_mv rfl (by constructor)) ?_
  refine aops_split (fun hs => ?_) (fun hs => ?_)
  · have h3 := hs
    refine aops_n rfl (n_fieldAddr' rfl rfl rfl) ?_
    try dsimp only [St.put]
    refine aops_s rfl (s_load rfl rfl) ?_
    try dsimp only [St.put]
    refine aops_e rfl (e_call_pure rfl rfl rfl (within2_pure _ _ _) ?_)
    refine aops_n rfl (n_pt rfl rfl (by constructor)) ?_
    refine aops_n rfl (n_mv rfl (by constructor)) ?_
    refine aops_split (fun hs => ?_) (fun hs => ?_)
    · have h8 := hs
      refine aops_n rfl (n_fieldAddr' rfl rfl rfl) ?_
      try dsimp only [St.put]
      refine aops_s rfl (s_load rfl rfl) ?_
      try dsimp only [St.put]
      refine aops_e rfl (e_call_pure rfl rfl rfl (within2_pure _ _ _) ?_)
      refine aops_n rfl (n_pt rfl rfl (by constructor)) ?_
      refine aops_n rfl (n_as rfl (by constructor)) ?_
      refine aops_nil ?_
      dsimp only [St.put]
      refine hK2 _ ?_
      refine aw_ret ?_
      refine ends_1 rfl (by constructor) zN zS ?_
      exact vb (by simp [refB, h3]; try simp [h8])
    · have h8 := hs
      refine aops_skip rfl ?_
      refine aops_skip rfl ?_
      refine aops_skip rfl ?_
      refine aops_n rfl (n_pf rfl rfl (by constructor)) ?_
      refine aops_n rfl (n_as rfl (by constructor)) ?_
      refine aops_nil ?_
      dsimp only [St.put]
      refine hK2 _ ?_
      refine aw_ret ?_
      refine ends_1 rfl (by constructor) zN zS ?_
      exact vb (by simp [refB, h3]; try simp [h8])
  · have h3 := hs
    refine aops_skip rfl ?_
    refine aops_skip rfl ?_
    refine aops_skip rfl ?_
    refine aops_n rfl (n_pf rfl rfl (by constructor)) ?_
    refine aops_n rfl (n_mv rfl (by constructor)) ?_
    refine aops_skip rfl ?_
    refine aops_skip rfl ?_
    refine aops_skip rfl ?_
    refine aops_n rfl (n_pf rfl rfl (by constructor)) ?_
    refine aops_n rfl (n_as rfl (by constructor)) ?_
    refine aops_nil ?_
    dsimp only [St.put]
    refine hK2 _ ?_
    refine aw_ret ?_
    refine ends_1 rfl (by constructor) zN zS ?_
    exact vb (by simp [refB, h3]; try simp [h8])
theorem refLead_pure (l : List RowD) (r : RefD) (hll : l.length ≤ 60) (hr : refB r = true) : Pure Tryd.prog 69 [lst l, val r] (.tup [val ((leadR l r).getD ⟨0, 0, 0⟩), .v (.bool (leadR l r).isSome)]) := by
  refine pure_of_body Tryd.func69 rfl (fun m => .tup (low_cons (val_low _ _) (low_cons .v low_nil))) fun G nx => ?_
  simp only [Tryd.ntmps69, List.length_cons, List.length_nil, Nat.reduceAdd, Nat.reduceSub]
  refine aw_lt fun hlt => ?_
  dsimp only at hlt
  have hr' := hr
  simp only [refB, Bool.and_eq_true, inB_true] at hr'
  refine aw_seq_k fun K1 hK1 => ?_
  refine aw_region ?_
  try dsimp only [St.put]
  refine aops_e rfl (e_box rfl rfl (by simp) ?_)
  try dsimp only [St.put]
  refine aops_e rfl (e_allocC rfl ?_)
  refine aops_n rfl (n_as rfl (by constructor)) ?_
  refine aops_nil ?_
  dsimp only [St.put]
  refine hK1 _ ?_
  refine aw_seq_k fun K2 hK2 => ?_
  refine aw_seq_k fun K3 hK3 => ?_
  refine aw_region ?_
  refine aops_n rfl (n_as rfl (by constructor)) ?_
  refine aops_nil ?_
  dsimp only [St.put]
  refine hK3 _ ?_
  refine aw_block ?_
  refine aw_wipe 7 ?_
  simp only [firsts, getA, Nat.reduceAdd, List.getD_cons_zero, List.getD_cons_succ, List.getD_nil, natBeq, Nat.reduceBEq, cond_true, cond_false]
  refine aw_forget (setG G nx (.box 0 [.v (.int .i64 0), .v (.int .i64 0), .v (.int .i64 0)])) zX ?_
  dsimp only
  refine aw_loopD (X := Nat) (fun k => k ≤ l.length ∧ ∀ x ∈ l.take k, leadQ r x = false) (fun k => l.length - k) (fun k => [(6, .v (.int .i64 (k : Int)))]) (fun k G' => G') 0 rfl ?_ ?_ (fun _ _ h => h) ?_ ?_ ?_
  · exact ⟨Nat.zero_le _, by simp⟩
  · exact zF
  · rintro k hI
    exact zL
  · exact fun _ _ _ _ h => .inl h
  · rintro k hI
    dsimp only at hI ⊢
    refine aw_seq_k fun K4 hK4 => ?_
    refine aw_seq_k fun K5 hK5 => ?_
    refine aw_region ?_
    refine aops_n rfl (n_mv rfl (by constructor)) ?_
    refine aops_n rfl (n_mv rfl (by constructor)) ?_
    refine aops_n rfl (n_len' rfl rfl (List.length_map _)) ?_
    refine aops_n rfl (n_lss rfl rfl rfl) ?_
    refine aops_nil ?_
    dsimp only [St.put]
    refine hK5 _ ?_
    refine aw_cond rfl (fun hc => ?_) (fun hc => ?_)
    · replace hc := of_decide_eq_true hc
      obtain ⟨x, hx⟩ : ∃ x, l[k]? = some x := some_of_lt (by omega)
      refine aw_skip ?_
      refine hK4 _ ?_
      refine aw_seq_k fun K6 hK6 => ?_
      refine aw_block ?_
      refine aw_wipe 7 ?_
      simp only [firsts, getA, Nat.reduceAdd, List.getD_cons_zero, List.getD_cons_succ, List.getD_nil, natBeq, Nat.reduceBEq, cond_true, cond_false]
      refine aw_cutD (X := Bool) (fun b => leadQ r x = b) (fun b => [(40, .v (.bool b))]) (fun b G' => G') rfl ?_ (fun _ _ _ _ h => .inl h) ?_ ?_
      · rintro b hI
        exact zL
      · refine aw_draw [(0, none), (1, none), (2, none), (3, none), (4, none), (5, none), (6, none), (7, none), (8, none), (9, none), (10, none), (11, none), (12, none), (13, none), (14, none), (15, none), (16, none), (17, none), (18, none), (19, none), (20, none), (21, none), (22, none), (23, none), (24, none), (25, none), (26, none), (27, none)] (fun i => [26].contains i) (fun i => [26].contains i) (fun i => [0, 1, 2, 3, 5, 7, 8, 9, 10, 11, 12, 14, 16, 17, 18, 19, 21, 22, 23, 24, 27].contains i) [] (by kernel_rfl) (by kernel_rfl) ?_
        refine acan1_n rfl rfl rfl rfl (n_mv rfl (by constructor)) ?_
        refine acan1_n rfl rfl rfl rfl (n_mv rfl (by constructor)) ?_
        try dsimp only [St.put]
        refine acan1_n rfl rfl rfl rfl (n_indexAddr rfl rfl rfl rfl (map_get (by assumption)) (Enc.len _)) ?_
        refine acan1_n rfl rfl rfl rfl (n_fieldAddr' rfl rfl rfl) ?_
        try dsimp only [St.put]
        refine acan1_s rfl rfl rfl rfl (s_load rfl rfl) ?_
        refine acan1_n rfl rfl rfl rfl (n_fieldAddr' rfl rfl rfl) ?_
        try dsimp only [St.put]
        refine acan1_s rfl rfl rfl rfl (s_load rfl rfl) ?_
        refine acan1_n rfl rfl rfl rfl (n_eql rfl rfl rfl) ?_
        refine acan1_n rfl rfl rfl rfl (n_mv rfl (by constructor)) ?_
        refine acan1_split (fun hs => ?_) (fun hs => ?_)
        · have h8 := of_decide_eq_true hs
          refine acan1_n rfl rfl rfl rfl (n_mv rfl (by constructor)) ?_
          refine acan1_n rfl rfl rfl rfl (n_mv rfl (by constructor)) ?_
          try dsimp only [St.put]
          refine acan1_n rfl rfl rfl rfl (n_indexAddr rfl rfl rfl rfl (map_get (by assumption)) (Enc.len _)) ?_
          refine acan1_n rfl rfl rfl rfl (n_fieldAddr' rfl rfl rfl) ?_
          try dsimp only [St.put]
          refine acan1_s rfl rfl rfl rfl (s_load rfl rfl) ?_
          refine acan1_n rfl rfl rfl rfl (n_fieldAddr' rfl rfl rfl) ?_
          try dsimp only [St.put]
          refine acan1_s rfl rfl rfl rfl (s_load rfl rfl) ?_
          refine acan1_n rfl rfl rfl rfl (n_eql rfl rfl rfl) ?_
          refine acan1_n rfl rfl rfl rfl (n_pt rfl rfl (by constructor)) ?_
          refine acan1_n rfl rfl rfl rfl (n_mv rfl (by constructor)) ?_
          refine acan1_split (fun hs => ?_) (fun hs => ?_)
          · have h18 := of_decide_eq_true hs
            refine acan1_n rfl rfl rfl rfl (n_fieldAddr' rfl rfl rfl) ?_
            try dsimp only [St.put]
            refine acan1_s rfl rfl rfl rfl (s_load rfl rfl) ?_
            refine acan1_n rfl rfl rfl rfl (n_mv rfl (by constructor)) ?_
            refine acan1_n rfl rfl rfl rfl (n_mv rfl (by constructor)) ?_
            try dsimp only [St.put]
            refine acan1_n rfl rfl rfl rfl (n_indexAddr rfl rfl rfl rfl (map_get (by assumption)) (Enc.len _)) ?_
            refine acan1_n rfl rfl rfl rfl (n_fieldAddr' rfl rfl rfl) ?_
            try dsimp only [St.put]
            refine acan1_s rfl rfl rfl rfl (s_load rfl rfl) ?_
            refine acan1_two ?_
            try dsimp only [St.put]
            refine acan2_late rfl rfl rfl rfl (e_call_pure rfl rfl rfl (within2_pure _ _ _) ?_)
            refine acan2_n rfl rfl rfl rfl (n_pt rfl rfl (by constructor)) ?_
            refine acan2_nil ?_
            dsimp only [St.put]
            refine ⟨_, ?_, ⟨⟨rfl, rfl⟩, zF, zB, zN, zX⟩⟩
            (simp [leadQ, h8, h18]; done)
          · have h18 := of_decide_eq_false hs
            refine acan1_skip rfl rfl rfl ?_
            refine acan1_skip rfl rfl rfl ?_
            refine acan1_skip rfl rfl rfl ?_
            refine acan1_skip rfl rfl rfl ?_
            refine acan1_skip rfl rfl rfl ?_
            refine acan1_skip rfl rfl rfl ?_
            refine acan1_skip rfl rfl rfl ?_
            refine acan1_two ?_
            refine acan2_skipE rfl rfl rfl ?_
            refine acan2_n rfl rfl rfl rfl (n_pf rfl rfl (by constructor)) ?_
            refine acan2_nil ?_
            dsimp only [St.put]
            refine ⟨_, ?_, ⟨⟨rfl, rfl⟩, zF, zB, zN, zX⟩⟩
            (simp [leadQ, h8, h18]; done)
        · have h8 := of_decide_eq_false hs
          refine acan1_skip rfl rfl rfl ?_
          refine acan1_skip rfl rfl rfl ?_
          refine acan1_skip rfl rfl rfl ?_
          refine acan1_skip rfl rfl rfl ?_
          refine acan1_skip rfl rfl rfl ?_
          refine acan1_skip rfl rfl rfl ?_
          refine acan1_skip rfl rfl rfl ?_
          refine acan1_skip rfl rfl rfl ?_
          refine acan1_n rfl rfl rfl rfl (n_pf rfl rfl (by constructor)) ?_
          refine acan1_n rfl rfl rfl rfl (n_mv rfl (by constructor)) ?_
          refine acan1_skip rfl rfl rfl ?_
          refine acan1_skip rfl rfl rfl ?_
          refine acan1_skip rfl rfl rfl ?_
          refine acan1_skip rfl rfl rfl ?_
          refine acan1_skip rfl rfl rfl ?_
          refine acan1_skip rfl rfl rfl ?_
          refine acan1_skip rfl rfl rfl ?_
          refine acan1_two ?_
          refine acan2_skipE rfl rfl rfl ?_
          refine acan2_n rfl rfl rfl rfl (n_pf rfl rfl (by constructor)) ?_
          refine acan2_nil ?_
          dsimp only [St.put]
          refine ⟨_, ?_, ⟨⟨rfl, rfl⟩, zF, zB, zN, zX⟩⟩
          (simp [leadQ, h8]; done)
      · rintro b hst
        dsimp only at hst ⊢
        refine aw_cond rfl (fun hc => ?_) (fun hc => ?_)
        · rw [hc] at hst
          refine aw_seq_k fun K8 hK8 => ?_
          refine aw_draw [(0, none), (1, none), (2, none), (3, none), (4, none), (5, none), (6, none), (7, none), (8, none), (9, none), (10, none), (11, none), (12, none), (13, none), (14, none), (15, none)] (fun i => [14].contains i) (fun i => [14].contains i) (fun i => [0, 1, 2, 3, 5, 6, 7, 8, 10, 12, 13, 15].contains i) [] (by kernel_rfl) (by kernel_rfl) ?_
          refine acan1_n rfl rfl rfl rfl (n_mv rfl (by constructor)) ?_
          refine acan1_n rfl rfl rfl rfl (n_mv rfl (by constructor)) ?_
          try dsimp only [St.put]
          refine acan1_n rfl rfl rfl rfl (n_indexAddr rfl rfl rfl rfl (map_get (by assumption)) (Enc.len _)) ?_
          refine acan1_n rfl rfl rfl rfl (n_fieldAddr' rfl rfl rfl) ?_
          try dsimp only [St.put]
          refine acan1_s rfl rfl rfl rfl (s_load rfl rfl) ?_
          refine acan1_n rfl rfl rfl rfl (n_mv rfl (by constructor)) ?_
          refine acan1_n rfl rfl rfl rfl (n_mv rfl (by constructor)) ?_
          try dsimp only [St.put]
          refine acan1_n rfl rfl rfl rfl (n_indexAddr rfl rfl rfl rfl (map_get (by assumption)) (Enc.len _)) ?_
          refine acan1_n rfl rfl rfl rfl (n_fieldAddr' rfl rfl rfl) ?_
          try dsimp only [St.put]
          refine acan1_s rfl rfl rfl rfl (s_load rfl rfl) ?_
          refine acan1_n rfl rfl rfl rfl (n_fieldAddr' rfl rfl rfl) ?_
          try dsimp only [St.put]
          refine acan1_s rfl rfl rfl rfl (s_load rfl rfl) ?_
          refine acan1_n rfl rfl rfl rfl (n_sub rfl rfl rfl (by omega)) ?_
          refine acan1_n rfl rfl rfl rfl (n_build rfl rfl) ?_
          refine acan1_two ?_
          try dsimp only [St.put]
          refine acan2_late rfl rfl rfl rfl (e_store_all rfl rfl rfl zG rfl rfl (by rfl) ?_)
          refine acan2_n rfl rfl rfl rfl (n_as rfl (by constructor)) ?_
          refine acan2_nil ?_
          dsimp only [St.put]
          refine hK8 _ ?_
          refine aw_ret ?_
          refine ends_v2 rfl (rv_box rfl zG (by rfl) (by first | exact List.cons_ne_nil _ _ | (simp; done) | (simp [putAt]; done)) rfl) (rv_tmp (by constructor)) zN zS ?_ ?_
          · rw [leadR_yes hx hI.2 hst]
            exact zW
          · rw [leadR_yes hx hI.2 hst]; exact Wk.refl _
        · rw [hc] at hst
          refine aw_skip ?_
          refine hK6 _ ?_
          refine aw_region ?_
          refine aops_n rfl (n_mv rfl (by constructor)) ?_
          refine aops_n rfl (n_add rfl rfl rfl (by omega)) ?_
          refine aops_n rfl (n_as rfl (by constructor)) ?_
          refine aops_nil ?_
          dsimp only [St.put]
          exact ⟨k + 1, by omega, ⟨by omega, take_no hx hI.2 hst⟩, ⟨⟨rfl, rfl⟩, zF, zB, zN, zX⟩⟩
    · replace hc := of_decide_eq_false hc
      refine aw_exit ?_
      refine hK2 _ ?_
      refine aw_seq_k fun K9 hK9 => ?_
      refine aw_region ?_
      refine aops_n rfl (n_build rfl rfl) ?_
      try dsimp only [St.put]
      refine aops_e rfl (e_store_all rfl rfl rfl zG rfl rfl (by rfl) ?_)
      refine aops_n rfl (n_as rfl (by constructor)) ?_
      refine aops_nil ?_
      dsimp only [St.put]
      refine hK9 _ ?_
      refine aw_ret ?_
      refine ends_v2 rfl (rv_box rfl zG (by rfl) (by first | exact List.cons_ne_nil _ _ | (simp; done) | (simp [putAt]; done)) rfl) (rv_tmp (by constructor)) zN zS ?_ ?_
      · rw [leadR_no (show l.length ≤ k by omega) hI.2]
        exact zW
      · rw [leadR_no (show l.length ≤ k by omega) hI.2]; exact Wk.refl _
theorem Lead2_pure (t : TextD) (e : EditionD) (r : RefD) : Pure Tryd.prog 28 [textC t, val e, val r] (.tup [val (leadV t e r), .v (.int .i64 (leadEr t e r))]) := by
  refine pure_of_body Tryd.func28 rfl (fun m => .tup (low_cons (val_low _ _) (low_cons .v low_nil))) fun G nx => ?_
  simp only [Tryd.ntmps28, List.length_cons, List.length_nil, Nat.reduceAdd, Nat.reduceSub]
  refine aw_lt fun hlt => ?_
  dsimp only at hlt
  refine aw_seq_k fun K1 hK1 => ?_
  refine aw_region ?_
  try dsimp only [St.put]
  refine aops_e rfl (e_box rfl rfl (by simp) ?_)
  try dsimp only [St.put]
  refine aops_e rfl (e_box rfl rfl (by simp) ?_)
  try dsimp only [St.put]
  refine aops_e rfl (e_box rfl rfl (by simp) ?_)
  try dsimp only [St.put]
  refine aops_e rfl (e_allocC rfl ?_)
  refine aops_n rfl (n_as rfl (by constructor)) ?_
  refine aops_nil ?_
  dsimp only [St.put]
  refine hK1 _ ?_
  refine aw_seq_k fun K2 hK2 => ?_
  refine aw_seq_k fun K3 hK3 => ?_
  refine aw_region ?_
  try dsimp only [St.put]
  refine aops_s rfl (s_load_agg' rfl rfl rfl) ?_
  try dsimp only [St.put]
  refine aops_s rfl (s_load_agg' rfl rfl (Enc.len _)) ?_
  try dsimp only [St.put]
  refine aops_e rfl (e_call_pure rfl rfl rfl (sound2_pure t e) ?_)
  refine aops_n rfl (n_as rfl (by constructor)) ?_
  refine aops_nil ?_
  dsimp only [St.put]
  refine hK3 _ ?_
  refine aw_seq_k fun K4 hK4 => ?_
  refine aw_region ?_
  refine aops_n rfl (n_mv rfl (by constructor)) ?_
  refine aops_n rfl (n_neq rfl rfl rfl) ?_
  refine aops_nil ?_
  dsimp only [St.put]
  refine hK4 _ ?_
  refine aw_cond rfl (fun hc => ?_) (fun hc => ?_)
  · have h0 : ¬ soundEr t e = 0 := nd_t hc
    have hE : leadEr t e r = soundEr t e := by simp [leadEr, h0]
    have hV : leadV t e r = ⟨0, 0, 0⟩ := by simp [leadV, hE, h0]
    refine aw_seq_k fun K5 hK5 => ?_
    refine aw_region ?_
    refine aops_n rfl (n_build rfl rfl) ?_
    refine aops_n rfl (n_mv rfl (by constructor)) ?_
    try dsimp only [St.put]
    refine aops_e rfl (e_store_all rfl rfl rfl zG rfl rfl (by rfl) ?_)
    refine aops_n rfl (n_as rfl (by constructor)) ?_
    refine aops_nil ?_
    dsimp only [St.put]
    refine hK5 _ ?_
    refine aw_ret ?_
    refine ends_v2 rfl (rv_box rfl zG (by rfl) (by first | exact List.cons_ne_nil _ _ | (simp; done) | (simp [putAt]; done)) rfl) (rv_tmp (by constructor)) zN zS ?_ ?_
    · rw [hV]
      exact zW
    · exact Wk.of_eq (vi hE.symm)
  · have h0 : soundEr t e = 0 := nd_f hc
    obtain ⟨ht, hl, he⟩ := checkEr_text (soundEr_check h0).1
    refine aw_skip ?_
    refine hK2 _ ?_
    refine aw_seq_k fun K6 hK6 => ?_
    refine aw_seq_k fun K7 hK7 => ?_
    refine aw_region ?_
    try dsimp only [St.put]
    refine aops_s rfl (s_load_agg' rfl rfl (Enc.len _)) ?_
    try dsimp only [St.put]
    refine aops_e rfl (e_call_pure rfl rfl rfl (Ref2_pure r) ?_)
    refine aops_n rfl (n_not rfl rfl) ?_
    refine aops_nil ?_
    dsimp only [St.put]
    refine hK7 _ ?_
    refine aw_cond rfl (fun hc => ?_) (fun hc => ?_)
    · have h1 : refB r = false := by simpa using hc
      have hE : leadEr t e r = 2 := by simp [leadEr, leadEr0, h0, h1]
      have hV : leadV t e r = ⟨0, 0, 0⟩ := by simp [leadV, hE]
      refine aw_seq_k fun K8 hK8 => ?_
      refine aw_region ?_
      refine aops_n rfl (n_build rfl rfl) ?_
      try dsimp only [St.put]
      refine aops_e rfl (e_store_all rfl rfl rfl zG rfl rfl (by rfl) ?_)
      refine aops_n rfl (n_as rfl (by constructor)) ?_
      refine aops_nil ?_
      dsimp only [St.put]
      refine hK8 _ ?_
      refine aw_ret ?_
      refine ends_v2 rfl (rv_box rfl zG (by rfl) (by first | exact List.cons_ne_nil _ _ | (simp; done) | (simp [putAt]; done)) rfl) (rv_tmp (by constructor)) zN zS ?_ ?_
      · rw [hV]
        exact zW
      · exact Wk.of_eq (vi hE.symm)
    · have h1 : refB r = true := by simpa using hc
      refine aw_skip ?_
      refine hK6 _ ?_
      refine aw_seq_k fun K9 hK9 => ?_
      refine aw_drawT [(0, none), (1, none), (3, none)] (fun _ => false) (fun i => [].contains i) 8 [true, true, false, true, false, false, false, false, false, false, false] (by kernel_rfl) (by kernel_rfl) ?_
      try dsimp only [St.put]
      refine acan1_s rfl rfl rfl rfl (s_load_agg' rfl rfl rfl) ?_
      try dsimp only [St.put]
      refine acan1_s rfl rfl rfl rfl (s_load_agg' rfl rfl (Enc.len _)) ?_
      try dsimp only [St.put]
      refine acan1_s rfl rfl rfl rfl (s_load_agg' rfl rfl (Enc.len _)) ?_
      refine acan1_nil ?_
      refine aany_step [2, 8] (by kernel_rfl) (by simp) ?_
      refine aeach_cons ?_ ?_
      · try dsimp only [St.put]
        refine aone_e rfl rfl rfl (e_call_pure rfl rfl rfl (rows_pure t e ht hl he) ?_)
        refine aany_step [4, 8] (by kernel_rfl) (by simp) ?_
        refine aeach_cons ?_ ?_
        · try dsimp only [St.put]
          refine aone_e rfl rfl rfl (e_call_pure rfl rfl rfl (refLead_pure _ r (rowsT_all ht _) h1) ?_)
          refine aany_quiet [(5, none), (6, none), (7, none)] (fun i => [5, 6, 7].contains i) 3 [true, true, true, true, true, true, true, true, false, false, false] (by kernel_rfl) ?_
          refine acan1_n rfl rfl rfl rfl (n_mv rfl (by constructor)) ?_
          refine acan1_n rfl rfl rfl rfl (n_extract rfl rfl rfl) ?_
          refine acan1_n rfl rfl rfl rfl (n_extract rfl rfl rfl) ?_
          refine acan1_nil ?_
          refine aany_step [8] (by kernel_rfl) (by simp) ?_
          refine aeach_cons ?_ ?_
          · try dsimp only [St.put]
            refine aone_e rfl rfl rfl (e_allocC rfl ?_)
            refine aany_step [9] (by kernel_rfl) (by simp) ?_
            refine aeach_cons ?_ ?_
            · try dsimp only [St.put]
              refine aone_e rfl rfl rfl (e_store_all rfl rfl rfl zG rfl rfl (by rfl) ?_)
              refine aany_quiet [(10, none)] (fun i => [10].contains i) 0 [true, true, true, true, true, true, true, true, true, true, true] (by kernel_rfl) ?_
              refine acan1_n rfl rfl rfl rfl (n_as rfl (by constructor)) ?_
              refine acan1_nil ?_
              dsimp only [St.put]
              refine aany_nil (by kernel_rfl) ?_
              rw [lead_same (soundEr_sound h0) h1]
              refine hK9 _ ?_
              refine aw_seq_k fun K10 hK10 => ?_
              refine aw_seq_k fun K11 hK11 => ?_
              refine aw_region ?_
              refine aops_n rfl (n_mv rfl (by constructor)) ?_
              refine aops_n rfl (n_not rfl rfl) ?_
              refine aops_nil ?_
              dsimp only [St.put]
              refine hK11 _ ?_
              refine aw_cond rfl (fun hc => ?_) (fun hc => ?_)
              · have h2 : leadO t e.ss r = none := by simpa using hc
                have hE : leadEr t e r = 6 := by simp [leadEr, leadEr0, h0, h1, h2]
                have hV : leadV t e r = ⟨0, 0, 0⟩ := by simp [leadV, hE]
                refine aw_seq_k fun K12 hK12 => ?_
                refine aw_region ?_
                refine aops_n rfl (n_build rfl rfl) ?_
                try dsimp only [St.put]
                refine aops_e rfl (e_store_all rfl rfl rfl zG rfl rfl (by rfl) ?_)
                refine aops_n rfl (n_as rfl (by constructor)) ?_
                refine aops_nil ?_
                dsimp only [St.put]
                refine hK12 _ ?_
                refine aw_ret ?_
                refine ends_v2 rfl (rv_box rfl zG (by rfl) (by first | exact List.cons_ne_nil _ _ | (simp; done) | (simp [putAt]; done)) rfl) (rv_tmp (by constructor)) zN zS ?_ ?_
                · rw [hV]
                  exact zW
                · exact Wk.of_eq (vi hE.symm)
              · have h2 : (leadO t e.ss r).isSome = true := by simpa using hc
                have hE : leadEr t e r = 0 := by simp [leadEr, leadEr0, h0, h1, h2]
                have hV : leadV t e r = (leadO t e.ss r).getD ⟨0, 0, 0⟩ := by simp [leadV, hE]
                refine aw_skip ?_
                refine hK10 _ ?_
                refine aw_seq_k fun K13 hK13 => ?_
                refine aw_region ?_
                try dsimp only [St.put]
                refine aops_s rfl (s_load_box_all rfl rfl zG trivial (by rfl)) ?_
                try dsimp only [St.put]
                refine aops_e rfl (e_store_all rfl rfl rfl zG rfl rfl (by rfl) ?_)
                refine aops_n rfl (n_as rfl (by constructor)) ?_
                refine aops_nil ?_
                dsimp only [St.put]
                refine hK13 _ ?_
                refine aw_ret ?_
                refine ends_v2 rfl (rv_box rfl zG (by rfl) (by first | exact List.cons_ne_nil _ _ | (simp; done) | (simp [putAt]; done)) rfl) (rv_tmp (by constructor)) zN zS ?_ ?_
                · rw [hV]
                  exact zW
                · exact Wk.of_eq (vi hE.symm)
            exact aeach_nil
          exact aeach_nil
        refine aeach_cons ?_ ?_
        · try dsimp only [St.put]
          refine aone_e rfl rfl rfl (e_allocC rfl ?_)
          refine aany_step [4] (by kernel_rfl) (by simp) ?_
          refine aeach_cons ?_ ?_
          · try dsimp only [St.put]
            refine aone_e rfl rfl rfl (e_call_pure rfl rfl rfl (refLead_pure _ r (rowsT_all ht _) h1) ?_)
            refine aany_quiet [(5, none), (6, none), (7, none)] (fun i => [5, 6, 7].contains i) 2 [true, true, true, true, true, true, true, true, true, false, false] (by kernel_rfl) ?_
            refine acan1_n rfl rfl rfl rfl (n_mv rfl (by constructor)) ?_
            refine acan1_n rfl rfl rfl rfl (n_extract rfl rfl rfl) ?_
            refine acan1_n rfl rfl rfl rfl (n_extract rfl rfl rfl) ?_
            refine acan1_nil ?_
            refine aany_step [9] (by kernel_rfl) (by simp) ?_
            refine aeach_cons ?_ ?_
            · try dsimp only [St.put]
              refine aone_e rfl rfl rfl (e_store_all rfl rfl rfl zG rfl rfl (by rfl) ?_)
              refine aany_quiet [(10, none)] (fun i => [10].contains i) 0 [true, true, true, true, true, true, true, true, true, true, true] (by kernel_rfl) ?_
              refine acan1_n rfl rfl rfl rfl (n_as rfl (by constructor)) ?_
              refine acan1_nil ?_
              dsimp only [St.put]
              refine aany_nil (by kernel_rfl) ?_
              rw [lead_same (soundEr_sound h0) h1]
              refine hK9 _ ?_
              refine aw_seq_k fun K14 hK14 => ?_
              refine aw_seq_k fun K15 hK15 => ?_
              refine aw_region ?_
              refine aops_n rfl (n_mv rfl (by constructor)) ?_
              refine aops_n rfl (n_not rfl rfl) ?_
              refine aops_nil ?_
              dsimp only [St.put]
              refine hK15 _ ?_
              refine aw_cond rfl (fun hc => ?_) (fun hc => ?_)
              · have h2 : leadO t e.ss r = none := by simpa using hc
                have hE : leadEr t e r = 6 := by simp [leadEr, leadEr0, h0, h1, h2]
                have hV : leadV t e r = ⟨0, 0, 0⟩ := by simp [leadV, hE]
                refine aw_seq_k fun K16 hK16 => ?_
                refine aw_region ?_
                refine aops_n rfl (n_build rfl rfl) ?_
                try dsimp only [St.put]
                refine aops_e rfl (e_store_all rfl rfl rfl zG rfl rfl (by rfl) ?_)
                refine aops_n rfl (n_as rfl (by constructor)) ?_
                refine aops_nil ?_
                dsimp only [St.put]
                refine hK16 _ ?_
                refine aw_ret ?_
                refine ends_v2 rfl (rv_box rfl zG (by rfl) (by first | exact List.cons_ne_nil _ _ | (simp; done) | (simp [putAt]; done)) rfl) (rv_tmp (by constructor)) zN zS ?_ ?_
                · rw [hV]
                  exact zW
                · exact Wk.of_eq (vi hE.symm)
              · have h2 : (leadO t e.ss r).isSome = true := by simpa using hc
                have hE : leadEr t e r = 0 := by simp [leadEr, leadEr0, h0, h1, h2]
                have hV : leadV t e r = (leadO t e.ss r).getD ⟨0, 0, 0⟩ := by simp [leadV, hE]
                refine aw_skip ?_
                refine hK14 _ ?_
                refine aw_seq_k fun K17 hK17 => ?_
                refine aw_region ?_
                try dsimp only [St.put]
                refine aops_s rfl (s_load_box_all rfl rfl zG trivial (by rfl)) ?_
                try dsimp only [St.put]
                refine aops_e rfl (e_store_all rfl rfl rfl zG rfl rfl (by rfl) ?_)
                refine aops_n rfl (n_as rfl (by constructor)) ?_
                refine aops_nil ?_
                dsimp only [St.put]
                refine hK17 _ ?_
                refine aw_ret ?_
                refine ends_v2 rfl (rv_box rfl zG (by rfl) (by first | exact List.cons_ne_nil _ _ | (simp; done) | (simp [putAt]; done)) rfl) (rv_tmp (by constructor)) zN zS ?_ ?_
                · rw [hV]
                  exact zW
                · exact Wk.of_eq (vi hE.symm)
            exact aeach_nil
          exact aeach_nil
        exact aeach_nil
      refine aeach_cons ?_ ?_
      · try dsimp only [St.put]
        refine aone_e rfl rfl rfl (e_allocC rfl ?_)
        refine aany_step [2] (by kernel_rfl) (by simp) ?_
        refine aeach_cons ?_ ?_
        · try dsimp only [St.put]
          refine aone_e rfl rfl rfl (e_call_pure rfl rfl rfl (rows_pure t e ht hl he) ?_)
          refine aany_step [4] (by kernel_rfl) (by simp) ?_
          refine aeach_cons ?_ ?_
          · try dsimp only [St.put]
            refine aone_e rfl rfl rfl (e_call_pure rfl rfl rfl (refLead_pure _ r (rowsT_all ht _) h1) ?_)
            refine aany_quiet [(5, none), (6, none), (7, none)] (fun i => [5, 6, 7].contains i) 2 [true, true, true, true, true, true, true, true, true, false, false] (by kernel_rfl) ?_
            refine acan1_n rfl rfl rfl rfl (n_mv rfl (by constructor)) ?_
            refine acan1_n rfl rfl rfl rfl (n_extract rfl rfl rfl) ?_
            refine acan1_n rfl rfl rfl rfl (n_extract rfl rfl rfl) ?_
            refine acan1_nil ?_
            refine aany_step [9] (by kernel_rfl) (by simp) ?_
            refine aeach_cons ?_ ?_
            · try dsimp only [St.put]
              refine aone_e rfl rfl rfl (e_store_all rfl rfl rfl zG rfl rfl (by rfl) ?_)
              refine aany_quiet [(10, none)] (fun i => [10].contains i) 0 [true, true, true, true, true, true, true, true, true, true, true] (by kernel_rfl) ?_
              refine acan1_n rfl rfl rfl rfl (n_as rfl (by constructor)) ?_
              refine acan1_nil ?_
              dsimp only [St.put]
              refine aany_nil (by kernel_rfl) ?_
              rw [lead_same (soundEr_sound h0) h1]
              refine hK9 _ ?_
              refine aw_seq_k fun K18 hK18 => ?_
              refine aw_seq_k fun K19 hK19 => ?_
              refine aw_region ?_
              refine aops_n rfl (n_mv rfl (by constructor)) ?_
              refine aops_n rfl (n_not rfl rfl) ?_
              refine aops_nil ?_
              dsimp only [St.put]
              refine hK19 _ ?_
              refine aw_cond rfl (fun hc => ?_) (fun hc => ?_)
              · have h2 : leadO t e.ss r = none := by simpa using hc
                have hE : leadEr t e r = 6 := by simp [leadEr, leadEr0, h0, h1, h2]
                have hV : leadV t e r = ⟨0, 0, 0⟩ := by simp [leadV, hE]
                refine aw_seq_k fun K20 hK20 => ?_
                refine aw_region ?_
                refine aops_n rfl (n_build rfl rfl) ?_
                try dsimp only [St.put]
                refine aops_e rfl (e_store_all rfl rfl rfl zG rfl rfl (by rfl) ?_)
                refine aops_n rfl (n_as rfl (by constructor)) ?_
                refine aops_nil ?_
                dsimp only [St.put]
                refine hK20 _ ?_
                refine aw_ret ?_
                refine ends_v2 rfl (rv_box rfl zG (by rfl) (by first | exact List.cons_ne_nil _ _ | (simp; done) | (simp [putAt]; done)) rfl) (rv_tmp (by constructor)) zN zS ?_ ?_
                · rw [hV]
                  exact zW
                · exact Wk.of_eq (vi hE.symm)
              · have h2 : (leadO t e.ss r).isSome = true := by simpa using hc
                have hE : leadEr t e r = 0 := by simp [leadEr, leadEr0, h0, h1, h2]
                have hV : leadV t e r = (leadO t e.ss r).getD ⟨0, 0, 0⟩ := by simp [leadV, hE]
                refine aw_skip ?_
                refine hK18 _ ?_
                refine aw_seq_k fun K21 hK21 => ?_
                refine aw_region ?_
                try dsimp only [St.put]
                refine aops_s rfl (s_load_box_all rfl rfl zG trivial (by rfl)) ?_
                try dsimp only [St.put]
                refine aops_e rfl (e_store_all rfl rfl rfl zG rfl rfl (by rfl) ?_)
                refine aops_n rfl (n_as rfl (by constructor)) ?_
                refine aops_nil ?_
                dsimp only [St.put]
                refine hK21 _ ?_
                refine aw_ret ?_
                refine ends_v2 rfl (rv_box rfl zG (by rfl) (by first | exact List.cons_ne_nil _ _ | (simp; done) | (simp [putAt]; done)) rfl) (rv_tmp (by constructor)) zN zS ?_ ?_
                · rw [hV]
                  exact zW
                · exact Wk.of_eq (vi hE.symm)
            exact aeach_nil
          exact aeach_nil
        exact aeach_nil
      exact aeach_nil
theorem both_pure (t : TextD) (e f : EditionD) : Pure Tryd.prog 73 [textC t, val e, val f] (.v (.int .i64 (bothEr t e f))) := by
  refine pure_of_body Tryd.func73 rfl (fun m => .v) fun G nx => ?_
  simp only [Tryd.ntmps73, List.length_cons, List.length_nil, Nat.reduceAdd, Nat.reduceSub]
  refine aw_lt fun hlt => ?_
  dsimp only at hlt
  refine aw_seq_k fun K1 hK1 => ?_
  refine aw_region ?_
  try dsimp only [St.put]
  refine aops_e rfl (e_box rfl rfl (by simp) ?_)
  try dsimp only [St.put]
  refine aops_e rfl (e_box rfl rfl (by simp) ?_)
  try dsimp only [St.put]
  refine aops_e rfl (e_box rfl rfl (by simp) ?_)
  refine aops_n rfl (n_as rfl (by constructor)) ?_
  refine aops_nil ?_
  dsimp only [St.put]
  refine hK1 _ ?_
  refine aw_seq_k fun K2 hK2 => ?_
  refine aw_seq_k fun K3 hK3 => ?_
  refine aw_region ?_
  try dsimp only [St.put]
  refine aops_s rfl (s_load_agg' rfl rfl rfl) ?_
  try dsimp only [St.put]
  refine aops_s rfl (s_load_agg' rfl rfl (Enc.len _)) ?_
  try dsimp only [St.put]
  refine aops_e rfl (e_call_pure rfl rfl rfl (Check2_pure t e) ?_)
  refine aops_n rfl (n_as rfl (by constructor)) ?_
  refine aops_nil ?_
  dsimp only [St.put]
  refine hK3 _ ?_
  refine aw_seq_k fun K4 hK4 => ?_
  refine aw_region ?_
  refine aops_n rfl (n_mv rfl (by constructor)) ?_
  refine aops_n rfl (n_neq rfl rfl rfl) ?_
  refine aops_nil ?_
  dsimp only [St.put]
  refine hK4 _ ?_
  refine aw_cond rfl (fun hc => ?_) (fun hc => ?_)
  · have h0 : ¬ checkEr t e = 0 := nd_t hc
    refine aw_seq_k fun K5 hK5 => ?_
    refine aw_region ?_
    refine aops_n rfl (n_mv rfl (by constructor)) ?_
    refine aops_n rfl (n_as rfl (by constructor)) ?_
    refine aops_nil ?_
    dsimp only [St.put]
    refine hK5 _ ?_
    refine aw_ret ?_
    refine ends_1 rfl (by constructor) zN zS ?_
    exact vi (by simp [bothEr, h0])
  · have h0 : checkEr t e = 0 := nd_f hc
    refine aw_skip ?_
    refine hK2 _ ?_
    refine aw_seq_k fun K6 hK6 => ?_
    refine aw_seq_k fun K7 hK7 => ?_
    refine aw_region ?_
    try dsimp only [St.put]
    refine aops_s rfl (s_load_agg' rfl rfl rfl) ?_
    try dsimp only [St.put]
    refine aops_s rfl (s_load_agg' rfl rfl (Enc.len _)) ?_
    try dsimp only [St.put]
    refine aops_e rfl (e_call_pure rfl rfl rfl (Check2_pure t f) ?_)
    refine aops_n rfl (n_as rfl (by constructor)) ?_
    refine aops_nil ?_
    dsimp only [St.put]
    refine hK7 _ ?_
    refine aw_seq_k fun K8 hK8 => ?_
    refine aw_region ?_
    refine aops_n rfl (n_mv rfl (by constructor)) ?_
    refine aops_n rfl (n_neq rfl rfl rfl) ?_
    refine aops_nil ?_
    dsimp only [St.put]
    refine hK8 _ ?_
    refine aw_cond rfl (fun hc => ?_) (fun hc => ?_)
    · have h1 : ¬ checkEr t f = 0 := nd_t hc
      refine aw_seq_k fun K9 hK9 => ?_
      refine aw_region ?_
      refine aops_n rfl (n_mv rfl (by constructor)) ?_
      refine aops_n rfl (n_as rfl (by constructor)) ?_
      refine aops_nil ?_
      dsimp only [St.put]
      refine hK9 _ ?_
      refine aw_ret ?_
      refine ends_1 rfl (by constructor) zN zS ?_
      exact vi (by simp [bothEr, h0, h1])
    · have h1 : checkEr t f = 0 := nd_f hc
      refine aw_skip ?_
      refine hK6 _ ?_
      refine aw_seq_k fun K10 hK10 => ?_
      refine aw_seq_k fun K11 hK11 => ?_
      refine aw_region ?_
      try dsimp only [St.put]
      refine aops_s rfl (s_load_agg' rfl rfl rfl) ?_
      try dsimp only [St.put]
      refine aops_s rfl (s_load_agg' rfl rfl (Enc.len _)) ?_
      try dsimp only [St.put]
      refine aops_e rfl (e_call_pure rfl rfl rfl (sound2_pure t e) ?_)
      refine aops_n rfl (n_as rfl (by constructor)) ?_
      refine aops_nil ?_
      dsimp only [St.put]
      refine hK11 _ ?_
      refine aw_seq_k fun K12 hK12 => ?_
      refine aw_region ?_
      refine aops_n rfl (n_mv rfl (by constructor)) ?_
      refine aops_n rfl (n_neq rfl rfl rfl) ?_
      refine aops_nil ?_
      dsimp only [St.put]
      refine hK12 _ ?_
      refine aw_cond rfl (fun hc => ?_) (fun hc => ?_)
      · have h2 : ¬ soundEr t e = 0 := nd_t hc
        refine aw_seq_k fun K13 hK13 => ?_
        refine aw_region ?_
        refine aops_n rfl (n_mv rfl (by constructor)) ?_
        refine aops_n rfl (n_as rfl (by constructor)) ?_
        refine aops_nil ?_
        dsimp only [St.put]
        refine hK13 _ ?_
        refine aw_ret ?_
        refine ends_1 rfl (by constructor) zN zS ?_
        exact vi (by simp [bothEr, h0, h1, h2])
      · have h2 : soundEr t e = 0 := nd_f hc
        refine aw_skip ?_
        refine hK10 _ ?_
        refine aw_seq_k fun K14 hK14 => ?_
        refine aw_region ?_
        try dsimp only [St.put]
        refine aops_s rfl (s_load_agg' rfl rfl rfl) ?_
        try dsimp only [St.put]
        refine aops_s rfl (s_load_agg' rfl rfl (Enc.len _)) ?_
        try dsimp only [St.put]
        refine aops_e rfl (e_call_pure rfl rfl rfl (sound2_pure t f) ?_)
        refine aops_n rfl (n_as rfl (by constructor)) ?_
        refine aops_nil ?_
        dsimp only [St.put]
        refine hK14 _ ?_
        refine aw_ret ?_
        refine ends_1 rfl (by constructor) zN zS ?_
        exact vi (by simp [bothEr, h0, h1, h2])
theorem Turn2_pure (t : TextD) (e f : EditionD) (r : RefD) : Pure Tryd.prog 32 [textC t, val e, val f, val r] (.tup [val (turnV t e f r), .v (.int .i64 (turnEr t e f r))]) := by
  refine pure_of_body Tryd.func32 rfl (fun m => .tup (low_cons (val_low _ _) (low_cons .v low_nil))) fun G nx => ?_
  simp only [Tryd.ntmps32, List.length_cons, List.length_nil, Nat.reduceAdd, Nat.reduceSub]
  refine aw_lt fun hlt => ?_
  dsimp only at hlt
  refine aw_seq_k fun K1 hK1 => ?_
  refine aw_region ?_
  try dsimp only [St.put]
  refine aops_e rfl (e_box rfl rfl (by simp) ?_)
  try dsimp only [St.put]
  refine aops_e rfl (e_box rfl rfl (by simp) ?_)
  try dsimp only [St.put]
  refine aops_e rfl (e_box rfl rfl (by simp) ?_)
  try dsimp only [St.put]
  refine aops_e rfl (e_box rfl rfl (by simp) ?_)
  try dsimp only [St.put]
  refine aops_e rfl (e_allocC rfl ?_)
  refine aops_n rfl (n_as rfl (by constructor)) ?_
  refine aops_nil ?_
  dsimp only [St.put]
  refine hK1 _ ?_
  refine aw_seq_k fun K2 hK2 => ?_
  refine aw_seq_k fun K3 hK3 => ?_
  refine aw_region ?_
  try dsimp only [St.put]
  refine aops_s rfl (s_load_agg' rfl rfl rfl) ?_
  try dsimp only [St.put]
  refine aops_s rfl (s_load_agg' rfl rfl (Enc.len _)) ?_
  try dsimp only [St.put]
  refine aops_s rfl (s_load_agg' rfl rfl (Enc.len _)) ?_
  try dsimp only [St.put]
  refine aops_e rfl (e_call_pure rfl rfl rfl (both_pure t e f) ?_)
  refine aops_n rfl (n_as rfl (by constructor)) ?_
  refine aops_nil ?_
  dsimp only [St.put]
  refine hK3 _ ?_
  refine aw_seq_k fun K4 hK4 => ?_
  refine aw_region ?_
  refine aops_n rfl (n_mv rfl (by constructor)) ?_
  refine aops_n rfl (n_neq rfl rfl rfl) ?_
  refine aops_nil ?_
  dsimp only [St.put]
  refine hK4 _ ?_
  refine aw_cond rfl (fun hc => ?_) (fun hc => ?_)
  · have h0 : ¬ bothEr t e f = 0 := nd_t hc
    have hE : turnEr t e f r = bothEr t e f := by simp [turnEr, h0]
    have hV : turnV t e f r = ⟨0, 0, 0⟩ := by simp [turnV, hE, h0]
    refine aw_seq_k fun K5 hK5 => ?_
    refine aw_region ?_
    refine aops_n rfl (n_build rfl rfl) ?_
    refine aops_n rfl (n_mv rfl (by constructor)) ?_
    try dsimp only [St.put]
    refine aops_e rfl (e_store_all rfl rfl rfl zG rfl rfl (by rfl) ?_)
    refine aops_n rfl (n_as rfl (by constructor)) ?_
    refine aops_nil ?_
    dsimp only [St.put]
    refine hK5 _ ?_
    refine aw_ret ?_
    refine ends_v2 rfl (rv_box rfl zG (by rfl) (by first | exact List.cons_ne_nil _ _ | (simp; done) | (simp [putAt]; done)) rfl) (rv_tmp (by constructor)) zN zS ?_ ?_
    · rw [hV]
      exact zW
    · exact Wk.of_eq (vi hE.symm)
  · have h0 : bothEr t e f = 0 := nd_f hc
    obtain ⟨h0e, h0f⟩ := bothEr_ok h0
    obtain ⟨ht, hl, he⟩ := checkEr_text (soundEr_check h0e).1
    refine aw_skip ?_
    refine hK2 _ ?_
    refine aw_seq_k fun K6 hK6 => ?_
    refine aw_seq_k fun K7 hK7 => ?_
    refine aw_region ?_
    try dsimp only [St.put]
    refine aops_s rfl (s_load_agg' rfl rfl (Enc.len _)) ?_
    try dsimp only [St.put]
    refine aops_e rfl (e_call_pure rfl rfl rfl (Ref2_pure r) ?_)
    refine aops_n rfl (n_not rfl rfl) ?_
    refine aops_nil ?_
    dsimp only [St.put]
    refine hK7 _ ?_
    refine aw_cond rfl (fun hc => ?_) (fun hc => ?_)
    · have h1 : refB r = false := by simpa using hc
      have hE : turnEr t e f r = 2 := by simp [turnEr, leadEr0, h0, h1]
      have hV : turnV t e f r = ⟨0, 0, 0⟩ := by simp [turnV, hE]
      refine aw_seq_k fun K8 hK8 => ?_
      refine aw_region ?_
      refine aops_n rfl (n_build rfl rfl) ?_
      try dsimp only [St.put]
      refine aops_e rfl (e_store_all rfl rfl rfl zG rfl rfl (by rfl) ?_)
      refine aops_n rfl (n_as rfl (by constructor)) ?_
      refine aops_nil ?_
      dsimp only [St.put]
      refine hK8 _ ?_
      refine aw_ret ?_
      refine ends_v2 rfl (rv_box rfl zG (by rfl) (by first | exact List.cons_ne_nil _ _ | (simp; done) | (simp [putAt]; done)) rfl) (rv_tmp (by constructor)) zN zS ?_ ?_
      · rw [hV]
        exact zW
      · exact Wk.of_eq (vi hE.symm)
    · have h1 : refB r = true := by simpa using hc
      refine aw_skip ?_
      refine hK6 _ ?_
      refine aw_seq_k fun K9 hK9 => ?_
      refine aw_drawT [(0, none), (1, none), (3, none)] (fun _ => false) (fun i => [].contains i) 8 [true, true, false, true, false, false, false, false, false, false, false] (by kernel_rfl) (by kernel_rfl) ?_
      try dsimp only [St.put]
      refine acan1_s rfl rfl rfl rfl (s_load_agg' rfl rfl rfl) ?_
      try dsimp only [St.put]
      refine acan1_s rfl rfl rfl rfl (s_load_agg' rfl rfl (Enc.len _)) ?_
      try dsimp only [St.put]
      refine acan1_s rfl rfl rfl rfl (s_load_agg' rfl rfl (Enc.len _)) ?_
      refine acan1_nil ?_
      refine aany_step [2, 8] (by kernel_rfl) (by simp) ?_
      refine aeach_cons ?_ ?_
      · try dsimp only [St.put]
        refine aone_e rfl rfl rfl (e_call_pure rfl rfl rfl (rows_pure t e ht hl he) ?_)
        refine aany_step [4, 8] (by kernel_rfl) (by simp) ?_
        refine aeach_cons ?_ ?_
        · try dsimp only [St.put]
          refine aone_e rfl rfl rfl (e_call_pure rfl rfl rfl (refLead_pure _ r (rowsT_all ht _) h1) ?_)
          refine aany_quiet [(5, none), (6, none), (7, none)] (fun i => [5, 6, 7].contains i) 3 [true, true, true, true, true, true, true, true, false, false, false] (by kernel_rfl) ?_
          refine acan1_n rfl rfl rfl rfl (n_mv rfl (by constructor)) ?_
          refine acan1_n rfl rfl rfl rfl (n_extract rfl rfl rfl) ?_
          refine acan1_n rfl rfl rfl rfl (n_extract rfl rfl rfl) ?_
          refine acan1_nil ?_
          refine aany_step [8] (by kernel_rfl) (by simp) ?_
          refine aeach_cons ?_ ?_
          · try dsimp only [St.put]
            refine aone_e rfl rfl rfl (e_allocC rfl ?_)
            refine aany_step [9] (by kernel_rfl) (by simp) ?_
            refine aeach_cons ?_ ?_
            · try dsimp only [St.put]
              refine aone_e rfl rfl rfl (e_store_all rfl rfl rfl zG rfl rfl (by rfl) ?_)
              refine aany_quiet [(10, none)] (fun i => [10].contains i) 0 [true, true, true, true, true, true, true, true, true, true, true] (by kernel_rfl) ?_
              refine acan1_n rfl rfl rfl rfl (n_as rfl (by constructor)) ?_
              refine acan1_nil ?_
              dsimp only [St.put]
              refine aany_nil (by kernel_rfl) ?_
              rw [lead_same (soundEr_sound h0e) h1]
              refine hK9 _ ?_
              refine aw_seq_k fun K10 hK10 => ?_
              refine aw_seq_k fun K11 hK11 => ?_
              refine aw_region ?_
              refine aops_n rfl (n_mv rfl (by constructor)) ?_
              refine aops_n rfl (n_not rfl rfl) ?_
              refine aops_nil ?_
              dsimp only [St.put]
              refine hK11 _ ?_
              refine aw_cond rfl (fun hc => ?_) (fun hc => ?_)
              · have h2 : leadO t e.ss r = none := by simpa using hc
                have hE : turnEr t e f r = 6 := by simp [turnEr, leadEr0, h0, h1, h2]
                have hV : turnV t e f r = ⟨0, 0, 0⟩ := by simp [turnV, hE]
                refine aw_seq_k fun K12 hK12 => ?_
                refine aw_region ?_
                refine aops_n rfl (n_build rfl rfl) ?_
                try dsimp only [St.put]
                refine aops_e rfl (e_store_all rfl rfl rfl zG rfl rfl (by rfl) ?_)
                refine aops_n rfl (n_as rfl (by constructor)) ?_
                refine aops_nil ?_
                dsimp only [St.put]
                refine hK12 _ ?_
                refine aw_ret ?_
                refine ends_v2 rfl (rv_box rfl zG (by rfl) (by first | exact List.cons_ne_nil _ _ | (simp; done) | (simp [putAt]; done)) rfl) (rv_tmp (by constructor)) zN zS ?_ ?_
                · rw [hV]
                  exact zW
                · exact Wk.of_eq (vi hE.symm)
              · have h2 : (leadO t e.ss r).isSome = true := by simpa using hc
                have hE : turnEr t e f r = referEr t f ((leadO t e.ss r).getD ⟨0, 0, 0⟩) := by simp [turnEr, leadEr0, h0, h1, h2]
                have hV : turnV t e f r = referV t f ((leadO t e.ss r).getD ⟨0, 0, 0⟩) := by
                  by_cases h3 : referEr t f ((leadO t e.ss r).getD ⟨0, 0, 0⟩) = 0
                  · simp [turnV, hE, h3]
                  · simp [turnV, hE, h3, referV]
                refine aw_skip ?_
                refine hK10 _ ?_
                refine aw_seq_k fun K13 hK13 => ?_
                refine aw_region ?_
                try dsimp only [St.put]
                refine aops_s rfl (s_load_agg' rfl rfl rfl) ?_
                try dsimp only [St.put]
                refine aops_s rfl (s_load_agg' rfl rfl (Enc.len _)) ?_
                try dsimp only [St.put]
                refine aops_s rfl (s_load_box_all rfl rfl zG trivial (by rfl)) ?_
                try dsimp only [St.put]
                refine aops_e rfl (e_call_pure rfl rfl rfl (Refer2_pure t f _) ?_)
                refine aops_n rfl (n_extract rfl rfl rfl) ?_
                refine aops_n rfl (n_extract rfl rfl rfl) ?_
                try dsimp only [St.put]
                refine aops_e rfl (e_store_all rfl rfl rfl zG rfl rfl (by rfl) ?_)
                refine aops_n rfl (n_as rfl (by constructor)) ?_
                refine aops_nil ?_
                dsimp only [St.put]
                refine hK13 _ ?_
                refine aw_ret ?_
                refine ends_v2 rfl (rv_box rfl zG (by rfl) (by first | exact List.cons_ne_nil _ _ | (simp; done) | (simp [putAt]; done)) rfl) (rv_tmp (by constructor)) zN zS ?_ ?_
                · rw [hV]
                  exact zW
                · exact Wk.of_eq (vi hE.symm)
            exact aeach_nil
          exact aeach_nil
        refine aeach_cons ?_ ?_
        · try dsimp only [St.put]
          refine aone_e rfl rfl rfl (e_allocC rfl ?_)
          refine aany_step [4] (by kernel_rfl) (by simp) ?_
          refine aeach_cons ?_ ?_
          · try dsimp only [St.put]
            refine aone_e rfl rfl rfl (e_call_pure rfl rfl rfl (refLead_pure _ r (rowsT_all ht _) h1) ?_)
            refine aany_quiet [(5, none), (6, none), (7, none)] (fun i => [5, 6, 7].contains i) 2 [true, true, true, true, true, true, true, true, true, false, false] (by kernel_rfl) ?_
            refine acan1_n rfl rfl rfl rfl (n_mv rfl (by constructor)) ?_
            refine acan1_n rfl rfl rfl rfl (n_extract rfl rfl rfl) ?_
            refine acan1_n rfl rfl rfl rfl (n_extract rfl rfl rfl) ?_
            refine acan1_nil ?_
            refine aany_step [9] (by kernel_rfl) (by simp) ?_
            refine aeach_cons ?_ ?_
            · try dsimp only [St.put]
              refine aone_e rfl rfl rfl (e_store_all rfl rfl rfl zG rfl rfl (by rfl) ?_)
              refine aany_quiet [(10, none)] (fun i => [10].contains i) 0 [true, true, true, true, true, true, true, true, true, true, true] (by kernel_rfl) ?_
              refine acan1_n rfl rfl rfl rfl (n_as rfl (by constructor)) ?_
              refine acan1_nil ?_
              dsimp only [St.put]
              refine aany_nil (by kernel_rfl) ?_
              rw [lead_same (soundEr_sound h0e) h1]
              refine hK9 _ ?_
              refine aw_seq_k fun K14 hK14 => ?_
              refine aw_seq_k fun K15 hK15 => ?_
              refine aw_region ?_
              refine aops_n rfl (n_mv rfl (by constructor)) ?_
              refine aops_n rfl (n_not rfl rfl) ?_
              refine aops_nil ?_
              dsimp only [St.put]
              refine hK15 _ ?_
              refine aw_cond rfl (fun hc => ?_) (fun hc => ?_)
              · have h2 : leadO t e.ss r = none := by simpa using hc
                have hE : turnEr t e f r = 6 := by simp [turnEr, leadEr0, h0, h1, h2]
                have hV : turnV t e f r = ⟨0, 0, 0⟩ := by simp [turnV, hE]
                refine aw_seq_k fun K16 hK16 => ?_
                refine aw_region ?_
                refine aops_n rfl (n_build rfl rfl) ?_
                try dsimp only [St.put]
                refine aops_e rfl (e_store_all rfl rfl rfl zG rfl rfl (by rfl) ?_)
                refine aops_n rfl (n_as rfl (by constructor)) ?_
                refine aops_nil ?_
                dsimp only [St.put]
                refine hK16 _ ?_
                refine aw_ret ?_
                refine ends_v2 rfl (rv_box rfl zG (by rfl) (by first | exact List.cons_ne_nil _ _ | (simp; done) | (simp [putAt]; done)) rfl) (rv_tmp (by constructor)) zN zS ?_ ?_
                · rw [hV]
                  exact zW
                · exact Wk.of_eq (vi hE.symm)
              · have h2 : (leadO t e.ss r).isSome = true := by simpa using hc
                have hE : turnEr t e f r = referEr t f ((leadO t e.ss r).getD ⟨0, 0, 0⟩) := by simp [turnEr, leadEr0, h0, h1, h2]
                have hV : turnV t e f r = referV t f ((leadO t e.ss r).getD ⟨0, 0, 0⟩) := by
                  by_cases h3 : referEr t f ((leadO t e.ss r).getD ⟨0, 0, 0⟩) = 0
                  · simp [turnV, hE, h3]
                  · simp [turnV, hE, h3, referV]
                refine aw_skip ?_
                refine hK14 _ ?_
                refine aw_seq_k fun K17 hK17 => ?_
                refine aw_region ?_
                try dsimp only [St.put]
                refine aops_s rfl (s_load_agg' rfl rfl rfl) ?_
                try dsimp only [St.put]
                refine aops_s rfl (s_load_agg' rfl rfl (Enc.len _)) ?_
                try dsimp only [St.put]
                refine aops_s rfl (s_load_box_all rfl rfl zG trivial (by rfl)) ?_
                try dsimp only [St.put]
                refine aops_e rfl (e_call_pure rfl rfl rfl (Refer2_pure t f _) ?_)
                refine aops_n rfl (n_extract rfl rfl rfl) ?_
                refine aops_n rfl (n_extract rfl rfl rfl) ?_
                try dsimp only [St.put]
                refine aops_e rfl (e_store_all rfl rfl rfl zG rfl rfl (by rfl) ?_)
                refine aops_n rfl (n_as rfl (by constructor)) ?_
                refine aops_nil ?_
                dsimp only [St.put]
                refine hK17 _ ?_
                refine aw_ret ?_
                refine ends_v2 rfl (rv_box rfl zG (by rfl) (by first | exact List.cons_ne_nil _ _ | (simp; done) | (simp [putAt]; done)) rfl) (rv_tmp (by constructor)) zN zS ?_ ?_
                · rw [hV]
                  exact zW
                · exact Wk.of_eq (vi hE.symm)
            exact aeach_nil
          exact aeach_nil
        exact aeach_nil
      refine aeach_cons ?_ ?_
      · try dsimp only [St.put]
        refine aone_e rfl rfl rfl (e_allocC rfl ?_)
        refine aany_step [2] (by kernel_rfl) (by simp) ?_
        refine aeach_cons ?_ ?_
        · try dsimp only [St.put]
          refine aone_e rfl rfl rfl (e_call_pure rfl rfl rfl (rows_pure t e ht hl he) ?_)
          refine aany_step [4] (by kernel_rfl) (by simp) ?_
          refine aeach_cons ?_ ?_
          · try dsimp only [St.put]
            refine aone_e rfl rfl rfl (e_call_pure rfl rfl rfl (refLead_pure _ r (rowsT_all ht _) h1) ?_)
            refine aany_quiet [(5, none), (6, none), (7, none)] (fun i => [5, 6, 7].contains i) 2 [true, true, true, true, true, true, true, true, true, false, false] (by kernel_rfl) ?_
            refine acan1_n rfl rfl rfl rfl (n_mv rfl (by constructor)) ?_
            refine acan1_n rfl rfl rfl rfl (n_extract rfl rfl rfl) ?_
            refine acan1_n rfl rfl rfl rfl (n_extract rfl rfl rfl) ?_
            refine acan1_nil ?_
            refine aany_step [9] (by kernel_rfl) (by simp) ?_
            refine aeach_cons ?_ ?_
            · try dsimp only [St.put]
              refine aone_e rfl rfl rfl (e_store_all rfl rfl rfl zG rfl rfl (by rfl) ?_)
              refine aany_quiet [(10, none)] (fun i => [10].contains i) 0 [true, true, true, true, true, true, true, true, true, true, true] (by kernel_rfl) ?_
              refine acan1_n rfl rfl rfl rfl (n_as rfl (by constructor)) ?_
              refine acan1_nil ?_
              dsimp only [St.put]
              refine aany_nil (by kernel_rfl) ?_
              rw [lead_same (soundEr_sound h0e) h1]
              refine hK9 _ ?_
              refine aw_seq_k fun K18 hK18 => ?_
              refine aw_seq_k fun K19 hK19 => ?_
              refine aw_region ?_
              refine aops_n rfl (n_mv rfl (by constructor)) ?_
              refine aops_n rfl (n_not rfl rfl) ?_
              refine aops_nil ?_
              dsimp only [St.put]
              refine hK19 _ ?_
              refine aw_cond rfl (fun hc => ?_) (fun hc => ?_)
              · have h2 : leadO t e.ss r = none := by simpa using hc
                have hE : turnEr t e f r = 6 := by simp [turnEr, leadEr0, h0, h1, h2]
                have hV : turnV t e f r = ⟨0, 0, 0⟩ := by simp [turnV, hE]
                refine aw_seq_k fun K20 hK20 => ?_
                refine aw_region ?_
                refine aops_n rfl (n_build rfl rfl) ?_
                try dsimp only [St.put]
                refine aops_e rfl (e_store_all rfl rfl rfl zG rfl rfl (by rfl) ?_)
                refine aops_n rfl (n_as rfl (by constructor)) ?_
                refine aops_nil ?_
                dsimp only [St.put]
                refine hK20 _ ?_
                refine aw_ret ?_
                refine ends_v2 rfl (rv_box rfl zG (by rfl) (by first | exact List.cons_ne_nil _ _ | (simp; done) | (simp [putAt]; done)) rfl) (rv_tmp (by constructor)) zN zS ?_ ?_
                · rw [hV]
                  exact zW
                · exact Wk.of_eq (vi hE.symm)
              · have h2 : (leadO t e.ss r).isSome = true := by simpa using hc
                have hE : turnEr t e f r = referEr t f ((leadO t e.ss r).getD ⟨0, 0, 0⟩) := by simp [turnEr, leadEr0, h0, h1, h2]
                have hV : turnV t e f r = referV t f ((leadO t e.ss r).getD ⟨0, 0, 0⟩) := by
                  by_cases h3 : referEr t f ((leadO t e.ss r).getD ⟨0, 0, 0⟩) = 0
                  · simp [turnV, hE, h3]
                  · simp [turnV, hE, h3, referV]
                refine aw_skip ?_
                refine hK18 _ ?_
                refine aw_seq_k fun K21 hK21 => ?_
                refine aw_region ?_
                try dsimp only [St.put]
                refine aops_s rfl (s_load_agg' rfl rfl rfl) ?_
                try dsimp only [St.put]
                refine aops_s rfl (s_load_agg' rfl rfl (Enc.len _)) ?_
                try dsimp only [St.put]
                refine aops_s rfl (s_load_box_all rfl rfl zG trivial (by rfl)) ?_
                try dsimp only [St.put]
                refine aops_e rfl (e_call_pure rfl rfl rfl (Refer2_pure t f _) ?_)
                refine aops_n rfl (n_extract rfl rfl rfl) ?_
                refine aops_n rfl (n_extract rfl rfl rfl) ?_
                try dsimp only [St.put]
                refine aops_e rfl (e_store_all rfl rfl rfl zG rfl rfl (by rfl) ?_)
                refine aops_n rfl (n_as rfl (by constructor)) ?_
                refine aops_nil ?_
                dsimp only [St.put]
                refine hK21 _ ?_
                refine aw_ret ?_
                refine ends_v2 rfl (rv_box rfl zG (by rfl) (by first | exact List.cons_ne_nil _ _ | (simp; done) | (simp [putAt]; done)) rfl) (rv_tmp (by constructor)) zN zS ?_ ?_
                · rw [hV]
                  exact zW
                · exact Wk.of_eq (vi hE.symm)
            exact aeach_nil
          exact aeach_nil
        exact aeach_nil
      exact aeach_nil
theorem uf_pass : Tryd.prog.underlying 145 = some (.struct (Tryd.prog.fieldsOf 145)) := by kernel_rfl
theorem sh_pass : Tryd.prog.stoodInHeld 145 = false := by kernel_rfl
instance : EqT Tryd.prog 145 PassD where
  guard op w x y xs ys := run_eqGuard_agg w op _ x y xs ys (by kernel_rfl)
  same w x y := by
    obtain ⟨a, b, c, d, e⟩ := x
    obtain ⟨a', b', c', d', e'⟩ := y
    simp only [FlatV.vals]
    rw [run_equalIn_agg _ _ _ _ _ uf_pass sh_pass]
    by_cases h1 : a = a' <;> by_cases h2 : b = b' <;> by_cases h3 : c = c' <;> by_cases h4 : d = d' <;> by_cases h5 : e = e' <;> simp [go_sem, h1, h2, h3, h4, h5]
theorem uf_ref : Tryd.prog.underlying 60 = some (.struct (Tryd.prog.fieldsOf 60)) := by kernel_rfl
theorem sh_ref : Tryd.prog.stoodInHeld 60 = false := by kernel_rfl
instance : EqT Tryd.prog 60 RefD where
  guard op w x y xs ys := run_eqGuard_agg w op _ x y xs ys (by kernel_rfl)
  same w x y := by
    obtain ⟨a, b, c⟩ := x
    obtain ⟨a', b', c'⟩ := y
    simp only [FlatV.vals]
    rw [run_equalIn_agg _ _ _ _ _ uf_ref sh_ref]
    by_cases h1 : a = a' <;> by_cases h2 : b = b' <;> by_cases h3 : c = c' <;> simp [go_sem, h1, h2, h3]
theorem SamePasses_pure (a b : List PassD) : Pure Tryd.prog 33 [lst a, lst b] (.v (.bool (decide (a = b)))) := by
  refine pure_of_body Tryd.func33 rfl (fun m => .v) fun G nx => ?_
  simp only [Tryd.ntmps33, List.length_cons, List.length_nil, Nat.reduceAdd, Nat.reduceSub]
  refine aw_lt fun hlt => ?_
  dsimp only at hlt
  refine aw_fit 0 (fun hf => ?_)
  have hf' : a.length ≤ 9223372036854775807 := (fit_lst.1 hf).1
  clear hf
  refine aw_seq_k fun K1 hK1 => ?_
  refine aw_region ?_
  refine aops_n rfl (n_as rfl (by constructor)) ?_
  refine aops_nil ?_
  dsimp only [St.put]
  refine hK1 _ ?_
  refine aw_seq_k fun K2 hK2 => ?_
  refine aw_seq_k fun K3 hK3 => ?_
  refine aw_region ?_
  refine aops_n rfl (n_mv rfl (by constructor)) ?_
  refine aops_n rfl (n_len' rfl rfl (List.length_map _)) ?_
  refine aops_n rfl (n_mv rfl (by constructor)) ?_
  refine aops_n rfl (n_len' rfl rfl (List.length_map _)) ?_
  refine aops_n rfl (n_neq rfl rfl rfl) ?_
  refine aops_nil ?_
  dsimp only [St.put]
  refine hK3 _ ?_
  refine aw_cond rfl (fun hc => ?_) (fun hc => ?_)
  · try replace hc := of_decide_eq_true hc
    refine aw_seq_k fun K4 hK4 => ?_
    refine aw_region ?_
    refine aops_n rfl (n_as rfl (by constructor)) ?_
    refine aops_nil ?_
    dsimp only [St.put]
    refine hK4 _ ?_
    refine aw_ret ?_
    refine ends_1 rfl (by constructor) zN zS ?_
    exact vb (by
      have : a ≠ b := fun e => by subst e; simp at hc
      simp [this])
  · have hab := nd_f hc
    refine aw_skip ?_
    refine hK2 _ ?_
    refine aw_seq_k fun K5 hK5 => ?_
    refine aw_seq_k fun K6 hK6 => ?_
    refine aw_region ?_
    refine aops_n rfl (n_as rfl (by constructor)) ?_
    refine aops_nil ?_
    dsimp only [St.put]
    refine hK6 _ ?_
    refine aw_block ?_
    refine aw_wipe 6 ?_
    simp only [firsts, getA, Nat.reduceAdd, List.getD_cons_zero, List.getD_cons_succ, List.getD_nil, natBeq, Nat.reduceBEq, cond_true, cond_false]
    refine aw_forget (G) zX ?_
    dsimp only
    refine aw_loopD (X := Nat) (fun k => k ≤ a.length ∧ a.take k = b.take k) (fun k => a.length - k) (fun k => [(5, .v (.int .i64 (k : Int)))]) (fun k G' => G') 0 rfl ?_ ?_ (fun _ _ h => h) ?_ ?_ ?_
    · exact ⟨by simp, by simp⟩
    · exact zF
    · rintro k hI
      exact zL
    · exact fun _ _ _ _ h => .inl h
    · rintro k hI
      dsimp only at hI ⊢
      refine aw_seq_k fun K7 hK7 => ?_
      refine aw_seq_k fun K8 hK8 => ?_
      refine aw_region ?_
      refine aops_n rfl (n_mv rfl (by constructor)) ?_
      refine aops_n rfl (n_mv rfl (by constructor)) ?_
      refine aops_n rfl (n_len' rfl rfl (List.length_map _)) ?_
      refine aops_n rfl (n_lss rfl rfl rfl) ?_
      refine aops_nil ?_
      dsimp only [St.put]
      refine hK8 _ ?_
      refine aw_cond rfl (fun hc => ?_) (fun hc => ?_)
      · replace hc := of_decide_eq_true hc
        obtain ⟨x, hx⟩ : ∃ x, a[k]? = some x := some_of_lt (by omega)
        obtain ⟨y, hy⟩ : ∃ y, b[k]? = some y := some_of_lt (by omega)
        refine aw_skip ?_
        refine hK7 _ ?_
        refine aw_seq_k fun K9 hK9 => ?_
        refine aw_block ?_
        refine aw_seq_k fun K10 hK10 => ?_
        refine aw_draw [(0, none), (1, none), (2, none), (3, none), (4, none), (5, none), (6, none), (7, none), (8, none)] (fun i => [].contains i) (fun i => [].contains i) (fun i => [0, 1, 2, 4, 5, 6, 8].contains i) [] (by kernel_rfl) (by kernel_rfl) ?_
        refine acan1_n rfl rfl rfl rfl (n_mv rfl (by constructor)) ?_
        refine acan1_n rfl rfl rfl rfl (n_mv rfl (by constructor)) ?_
        try dsimp only [St.put]
        refine acan1_n rfl rfl rfl rfl (n_indexAddr rfl rfl rfl rfl (map_get (by assumption)) (Enc.len _)) ?_
        try dsimp only [St.put]
        refine acan1_s rfl rfl rfl rfl (s_load_agg' rfl rfl (Enc.len _)) ?_
        refine acan1_n rfl rfl rfl rfl (n_mv rfl (by constructor)) ?_
        refine acan1_n rfl rfl rfl rfl (n_mv rfl (by constructor)) ?_
        try dsimp only [St.put]
        refine acan1_n rfl rfl rfl rfl (n_indexAddr rfl rfl rfl rfl (map_get (by assumption)) (Enc.len _)) ?_
        try dsimp only [St.put]
        refine acan1_s rfl rfl rfl rfl (s_load_agg' rfl rfl (Enc.len _)) ?_
        refine acan1_n rfl rfl rfl rfl (n_agg_neq (x := x) (y := y) rfl rfl rfl) ?_
        refine acan1_nil ?_
        dsimp only [St.put]
        refine hK10 _ ?_
        refine aw_cond rfl (fun hc => ?_) (fun hc => ?_)
        · try replace hc := of_decide_eq_true hc
          refine aw_seq_k fun K11 hK11 => ?_
          refine aw_region ?_
          refine aops_n rfl (n_as rfl (by constructor)) ?_
          refine aops_nil ?_
          dsimp only [St.put]
          refine hK11 _ ?_
          refine aw_ret ?_
          refine ends_1 rfl (by constructor) zN zS ?_
          exact vb (by
            have := ne_of_get hx hy (nd_t hc)
            simp [this])
        · have hxy := nd_f hc
          refine aw_skip ?_
          refine hK9 _ ?_
          refine aw_region ?_
          refine aops_n rfl (n_mv rfl (by constructor)) ?_
          refine aops_n rfl (n_add rfl rfl rfl (by omega)) ?_
          refine aops_n rfl (n_as rfl (by constructor)) ?_
          refine aops_nil ?_
          dsimp only [St.put]
          exact ⟨k + 1, by omega, ⟨by omega, take_succ_eq hI.2 hx (hxy ▸ hy)⟩, ⟨⟨rfl, rfl⟩, zF, zB, zN, zX⟩⟩
      · try replace hc := of_decide_eq_false hc
        refine aw_exit ?_
        refine hK5 _ ?_
        refine aw_seq_k fun K12 hK12 => ?_
        refine aw_region ?_
        refine aops_n rfl (n_as rfl (by constructor)) ?_
        refine aops_nil ?_
        dsimp only [St.put]
        refine hK12 _ ?_
        refine aw_ret ?_
        refine ends_1 rfl (by constructor) zN zS ?_
        exact vb (by
          have h1 := hI.2
          rw [take_all (by omega), take_all (by omega)] at h1
          simp [h1])
end Go.Proofs.YtjjklfgpffgnfaaDoor
