/-
  Contracts of the reference's functions of charts: the places of the nearest references; their walk.
-/
import Derived.Test.YtjjklfgpffgnfaaDoorFgNear
namespace Go.AB
open Go Go.RowKit
open Go.AB.Enc (cells)
open Go.PB (Chap TextD PlaceD ReadingD CopyD WayD)
theorem keyR_lt {a b : RefD} : cmpL (keyR a) (keyR b) < 0 ↔ ltW (keyR a) (keyR b) := cmpL_lt rfl
/-- what has been found -/
structure CloseI (S : List PlaceD) (f : L2 → Option L2) (rr : RefD) (a b : Option PlaceD) (la lb : RefD) : Prop where
  lo : IsLo S (keyF f) (keyR rr) a
  hi : IsHi S (keyF f) (keyR rr) b
  la : ∀ y, a = some y → la = rfV f y
  lb : ∀ y, b = some y → lb = rfV f y
theorem closeI_nil (f : L2 → Option L2) (rr la lb : RefD) : CloseI [] f rr none none la lb := ⟨lo_nil _ _, hi_nil _ _, fun y h => (by cases h), fun y h => (by cases h)⟩
theorem lo_stay {S : List PlaceD} {key : PlaceD → List Int} {x : List Int} {a : Option PlaceD} {z : PlaceD} (h : IsLo S key x a) (hz : ltW (key z) x → ∃ w, a = some w ∧ ¬ ltW (key w) (key z)) : IsLo (S ++ [z]) key x a := by
  by_cases hx : ltW (key z) x
  · obtain ⟨w, rfl, hw⟩ := hz hx
    exact lo_old h hw
  · exact lo_app h fun y hy => by rw [List.mem_singleton] at hy; subst hy; exact hx
theorem hi_stay {S : List PlaceD} {key : PlaceD → List Int} {x : List Int} {a : Option PlaceD} {z : PlaceD} (h : IsHi S key x a) (hz : ltW x (key z) → ∃ w, a = some w ∧ ¬ ltW (key z) (key w)) : IsHi (S ++ [z]) key x a := by
  by_cases hx : ltW x (key z)
  · obtain ⟨w, rfl, hw⟩ := hz hx
    exact hi_old h hw
  · exact hi_app h fun y hy => by rw [List.mem_singleton] at hy; subst hy; exact hx
/-- the first half of a step -/
structure CloseH (S : List PlaceD) (z : PlaceD) (f : L2 → Option L2) (rr : RefD) (a b : Option PlaceD) (la lb : RefD) : Prop where
  lo : IsLo (S ++ [z]) (keyF f) (keyR rr) a
  hi : IsHi S (keyF f) (keyR rr) b
  la : ∀ y, a = some y → la = rfV f y
  lb : ∀ y, b = some y → lb = rfV f y
section
variable {S : List PlaceD} {f : L2 → Option L2} {rr : RefD} {a b : Option PlaceD} {la lb x : RefD} {z : PlaceD}
theorem closeH_new (h : CloseI S f rr a b la lb) (hx : rfV f z = x) (h1 : cmpL (keyR x) (keyR rr) < 0) (h2 : a = none ∨ cmpL (keyR la) (keyR x) < 0) : CloseH S z f rr (some z) b x lb := by
  subst hx
  refine ⟨lo_one h.lo (keyR_lt.1 h1) fun y hy => ?_, h.hi, fun y hy => by cases hy; rfl, h.lb⟩
  rcases h2 with h2 | h2
  · rw [h2] at hy; cases hy
  · rw [h.la y hy] at h2; exact keyR_lt.1 h2
theorem closeH_old (h : CloseI S f rr a b la lb) (hx : rfV f z = x) (hn : ¬ (cmpL (keyR x) (keyR rr) < 0 ∧ (a = none ∨ cmpL (keyR la) (keyR x) < 0))) : CloseH S z f rr a b la lb := by
  subst hx
  refine ⟨lo_stay h.lo fun hl => ?_, h.hi, h.la, h.lb⟩
  have h1 := keyR_lt.2 hl
  cases a with
  | none => exact absurd ⟨h1, .inl rfl⟩ hn
  | some w => exact ⟨w, rfl, fun hw => hn ⟨h1, .inr (by rw [h.la w rfl]; exact keyR_lt.2 hw)⟩⟩
theorem closeI_new (h : CloseH S z f rr a b la lb) (hx : rfV f z = x) (h1 : cmpL (keyR rr) (keyR x) < 0) (h2 : b = none ∨ cmpL (keyR x) (keyR lb) < 0) : CloseI (S ++ [z]) f rr a (some z) la x := by
  subst hx
  refine ⟨h.lo, hi_one h.hi (keyR_lt.1 h1) fun y hy => ?_, h.la, fun y hy => by cases hy; rfl⟩
  rcases h2 with h2 | h2
  · rw [h2] at hy; cases hy
  · rw [h.lb y hy] at h2; exact keyR_lt.1 h2
theorem closeI_old (h : CloseH S z f rr a b la lb) (hx : rfV f z = x) (hn : ¬ (cmpL (keyR rr) (keyR x) < 0 ∧ (b = none ∨ cmpL (keyR x) (keyR lb) < 0))) : CloseI (S ++ [z]) f rr a b la lb := by
  subst hx
  refine ⟨h.lo, hi_stay h.hi fun hl => ?_, h.la, h.lb⟩
  have h1 := keyR_lt.2 hl
  cases b with
  | none => exact absurd ⟨h1, .inl rfl⟩ hn
  | some w => exact ⟨w, rfl, fun hw => hn ⟨h1, .inr (by rw [h.lb w rfl]; exact keyR_lt.2 hw)⟩⟩
end
theorem close_end {t : TextD} {ss : List StretchD} (hS : Sound t ss) {rr : RefD} {i : Nat} {a b : Option PlaceD} {la lb : RefD} (hno : leadO t ss rr = none) (hi : (rowsT t ss).length ≤ i) (h : CloseI (wordsP t (asOf ss) ((linesT t).take i)) (asOf ss) rr a b la lb) : closeL t ss rr = a.toList ++ b.toList := by
  have hlen : (linesT t).length ≤ i := by rw [← rows_lines t ss, List.length_map]; exact hi
  rw [List.take_of_length_le hlen] at h
  unfold closeL
  rw [hno]
  exact nearS_eq (keyF_ok hS) ⟨a, b, rfl, h.lo, h.hi⟩
end Go.AB
namespace Go.Proofs.YtjjklfgpffgnfaaDoor
set_option maxRecDepth 10000
open Go.RowKit Go.AB
open Go.AB.Enc (cells)
open Go.PB (Chap TextD PlaceD ReadingD CopyD WayD)
theorem Less_pure (a b : RefD) : Pure Tryd.prog 83 [val a, val b] (.v (.bool (decide (cmpL (keyR a) (keyR b) < 0)))) := by
  refine pure_of_body Tryd.func83 rfl (fun m => .v) fun G nx => ?_
  simp only [Tryd.ntmps83, List.length_cons, List.length_nil, Nat.reduceAdd, Nat.reduceSub]
  refine aw_lt fun hlt => ?_
  dsimp only at hlt
  refine aw_seq_k fun K1 hK1 => ?_
  refine aw_region ?_
  try dsimp only [St.put]
  refine aops_e rfl (e_box rfl rfl (by simp) ?_)
  try dsimp only [St.put]
  refine aops_e rfl (e_box rfl rfl (by simp) ?_)
  refine aops_n rfl (n_as rfl (by constructor)) ?_
  refine aops_nil ?_
  dsimp only [St.put]
  refine hK1 _ ?_
  refine aw_seq_k fun K2 hK2 => ?_
  refine aw_block ?_
  refine aw_seq_k fun K3 hK3 => ?_
  refine aw_region ?_
  refine aops_n rfl (n_fieldAddr' rfl rfl rfl) ?_
  try dsimp only [St.put]
  refine aops_s rfl (s_load rfl rfl) ?_
  refine aops_n rfl (n_fieldAddr' rfl rfl rfl) ?_
  try dsimp only [St.put]
  refine aops_s rfl (s_load rfl rfl) ?_
  refine aops_n rfl (n_neq rfl rfl rfl) ?_
  refine aops_n rfl (n_as rfl (by constructor)) ?_
  refine aops_nil ?_
  dsimp only [St.put]
  refine hK3 _ ?_
  refine aw_cond rfl (fun hc => ?_) (fun hc => ?_)
  · have h1 : a.ch ≠ b.ch := nd_t hc
    refine aw_seq_k fun K4 hK4 => ?_
    refine aw_region ?_
    refine aops_n rfl (n_fieldAddr' rfl rfl rfl) ?_
    try dsimp only [St.put]
    refine aops_s rfl (s_load rfl rfl) ?_
    refine aops_n rfl (n_fieldAddr' rfl rfl rfl) ?_
    try dsimp only [St.put]
    refine aops_s rfl (s_load rfl rfl) ?_
    refine aops_n rfl (n_lss rfl rfl rfl) ?_
    refine aops_n rfl (n_as rfl (by constructor)) ?_
    refine aops_nil ?_
    dsimp only [St.put]
    refine hK4 _ ?_
    refine aw_ret ?_
    refine ends_1 rfl (by constructor) zN zS ?_
    exact vb (by rw [decide_eq_decide, keyR, keyR, lt3]; omega)
  · have h1 : a.ch = b.ch := nd_f hc
    refine aw_seq_k fun K5 hK5 => ?_
    refine aw_region ?_
    refine aops_n rfl (n_fieldAddr' rfl rfl rfl) ?_
    try dsimp only [St.put]
    refine aops_s rfl (s_load rfl rfl) ?_
    refine aops_n rfl (n_fieldAddr' rfl rfl rfl) ?_
    try dsimp only [St.put]
    refine aops_s rfl (s_load rfl rfl) ?_
    refine aops_n rfl (n_neq rfl rfl rfl) ?_
    refine aops_n rfl (n_as rfl (by constructor)) ?_
    refine aops_nil ?_
    dsimp only [St.put]
    refine hK5 _ ?_
    refine aw_cond rfl (fun hc => ?_) (fun hc => ?_)
    · have h2 : a.ln ≠ b.ln := nd_t hc
      refine aw_seq_k fun K6 hK6 => ?_
      refine aw_region ?_
      refine aops_n rfl (n_fieldAddr' rfl rfl rfl) ?_
      try dsimp only [St.put]
      refine aops_s rfl (s_load rfl rfl) ?_
      refine aops_n rfl (n_fieldAddr' rfl rfl rfl) ?_
      try dsimp only [St.put]
      refine aops_s rfl (s_load rfl rfl) ?_
      refine aops_n rfl (n_lss rfl rfl rfl) ?_
      refine aops_n rfl (n_as rfl (by constructor)) ?_
      refine aops_nil ?_
      dsimp only [St.put]
      refine hK6 _ ?_
      refine aw_ret ?_
      refine ends_1 rfl (by constructor) zN zS ?_
      exact vb (by rw [decide_eq_decide, keyR, keyR, lt3]; omega)
    · have h2 : a.ln = b.ln := nd_f hc
      refine aw_skip ?_
      refine hK2 _ ?_
      refine aw_seq_k fun K7 hK7 => ?_
      refine aw_region ?_
      refine aops_n rfl (n_fieldAddr' rfl rfl rfl) ?_
      try dsimp only [St.put]
      refine aops_s rfl (s_load rfl rfl) ?_
      refine aops_n rfl (n_fieldAddr' rfl rfl rfl) ?_
      try dsimp only [St.put]
      refine aops_s rfl (s_load rfl rfl) ?_
      refine aops_n rfl (n_lss rfl rfl rfl) ?_
      refine aops_n rfl (n_as rfl (by constructor)) ?_
      refine aops_nil ?_
      dsimp only [St.put]
      refine hK7 _ ?_
      refine aw_ret ?_
      refine ends_1 rfl (by constructor) zN zS ?_
      exact vb (by rw [decide_eq_decide, keyR, keyR, lt3]; omega)
set_option maxHeartbeats 4000000 in
theorem Close2_pure (t : TextD) (e : EditionD) (rr : RefD) : Pure Tryd.prog 37 [textC t, val e, val rr] (.tup [lst (closeV t e rr), .v (.int .i64 (closeEr t e rr))]) := by
  refine pure_of_body Tryd.func37 rfl (fun m => .tup (low_cons (lst_low _ _) (low_cons .v low_nil))) fun G nx => ?_
  simp only [Tryd.ntmps37, List.length_cons, List.length_nil, Nat.reduceAdd, Nat.reduceSub]
  refine aw_lt fun hlt => ?_
  dsimp only at hlt
  refine aw_seq_k fun K1 hK1 => ?_
  refine aw_region ?_
  try dsimp only [St.put]
  refine aops_e rfl (e_box rfl rfl (by simp) ?_)
  try dsimp only [St.put]
  refine aops_e rfl (e_box rfl rfl (by simp) ?_)
  try dsimp only [St.put]
  refine aops_e rfl (e_box rfl rfl (by simp) ?_)
  refine aops_n rfl (n_as rfl (by constructor)) ?_
  refine aops_n rfl (n_as rfl (by constructor)) ?_
  refine aops_nil ?_
  dsimp only [St.put]
  refine hK1 _ ?_
  refine aw_seq_k fun K2 hK2 => ?_
  refine aw_seq_k fun K3 hK3 => ?_
  refine aw_region ?_
  try dsimp only [St.put]
  refine aops_s rfl (s_load_agg' rfl rfl rfl) ?_
  try dsimp only [St.put]
  refine aops_s rfl (s_load_agg' rfl rfl (Enc.len _)) ?_
  try dsimp only [St.put]
  refine aops_e rfl (e_call_pure rfl rfl rfl (sound2_pure t e) ?_)
  refine aops_n rfl (n_as rfl (by constructor)) ?_
  refine aops_nil ?_
  dsimp only [St.put]
  refine hK3 _ ?_
  refine aw_seq_k fun K4 hK4 => ?_
  refine aw_region ?_
  refine aops_n rfl (n_mv rfl (by constructor)) ?_
  refine aops_n rfl (n_neq rfl rfl rfl) ?_
  refine aops_nil ?_
  dsimp only [St.put]
  refine hK4 _ ?_
  refine aw_cond rfl (fun hc => ?_) (fun hc => ?_)
  · have h0 : ¬ soundEr t e = 0 := nd_t hc
    have hE : closeEr t e rr = soundEr t e := by simp [closeEr, h0]
    have hV : closeV t e rr = [] := by simp [closeV, hE, h0]
    refine aw_seq_k fun K5 hK5 => ?_
    refine aw_region ?_
    refine aops_n rfl (n_mv rfl (by constructor)) ?_
    refine aops_n rfl (n_as rfl (by constructor)) ?_
    refine aops_n rfl (n_as rfl (by constructor)) ?_
    refine aops_nil ?_
    dsimp only [St.put]
    refine hK5 _ ?_
    refine aw_ret ?_
    refine ends_v2 rfl (rv_tmp (by constructor)) (rv_tmp (by constructor)) zN zS ?_ ?_
    · rw [hV]
      exact zW
    · exact Wk.of_eq (vi hE.symm)
  · have h0 : soundEr t e = 0 := nd_f hc
    obtain ⟨ht, hl, he⟩ := checkEr_text (soundEr_check h0).1
    have hS := soundEr_sound h0
    refine aw_skip ?_
    refine hK2 _ ?_
    refine aw_seq_k fun K6 hK6 => ?_
    refine aw_seq_k fun K7 hK7 => ?_
    refine aw_region ?_
    try dsimp only [St.put]
    refine aops_s rfl (s_load_agg' rfl rfl (Enc.len _)) ?_
    try dsimp only [St.put]
    refine aops_e rfl (e_call_pure rfl rfl rfl (Ref2_pure rr) ?_)
    refine aops_n rfl (n_not rfl rfl) ?_
    refine aops_nil ?_
    dsimp only [St.put]
    refine hK7 _ ?_
    refine aw_cond rfl (fun hc => ?_) (fun hc => ?_)
    · have h1 : refB rr = false := by simpa using hc
      have hE : closeEr t e rr = 2 := by simp [closeEr, h0, h1]
      have hV : closeV t e rr = [] := by simp [closeV, hE]
      refine aw_seq_k fun K8 hK8 => ?_
      refine aw_region ?_
      refine aops_n rfl (n_as rfl (by constructor)) ?_
      refine aops_n rfl (n_as rfl (by constructor)) ?_
      refine aops_nil ?_
      dsimp only [St.put]
      refine hK8 _ ?_
      refine aw_ret ?_
      refine ends_v2 rfl (rv_tmp (by constructor)) (rv_tmp (by constructor)) zN zS ?_ ?_
      · rw [hV]
        exact zW
      · exact Wk.of_eq (vi hE.symm)
    · have h1 : refB rr = true := by simpa using hc
      have hll := rowsT_all ht e.ss
      have hbd := rowsT_bd ht he
      refine aw_skip ?_
      refine hK6 _ ?_
      refine aw_seq_k fun K9 hK9 => ?_
      refine aw_region ?_
      try dsimp only [St.put]
      refine aops_s rfl (s_load_agg' rfl rfl rfl) ?_
      try dsimp only [St.put]
      refine aops_s rfl (s_load_agg' rfl rfl (Enc.len _)) ?_
      try dsimp only [St.put]
      refine aops_e rfl (e_call_pure rfl rfl rfl (rows_pure t e ht hl he) ?_)
      refine aops_n rfl (n_as rfl (by constructor)) ?_
      refine aops_nil ?_
      dsimp only [St.put]
      refine hK9 _ ?_
      refine aw_seq_k fun K10 hK10 => ?_
      refine aw_seq_k fun K11 hK11 => ?_
      refine aw_region ?_
      refine aops_n rfl (n_mv rfl (by constructor)) ?_
      try dsimp only [St.put]
      refine aops_s rfl (s_load_agg' rfl rfl (Enc.len _)) ?_
      try dsimp only [St.put]
      refine aops_e rfl (e_call_pure rfl rfl rfl (refLead_pure _ rr (rowsT_all ht _) h1) ?_)
      refine aops_n rfl (n_mv rfl (by constructor)) ?_
      refine aops_n rfl (n_extract rfl rfl rfl) ?_
      refine aops_n rfl (n_extract rfl rfl rfl) ?_
      try dsimp only [St.put]
      refine aops_e rfl (e_allocC rfl ?_)
      try dsimp only [St.put]
      refine aops_e rfl (e_store_all rfl rfl rfl zG rfl rfl (by rfl) ?_)
      refine aops_n rfl (n_as rfl (by constructor)) ?_
      refine aops_nil ?_
      dsimp only [St.put]
      rw [lead_same hS h1]
      refine hK11 _ ?_
      refine aw_commitD (i := 10) rfl zG (by first | exact List.cons_ne_nil _ _ | (simp; done) | (simp [putAt]; done)) ?_
      dsimp only
      refine aw_seq_k fun K12 hK12 => ?_
      refine aw_region ?_
      refine aops_n rfl (n_mv rfl (by constructor)) ?_
      refine aops_nil ?_
      dsimp only [St.put]
      refine hK12 _ ?_
      refine aw_cond rfl (fun hc => ?_) (fun hc => ?_)
      · have hf : (leadO t e.ss rr).isSome = true := hc
        obtain ⟨p, hp⟩ := Option.isSome_iff_exists.1 hf
        have hL : closeL t e.ss rr = [p] := by simp [closeL, hp]
        have hE : closeEr t e rr = 0 := by simp [closeEr, h0, h1, hL]
        have hV : closeV t e rr = [p] := by simp [closeV, hE, hL]
        rw [hp, Option.getD_some]
        refine aw_seq_k fun K13 hK13 => ?_
        refine aw_region ?_
        try dsimp only [St.put]
        refine aops_s rfl (s_load_agg' rfl rfl (Enc.len _)) ?_
        try dsimp only [St.put]
        refine aops_e rfl (e_buildSlice rfl rfl rfl (by decide) (by decide) zR (by decide) ?_)
        refine aops_n rfl (n_as rfl (by constructor)) ?_
        refine aops_n rfl (n_as rfl (by constructor)) ?_
        refine aops_nil ?_
        dsimp only [St.put]
        refine hK13 _ ?_
        refine aw_ret ?_
        refine ends_v2 rfl (rv_tmp (by constructor)) (rv_tmp (by constructor)) zN zS ?_ ?_
        · rw [hV]
          exact zW
        · exact Wk.of_eq (vi hE.symm)
      · have hf : leadO t e.ss rr = none := by simpa using hc
        refine aw_skip ?_
        refine hK10 _ ?_
        refine aw_seq_k fun K14 hK14 => ?_
        refine aw_region ?_
        try dsimp only [St.put]
        refine aops_e rfl (e_allocC rfl ?_)
        try dsimp only [St.put]
        refine aops_e rfl (e_allocC rfl ?_)
        refine aops_nil ?_
        dsimp only [St.put]
        refine hK14 _ ?_
        refine aw_seq_k fun K15 hK15 => ?_
        refine aw_region ?_
        refine aops_n rfl (n_as rfl (by constructor)) ?_
        refine aops_n rfl (n_as rfl (by constructor)) ?_
        refine aops_nil ?_
        dsimp only [St.put]
        refine hK15 _ ?_
        refine aw_nil_zero 14 rfl ?_
        dsimp only
        refine aw_nil_zero 15 rfl ?_
        dsimp only
        refine aw_seq_k fun K16 hK16 => ?_
        refine aw_seq_k fun K17 hK17 => ?_
        refine aw_region ?_
        refine aops_n rfl (n_as rfl (by constructor)) ?_
        refine aops_nil ?_
        dsimp only [St.put]
        refine hK17 _ ?_
        refine aw_block ?_
        refine aw_wipe 21 ?_
        simp only [firsts, getA, Nat.reduceAdd, List.getD_cons_zero, List.getD_cons_succ, List.getD_nil, natBeq, Nat.reduceBEq, cond_true, cond_false]
        refine aw_forget ((setG (setG G (nx + 1) (.box 0 (cells ((⟨0, 0, 0⟩ : RefD))))) (nx + 1 + 1) (.box 0 (cells ((⟨0, 0, 0⟩ : RefD)))))) zX ?_
        dsimp only
        refine aw_loopD (X := Nat × Option PlaceD × Option PlaceD × RefD × RefD × Nat × Nat) (fun x => x.1 ≤ (rowsT t e.ss).length ∧ CloseI (wordsP t (asOf e.ss) ((linesT t).take x.1)) (asOf e.ss) rr x.2.1 x.2.2.1 x.2.2.2.1 x.2.2.2.2.1) (fun x => (rowsT t e.ss).length - x.1) (fun x => [(14, .list (x.2.1.toList.map cells) .zero), (15, .list (x.2.2.1.toList.map cells) .zero), (16, .v (.int .i64 (x.1 : Int))), (17, .any), (18, .any), (19, .any)]) (fun x G' => (setG (setG G (nx + 1) (.box x.2.2.2.2.2.1 (cells x.2.2.2.1))) (nx + 1 + 1) (.box x.2.2.2.2.2.2 (cells x.2.2.2.2.1)))) (0, none, none, ⟨0, 0, 0⟩, ⟨0, 0, 0⟩, 0, 0) rfl ?_ ?_ ?_ ?_ ?_ ?_
        · exact ⟨Nat.zero_le _, closeI_nil _ _ _ _⟩
        · exact zF
        · exact zX
        · rintro ⟨i, a, b, la, lb, va, vb⟩ hI
          exact (by (try dsimp only); repeat' (first | exact trivial | refine ⟨?_, ?_⟩ | exact .v | exact .any | refine .elem ?_ | exact lst_low _ _ | exact cells_low _ _ | exact val_low _ _ | exact data_low _ (by (try dsimp only); omega) | exact .box (by (try dsimp only); omega) | exact nil_low | exact low_nil | exact zlist_low _ | refine set_low ?_ ?_ | exact .arr (by (try dsimp only); omega) | exact .own (by (try dsimp only); omega) | exact .map (by (try dsimp only); omega) | exact flatC_low _ | refine low_cons ?_ ?_ | exact lst_low _ _))
        · rintro ⟨i, a, b, la, lb, va, vb⟩ hI
          exact (by (repeat' (refine lowG_set ?_ (by (try dsimp only); omega) ?_)); all_goals (first | exact lowG_base zS | (repeat' (first | exact trivial | refine ⟨?_, ?_⟩ | exact .v | exact .any | refine .elem ?_ | exact lst_low _ _ | exact cells_low _ _ | exact val_low _ _ | exact data_low _ (by (try dsimp only); omega) | exact .box (by (try dsimp only); omega) | exact nil_low | exact low_nil | exact zlist_low _ | refine set_low ?_ ?_ | exact .arr (by (try dsimp only); omega) | exact .own (by (try dsimp only); omega) | exact .map (by (try dsimp only); omega) | exact flatC_low _ | refine low_cons ?_ ?_ | exact lst_low _ _))))
        · rintro ⟨i, a, b, la, lb, va, vb⟩ hI
          dsimp only at hI ⊢
          refine aw_seq_k fun K18 hK18 => ?_
          refine aw_seq_k fun K19 hK19 => ?_
          refine aw_region ?_
          refine aops_n rfl (n_mv rfl (by constructor)) ?_
          refine aops_n rfl (n_mv rfl (by constructor)) ?_
          refine aops_n rfl (n_len' rfl rfl (List.length_map _)) ?_
          refine aops_n rfl (n_lss rfl rfl rfl) ?_
          refine aops_nil ?_
          dsimp only [St.put]
          refine hK19 _ ?_
          refine aw_cond rfl (fun hc => ?_) (fun hc => ?_)
          · replace hc := of_decide_eq_true hc
            obtain ⟨r, hr⟩ : ∃ x, (rowsT t e.ss)[i]? = some x := some_of_lt (by omega)
            have hrb := hbd r (mem_of_get hr)
            have hws : 1 ≤ r.ws ∧ r.ws ≤ 10 := by
              obtain ⟨q, l2, hw2, rfl⟩ := mem_rows.1 (mem_of_get hr)
              have := words_bd ht hw2
              exact ⟨by simp only [rowOf]; omega, by simp only [rowOf]; omega⟩
            have hau0 : 0 ≤ r.au := by
              by_cases h5 : r.au = 0
              · omega
              · have := asOf_pos he (row_as he (mem_of_get hr) h5); dsimp only at this; omega
            refine aw_skip ?_
            refine hK18 _ ?_
            refine aw_seq_k fun K20 hK20 => ?_
            refine aw_block ?_
            refine aw_seq_k fun K21 hK21 => ?_
            refine aw_region ?_
            refine aops_n rfl (n_as rfl (by constructor)) ?_
            refine aops_nil ?_
            dsimp only [St.put]
            refine hK21 _ ?_
            refine aw_block ?_
            refine aw_wipe 21 ?_
            simp only [firsts, getA, Nat.reduceAdd, List.getD_cons_zero, List.getD_cons_succ, List.getD_nil, natBeq, Nat.reduceBEq, cond_true, cond_false]
            refine aw_forget ((setG (setG G (nx + 1) (.box va (cells la))) (nx + 1 + 1) (.box vb (cells lb)))) zX ?_
            dsimp only
            refine aw_loopD (X := Nat × Option PlaceD × Option PlaceD × RefD × RefD × Nat × Nat) (fun x => (x.1 : Int) ≤ r.ws ∧ (x.1 = 0 ∨ r.au ≠ 0) ∧ CloseI (wordsP t (asOf e.ss) ((linesT t).take i) ++ lineN (r.ch, r.ln) x.1) (asOf e.ss) rr x.2.1 x.2.2.1 x.2.2.2.1 x.2.2.2.2.1) (fun x => r.ws.toNat - x.1) (fun x => [(14, .list (x.2.1.toList.map cells) .zero), (15, .list (x.2.2.1.toList.map cells) .zero), (17, .v (.int .i64 (x.1 : Int))), (18, .any), (19, .any)]) (fun x G' => (setG (setG G (nx + 1) (.box x.2.2.2.2.2.1 (cells x.2.2.2.1))) (nx + 1 + 1) (.box x.2.2.2.2.2.2 (cells x.2.2.2.2.1)))) (0, a, b, la, lb, va, vb) rfl ?_ ?_ ?_ ?_ ?_ ?_
            · exact ⟨by dsimp only; omega, .inl rfl, by simpa [lineN] using hI.2⟩
            · exact zF
            · exact zX
            · rintro ⟨w, a2, b2, la2, lb2, va2, vb2⟩ hI
              exact (by (try dsimp only); repeat' (first | exact trivial | refine ⟨?_, ?_⟩ | exact .v | exact .any | refine .elem ?_ | exact lst_low _ _ | exact cells_low _ _ | exact val_low _ _ | exact data_low _ (by (try dsimp only); omega) | exact .box (by (try dsimp only); omega) | exact nil_low | exact low_nil | exact zlist_low _ | refine set_low ?_ ?_ | exact .arr (by (try dsimp only); omega) | exact .own (by (try dsimp only); omega) | exact .map (by (try dsimp only); omega) | exact flatC_low _ | refine low_cons ?_ ?_ | exact lst_low _ _))
            · rintro ⟨w, a2, b2, la2, lb2, va2, vb2⟩ hI
              exact (by (repeat' (refine lowG_set ?_ (by (try dsimp only); omega) ?_)); all_goals (first | exact lowG_base zS | (repeat' (first | exact trivial | refine ⟨?_, ?_⟩ | exact .v | exact .any | refine .elem ?_ | exact lst_low _ _ | exact cells_low _ _ | exact val_low _ _ | exact data_low _ (by (try dsimp only); omega) | exact .box (by (try dsimp only); omega) | exact nil_low | exact low_nil | exact zlist_low _ | refine set_low ?_ ?_ | exact .arr (by (try dsimp only); omega) | exact .own (by (try dsimp only); omega) | exact .map (by (try dsimp only); omega) | exact flatC_low _ | refine low_cons ?_ ?_ | exact lst_low _ _))))
            · rintro ⟨w, a2, b2, la2, lb2, va2, vb2⟩ hJ
              dsimp only at hJ ⊢
              refine aw_seq_k fun K22 hK22 => ?_
              refine aw_seq_k fun K23 hK23 => ?_
              refine aw_region ?_
              refine aops_n rfl (n_mv rfl (by constructor)) ?_
              refine aops_n rfl (n_mv rfl (by constructor)) ?_
              refine aops_n rfl (n_mv rfl (by constructor)) ?_
              try dsimp only [St.put]
              refine aops_n rfl (n_indexAddr rfl rfl rfl rfl (map_get (by assumption)) (Enc.len _)) ?_
              refine aops_n rfl (n_fieldAddr' rfl rfl rfl) ?_
              try dsimp only [St.put]
              refine aops_s rfl (s_load rfl rfl) ?_
              refine aops_n rfl (n_lss rfl rfl rfl) ?_
              refine aops_split (fun hs => ?_) (fun hs => ?_)
              · have h166 := of_decide_eq_true hs
                refine aops_n rfl (n_mv rfl (by constructor)) ?_
                refine aops_n rfl (n_mv rfl (by constructor)) ?_
                refine aops_n rfl (n_mv rfl (by constructor)) ?_
                try dsimp only [St.put]
                refine aops_n rfl (n_indexAddr rfl rfl rfl rfl (map_get (by assumption)) (Enc.len _)) ?_
                refine aops_n rfl (n_fieldAddr' rfl rfl rfl) ?_
                try dsimp only [St.put]
                refine aops_s rfl (s_load rfl rfl) ?_
                refine aops_n rfl (n_gtr rfl rfl rfl) ?_
                refine aops_n rfl (n_pt rfl rfl (by constructor)) ?_
                refine aops_nil ?_
                dsimp only [St.put]
                refine hK23 _ ?_
                refine aw_cond rfl (fun hc => ?_) (fun hc => ?_)
                · have hau : r.au ≠ 0 := by have := of_decide_eq_true hc; omega
                  have has := row_as he (mem_of_get hr) hau
                  have hzr : rfV (asOf e.ss) ⟨r.ch, r.ln, (w : Int)⟩ = ⟨r.au, r.nu, (w : Int) + 1⟩ := by simp [rfV, has]
                  refine aw_skip ?_
                  refine hK22 _ ?_
                  refine aw_seq_k fun K24 hK24 => ?_
                  refine aw_block ?_
                  refine aw_seq_k fun K25 hK25 => ?_
                  refine aw_draw [(0, none), (1, none), (2, none), (3, none), (4, none), (5, none), (6, none), (7, none), (8, none), (9, none), (10, none), (11, none), (12, none), (13, none), (14, none), (15, none), (16, none), (17, none), (18, none), (19, none), (20, none), (21, none), (22, none), (23, none), (24, none), (25, some 26), (27, none), (28, none)] (fun i => [28].contains i) (fun i => [25, 26, 27, 28].contains i) (fun i => [0, 1, 2, 3, 5, 6, 7, 8, 10, 11, 12, 13, 14, 15, 16, 18, 19, 20, 21, 23, 24].contains i) [] (by kernel_rfl) (by kernel_rfl) ?_
                  refine acan1_n rfl rfl rfl rfl (n_mv rfl (by constructor)) ?_
                  refine acan1_n rfl rfl rfl rfl (n_mv rfl (by constructor)) ?_
                  try dsimp only [St.put]
                  refine acan1_n rfl rfl rfl rfl (n_indexAddr rfl rfl rfl rfl (map_get (by assumption)) (Enc.len _)) ?_
                  refine acan1_n rfl rfl rfl rfl (n_fieldAddr' rfl rfl rfl) ?_
                  try dsimp only [St.put]
                  refine acan1_s rfl rfl rfl rfl (s_load rfl rfl) ?_
                  refine acan1_n rfl rfl rfl rfl (n_mv rfl (by constructor)) ?_
                  refine acan1_n rfl rfl rfl rfl (n_mv rfl (by constructor)) ?_
                  try dsimp only [St.put]
                  refine acan1_n rfl rfl rfl rfl (n_indexAddr rfl rfl rfl rfl (map_get (by assumption)) (Enc.len _)) ?_
                  refine acan1_n rfl rfl rfl rfl (n_fieldAddr' rfl rfl rfl) ?_
                  try dsimp only [St.put]
                  refine acan1_s rfl rfl rfl rfl (s_load rfl rfl) ?_
                  refine acan1_n rfl rfl rfl rfl (n_mv rfl (by constructor)) ?_
                  refine acan1_n rfl rfl rfl rfl (n_add rfl rfl rfl (by omega)) ?_
                  refine acan1_n rfl rfl rfl rfl (n_build rfl rfl) ?_
                  refine acan1_n rfl rfl rfl rfl (n_mv rfl (by constructor)) ?_
                  refine acan1_n rfl rfl rfl rfl (n_mv rfl (by constructor)) ?_
                  try dsimp only [St.put]
                  refine acan1_n rfl rfl rfl rfl (n_indexAddr rfl rfl rfl rfl (map_get (by assumption)) (Enc.len _)) ?_
                  refine acan1_n rfl rfl rfl rfl (n_fieldAddr' rfl rfl rfl) ?_
                  try dsimp only [St.put]
                  refine acan1_s rfl rfl rfl rfl (s_load rfl rfl) ?_
                  refine acan1_n rfl rfl rfl rfl (n_mv rfl (by constructor)) ?_
                  refine acan1_n rfl rfl rfl rfl (n_mv rfl (by constructor)) ?_
                  try dsimp only [St.put]
                  refine acan1_n rfl rfl rfl rfl (n_indexAddr rfl rfl rfl rfl (map_get (by assumption)) (Enc.len _)) ?_
                  refine acan1_n rfl rfl rfl rfl (n_fieldAddr' rfl rfl rfl) ?_
                  try dsimp only [St.put]
                  refine acan1_s rfl rfl rfl rfl (s_load rfl rfl) ?_
                  refine acan1_n rfl rfl rfl rfl (n_mv rfl (by constructor)) ?_
                  refine acan1_n rfl rfl rfl rfl (n_build rfl rfl) ?_
                  refine acan1_two ?_
                  refine acan2_allocs rfl rfl rfl rfl rfl rfl rfl rfl (by decide) (by simp) ?_
                  try dsimp only [St.put]
                  refine acan2_e rfl rfl rfl (e_store_all rfl rfl rfl zG rfl rfl (by rfl) ⟨zD, ?_⟩)
                  try dsimp only [St.put]
                  refine acan2_late rfl rfl rfl rfl (e_store_all rfl rfl rfl zG rfl rfl (by rfl) ?_)
                  refine acan2_nil ?_
                  dsimp only [St.put]
                  refine hK25 _ ?_
                  refine aw_commitD (i := 18) rfl zG (by first | exact List.cons_ne_nil _ _ | (simp; done) | (simp [putAt]; done)) ?_
                  refine aw_commitD (i := 19) rfl zG (by first | exact List.cons_ne_nil _ _ | (simp; done) | (simp [putAt]; done)) ?_
                  dsimp only
                  refine aw_wipe 21 ?_
                  simp only [firsts, getA, Nat.reduceAdd, List.getD_cons_zero, List.getD_cons_succ, List.getD_nil, natBeq, Nat.reduceBEq, cond_true, cond_false]
                  refine aw_cutD (X := Option PlaceD × RefD × Nat) (fun x => CloseH (wordsP t (asOf e.ss) ((linesT t).take i) ++ lineN (r.ch, r.ln) w) ⟨r.ch, r.ln, (w : Int)⟩ (asOf e.ss) rr x.1 b2 x.2.1 lb2) (fun x => [(14, .list (x.1.toList.map cells) .zero)]) (fun x G' => (setG (setG G (nx + 1) (.box x.2.2 (cells x.2.1))) (nx + 1 + 1) (.box vb2 (cells lb2)))) rfl ?_ ?_ ?_ ?_
                  · rintro ⟨a3, la3, va3⟩ hI
                    exact (by (try dsimp only); repeat' (first | exact trivial | refine ⟨?_, ?_⟩ | exact .v | exact .any | refine .elem ?_ | exact lst_low _ _ | exact cells_low _ _ | exact val_low _ _ | exact data_low _ (by (try dsimp only); omega) | exact .box (by (try dsimp only); omega) | exact nil_low | exact low_nil | exact zlist_low _ | refine set_low ?_ ?_ | exact .arr (by (try dsimp only); omega) | exact .own (by (try dsimp only); omega) | exact .map (by (try dsimp only); omega) | exact flatC_low _ | refine low_cons ?_ ?_ | exact lst_low _ _))
                  · rintro ⟨a3, la3, va3⟩ hI
                    exact (by (repeat' (refine lowG_set ?_ (by (try dsimp only); omega) ?_)); all_goals (first | exact lowG_base zS | (repeat' (first | exact trivial | refine ⟨?_, ?_⟩ | exact .v | exact .any | refine .elem ?_ | exact lst_low _ _ | exact cells_low _ _ | exact val_low _ _ | exact data_low _ (by (try dsimp only); omega) | exact .box (by (try dsimp only); omega) | exact nil_low | exact low_nil | exact zlist_low _ | refine set_low ?_ ?_ | exact .arr (by (try dsimp only); omega) | exact .own (by (try dsimp only); omega) | exact .map (by (try dsimp only); omega) | exact flatC_low _ | refine low_cons ?_ ?_ | exact lst_low _ _))))
                  · refine aw_seq_k fun K27 hK27 => ?_
                    refine aw_region ?_
                    try dsimp only [St.put]
                    refine aops_s rfl (s_load_agg' rfl rfl rfl) ?_
                    try dsimp only [St.put]
                    refine aops_s rfl (s_load_agg' rfl rfl (Enc.len _)) ?_
                    try dsimp only [St.put]
                    refine aops_e rfl (e_call_pure rfl rfl rfl (Less_pure ⟨r.au, r.nu, (w : Int) + 1⟩ rr) ?_)
                    refine aops_split (fun hs => ?_) (fun hs => ?_)
                    · have h192 := of_decide_eq_true hs
                      refine aops_n rfl (n_mv rfl (by constructor)) ?_
                      refine aops_n rfl (n_mv rfl (by constructor)) ?_
                      refine aops_n rfl (n_len' rfl rfl (List.length_map _)) ?_
                      refine aops_n rfl (n_eql rfl rfl rfl) ?_
                      refine aops_split (fun hs => ?_) (fun hs => ?_)
                      · have h196 : a2 = none := by cases a2 with | none => rfl | some w => simp at hs
                        refine aops_n rfl (n_mv rfl (by constructor)) ?_
                        refine aops_skip rfl ?_
                        refine aops_skip rfl ?_
                        refine aops_skip rfl ?_
                        refine aops_n rfl (n_pt rfl rfl (by constructor)) ?_
                        refine aops_n rfl (n_pt rfl rfl (by constructor)) ?_
                        refine aops_nil ?_
                        dsimp only [St.put]
                        refine hK27 _ ?_
                        refine aw_cond rfl (fun _ => ?_) (fun h => by cases h)
                        have hH := closeH_new hJ.2.2 hzr h192 (by first | exact .inl h196 | exact .inr (of_decide_eq_true hc))
                        refine aw_drawT [(0, none), (1, none)] (fun _ => false) (fun i => [].contains i) 3 [true, true, false, false, false] (by kernel_rfl) (by kernel_rfl) ?_
                        try dsimp only [St.put]
                        refine acan1_s rfl rfl rfl rfl (s_load_agg' rfl rfl rfl) ?_
                        try dsimp only [St.put]
                        refine acan1_s rfl rfl rfl rfl (s_load_agg' rfl rfl rfl) ?_
                        refine acan1_nil ?_
                        refine aany_step [2, 3] (by kernel_rfl) (by simp) ?_
                        refine aeach_cons ?_ ?_
                        · try dsimp only [St.put]
                          refine aone_e rfl rfl rfl (e_buildSliceZ rfl rfl rfl (by decide) (by decide) zR (by decide) ?_)
                          refine aany_step [3] (by kernel_rfl) (by simp) ?_
                          refine aeach_cons ?_ ?_
                          · try dsimp only [St.put]
                            refine aone_e rfl rfl rfl (e_store_all rfl rfl rfl zG rfl rfl (by rfl) ?_)
                            refine aany_quiet [(4, none)] (fun i => [4].contains i) 0 [true, true, true, true, true] (by kernel_rfl) ?_
                            refine acan1_n rfl rfl rfl rfl (n_as rfl (by constructor)) ?_
                            refine acan1_nil ?_
                            dsimp only [St.put]
                            refine aany_nil (by kernel_rfl) ?_
                            first
                              | exact ⟨(some ⟨r.ch, r.ln, (w : Int)⟩, ⟨r.au, r.nu, (w : Int) + 1⟩, va2 + 1), hH, ⟨⟨rfl, rfl⟩, zF, zB, zN, zX⟩⟩
                              | exact ⟨(a2, la2, va2), hH, ⟨⟨rfl, rfl⟩, zF, zB, zN, zX⟩⟩
                          exact aeach_nil
                        refine aeach_cons ?_ ?_
                        · try dsimp only [St.put]
                          refine aone_e rfl rfl rfl (e_store_all rfl rfl rfl zG rfl rfl (by rfl) ?_)
                          refine aany_step [2] (by kernel_rfl) (by simp) ?_
                          refine aeach_cons ?_ ?_
                          · try dsimp only [St.put]
                            refine aone_e rfl rfl rfl (e_buildSliceZ rfl rfl rfl (by decide) (by decide) zR (by decide) ?_)
                            refine aany_quiet [(4, none)] (fun i => [4].contains i) 0 [true, true, true, true, true] (by kernel_rfl) ?_
                            refine acan1_n rfl rfl rfl rfl (n_as rfl (by constructor)) ?_
                            refine acan1_nil ?_
                            dsimp only [St.put]
                            refine aany_nil (by kernel_rfl) ?_
                            first
                              | exact ⟨(some ⟨r.ch, r.ln, (w : Int)⟩, ⟨r.au, r.nu, (w : Int) + 1⟩, va2 + 1), hH, ⟨⟨rfl, rfl⟩, zF, zB, zN, zX⟩⟩
                              | exact ⟨(a2, la2, va2), hH, ⟨⟨rfl, rfl⟩, zF, zB, zN, zX⟩⟩
                          exact aeach_nil
                        exact aeach_nil
                      · have h196 : a2 ≠ none := fun e => by subst e; simp at hs
                        refine aops_n rfl (n_mv rfl (by constructor)) ?_
                        try dsimp only [St.put]
                        refine aops_s rfl (s_load_box_all rfl rfl zG trivial (by rfl)) ?_
                        try dsimp only [St.put]
                        refine aops_s rfl (s_load_agg' rfl rfl rfl) ?_
                        try dsimp only [St.put]
                        refine aops_e rfl (e_call_pure rfl rfl rfl (Less_pure la2 ⟨r.au, r.nu, (w : Int) + 1⟩) ?_)
                        refine aops_n rfl (n_pf rfl rfl (by constructor)) ?_
                        refine aops_n rfl (n_pt rfl rfl (by constructor)) ?_
                        refine aops_nil ?_
                        dsimp only [St.put]
                        refine hK27 _ ?_
                        refine aw_cond rfl (fun hc => ?_) (fun hc => ?_)
                        · have hH := closeH_new hJ.2.2 hzr h192 (by first | exact .inl h196 | exact .inr (of_decide_eq_true hc))
                          refine aw_drawT [(0, none), (1, none)] (fun _ => false) (fun i => [].contains i) 3 [true, true, false, false, false] (by kernel_rfl) (by kernel_rfl) ?_
                          try dsimp only [St.put]
                          refine acan1_s rfl rfl rfl rfl (s_load_agg' rfl rfl rfl) ?_
                          try dsimp only [St.put]
                          refine acan1_s rfl rfl rfl rfl (s_load_agg' rfl rfl rfl) ?_
                          refine acan1_nil ?_
                          refine aany_step [2, 3] (by kernel_rfl) (by simp) ?_
                          refine aeach_cons ?_ ?_
                          · try dsimp only [St.put]
                            refine aone_e rfl rfl rfl (e_buildSliceZ rfl rfl rfl (by decide) (by decide) zR (by decide) ?_)
                            refine aany_step [3] (by kernel_rfl) (by simp) ?_
                            refine aeach_cons ?_ ?_
                            · try dsimp only [St.put]
                              refine aone_e rfl rfl rfl (e_store_all rfl rfl rfl zG rfl rfl (by rfl) ?_)
                              refine aany_quiet [(4, none)] (fun i => [4].contains i) 0 [true, true, true, true, true] (by kernel_rfl) ?_
                              refine acan1_n rfl rfl rfl rfl (n_as rfl (by constructor)) ?_
                              refine acan1_nil ?_
                              dsimp only [St.put]
                              refine aany_nil (by kernel_rfl) ?_
                              first
                                | exact ⟨(some ⟨r.ch, r.ln, (w : Int)⟩, ⟨r.au, r.nu, (w : Int) + 1⟩, va2 + 1), hH, ⟨⟨rfl, rfl⟩, zF, zB, zN, zX⟩⟩
                                | exact ⟨(a2, la2, va2), hH, ⟨⟨rfl, rfl⟩, zF, zB, zN, zX⟩⟩
                            exact aeach_nil
                          refine aeach_cons ?_ ?_
                          · try dsimp only [St.put]
                            refine aone_e rfl rfl rfl (e_store_all rfl rfl rfl zG rfl rfl (by rfl) ?_)
                            refine aany_step [2] (by kernel_rfl) (by simp) ?_
                            refine aeach_cons ?_ ?_
                            · try dsimp only [St.put]
                              refine aone_e rfl rfl rfl (e_buildSliceZ rfl rfl rfl (by decide) (by decide) zR (by decide) ?_)
                              refine aany_quiet [(4, none)] (fun i => [4].contains i) 0 [true, true, true, true, true] (by kernel_rfl) ?_
                              refine acan1_n rfl rfl rfl rfl (n_as rfl (by constructor)) ?_
                              refine acan1_nil ?_
                              dsimp only [St.put]
                              refine aany_nil (by kernel_rfl) ?_
                              first
                                | exact ⟨(some ⟨r.ch, r.ln, (w : Int)⟩, ⟨r.au, r.nu, (w : Int) + 1⟩, va2 + 1), hH, ⟨⟨rfl, rfl⟩, zF, zB, zN, zX⟩⟩
                                | exact ⟨(a2, la2, va2), hH, ⟨⟨rfl, rfl⟩, zF, zB, zN, zX⟩⟩
                            exact aeach_nil
                          exact aeach_nil
                        · have hH := closeH_old hJ.2.2 hzr (by
                            first
                            | exact fun h => absurd h.1 h192
                            | exact fun h => by
                                rcases h.2 with h9 | h9
                                · exact absurd h9 h196
                                · exact absurd h9 (of_decide_eq_false hc))
                          refine aw_skip ?_
                          first
                            | exact ⟨(some ⟨r.ch, r.ln, (w : Int)⟩, ⟨r.au, r.nu, (w : Int) + 1⟩, va2 + 1), hH, ⟨⟨rfl, rfl⟩, zF, zB, zN, zX⟩⟩
                            | exact ⟨(a2, la2, va2), hH, ⟨⟨rfl, rfl⟩, zF, zB, zN, zX⟩⟩
                    · have h192 := of_decide_eq_false hs
                      refine aops_n rfl (n_mv rfl (by constructor)) ?_
                      refine aops_skip rfl ?_
                      refine aops_skip rfl ?_
                      refine aops_skip rfl ?_
                      refine aops_skip rfl ?_
                      refine aops_skip rfl ?_
                      refine aops_skip rfl ?_
                      refine aops_skip rfl ?_
                      refine aops_skip rfl ?_
                      refine aops_n rfl (n_pf rfl rfl (by constructor)) ?_
                      refine aops_nil ?_
                      dsimp only [St.put]
                      refine hK27 _ ?_
                      refine aw_cond rfl (fun h => by cases h) (fun _ => ?_)
                      have hH := closeH_old hJ.2.2 hzr (by
                        first
                        | exact fun h => absurd h.1 h192
                        | exact fun h => by
                            rcases h.2 with h9 | h9
                            · exact absurd h9 h196
                            · exact absurd h9 (of_decide_eq_false hc))
                      refine aw_skip ?_
                      first
                        | exact ⟨(some ⟨r.ch, r.ln, (w : Int)⟩, ⟨r.au, r.nu, (w : Int) + 1⟩, va2 + 1), hH, ⟨⟨rfl, rfl⟩, zF, zB, zN, zX⟩⟩
                        | exact ⟨(a2, la2, va2), hH, ⟨⟨rfl, rfl⟩, zF, zB, zN, zX⟩⟩
                  · rintro ⟨a3, la3, va3⟩ hH2
                    dsimp only at hH2 ⊢
                    refine aw_seq_k fun K28 hK28 => ?_
                    refine aw_region ?_
                    try dsimp only [St.put]
                    refine aops_s rfl (s_load_agg' rfl rfl (Enc.len _)) ?_
                    try dsimp only [St.put]
                    refine aops_s rfl (s_load_agg' rfl rfl rfl) ?_
                    try dsimp only [St.put]
                    refine aops_e rfl (e_call_pure rfl rfl rfl (Less_pure rr ⟨r.au, r.nu, (w : Int) + 1⟩) ?_)
                    refine aops_split (fun hs => ?_) (fun hs => ?_)
                    · have h212 := of_decide_eq_true hs
                      refine aops_n rfl (n_mv rfl (by constructor)) ?_
                      refine aops_n rfl (n_mv rfl (by constructor)) ?_
                      refine aops_n rfl (n_len' rfl rfl (List.length_map _)) ?_
                      refine aops_n rfl (n_eql rfl rfl rfl) ?_
                      refine aops_split (fun hs => ?_) (fun hs => ?_)
                      · have h216 : b2 = none := by cases b2 with | none => rfl | some w => simp at hs
                        refine aops_n rfl (n_mv rfl (by constructor)) ?_
                        refine aops_skip rfl ?_
                        refine aops_skip rfl ?_
                        refine aops_skip rfl ?_
                        refine aops_n rfl (n_pt rfl rfl (by constructor)) ?_
                        refine aops_n rfl (n_pt rfl rfl (by constructor)) ?_
                        refine aops_nil ?_
                        dsimp only [St.put]
                        refine hK28 _ ?_
                        refine aw_cond rfl (fun _ => ?_) (fun h => by cases h)
                        have hfin2 := closeI_new hH2 hzr h212 (by first | exact .inl h216 | exact .inr (of_decide_eq_true hc))
                        refine aw_drawT [(0, none), (1, none)] (fun _ => false) (fun i => [].contains i) 3 [true, true, false, false, false] (by kernel_rfl) (by kernel_rfl) ?_
                        try dsimp only [St.put]
                        refine acan1_s rfl rfl rfl rfl (s_load_agg' rfl rfl rfl) ?_
                        try dsimp only [St.put]
                        refine acan1_s rfl rfl rfl rfl (s_load_agg' rfl rfl rfl) ?_
                        refine acan1_nil ?_
                        refine aany_step [2, 3] (by kernel_rfl) (by simp) ?_
                        refine aeach_cons ?_ ?_
                        · try dsimp only [St.put]
                          refine aone_e rfl rfl rfl (e_buildSliceZ rfl rfl rfl (by decide) (by decide) zR (by decide) ?_)
                          refine aany_step [3] (by kernel_rfl) (by simp) ?_
                          refine aeach_cons ?_ ?_
                          · try dsimp only [St.put]
                            refine aone_e rfl rfl rfl (e_store_all rfl rfl rfl zG rfl rfl (by rfl) ?_)
                            refine aany_quiet [(4, none)] (fun i => [4].contains i) 0 [true, true, true, true, true] (by kernel_rfl) ?_
                            refine acan1_n rfl rfl rfl rfl (n_as rfl (by constructor)) ?_
                            refine acan1_nil ?_
                            dsimp only [St.put]
                            refine aany_nil (by kernel_rfl) ?_
                            refine hK24 _ ?_
                            refine aw_region ?_
                            refine aops_n rfl (n_mv rfl (by constructor)) ?_
                            refine aops_n rfl (n_add rfl rfl rfl (by omega)) ?_
                            refine aops_n rfl (n_as rfl (by constructor)) ?_
                            refine aops_nil ?_
                            dsimp only [St.put]
                            first
                              | exact ⟨(w + 1, a3, some ⟨r.ch, r.ln, (w : Int)⟩, la3, ⟨r.au, r.nu, w + 1⟩, va3, vb2 + 1), by (dsimp only; omega), ⟨by (dsimp only; omega), .inr hau, by rw [lineN_succ, ← List.append_assoc]; exact hfin2⟩, ⟨⟨rfl, rfl⟩, zF, zB, zN, zX⟩⟩
                              | exact ⟨(w + 1, a3, b2, la3, lb2, va3, vb2), by (dsimp only; omega), ⟨by (dsimp only; omega), .inr hau, by rw [lineN_succ, ← List.append_assoc]; exact hfin2⟩, ⟨⟨rfl, rfl⟩, zF, zB, zN, zX⟩⟩
                          exact aeach_nil
                        refine aeach_cons ?_ ?_
                        · try dsimp only [St.put]
                          refine aone_e rfl rfl rfl (e_store_all rfl rfl rfl zG rfl rfl (by rfl) ?_)
                          refine aany_step [2] (by kernel_rfl) (by simp) ?_
                          refine aeach_cons ?_ ?_
                          · try dsimp only [St.put]
                            refine aone_e rfl rfl rfl (e_buildSliceZ rfl rfl rfl (by decide) (by decide) zR (by decide) ?_)
                            refine aany_quiet [(4, none)] (fun i => [4].contains i) 0 [true, true, true, true, true] (by kernel_rfl) ?_
                            refine acan1_n rfl rfl rfl rfl (n_as rfl (by constructor)) ?_
                            refine acan1_nil ?_
                            dsimp only [St.put]
                            refine aany_nil (by kernel_rfl) ?_
                            refine hK24 _ ?_
                            refine aw_region ?_
                            refine aops_n rfl (n_mv rfl (by constructor)) ?_
                            refine aops_n rfl (n_add rfl rfl rfl (by omega)) ?_
                            refine aops_n rfl (n_as rfl (by constructor)) ?_
                            refine aops_nil ?_
                            dsimp only [St.put]
                            first
                              | exact ⟨(w + 1, a3, some ⟨r.ch, r.ln, (w : Int)⟩, la3, ⟨r.au, r.nu, w + 1⟩, va3, vb2 + 1), by (dsimp only; omega), ⟨by (dsimp only; omega), .inr hau, by rw [lineN_succ, ← List.append_assoc]; exact hfin2⟩, ⟨⟨rfl, rfl⟩, zF, zB, zN, zX⟩⟩
                              | exact ⟨(w + 1, a3, b2, la3, lb2, va3, vb2), by (dsimp only; omega), ⟨by (dsimp only; omega), .inr hau, by rw [lineN_succ, ← List.append_assoc]; exact hfin2⟩, ⟨⟨rfl, rfl⟩, zF, zB, zN, zX⟩⟩
                          exact aeach_nil
                        exact aeach_nil
                      · have h216 : b2 ≠ none := fun e => by subst e; simp at hs
                        refine aops_n rfl (n_mv rfl (by constructor)) ?_
                        try dsimp only [St.put]
                        refine aops_s rfl (s_load_agg' rfl rfl rfl) ?_
                        try dsimp only [St.put]
                        refine aops_s rfl (s_load_box_all rfl rfl zG trivial (by rfl)) ?_
                        try dsimp only [St.put]
                        refine aops_e rfl (e_call_pure rfl rfl rfl (Less_pure ⟨r.au, r.nu, (w : Int) + 1⟩ lb2) ?_)
                        refine aops_n rfl (n_pf rfl rfl (by constructor)) ?_
                        refine aops_n rfl (n_pt rfl rfl (by constructor)) ?_
                        refine aops_nil ?_
                        dsimp only [St.put]
                        refine hK28 _ ?_
                        refine aw_cond rfl (fun hc => ?_) (fun hc => ?_)
                        · have hfin2 := closeI_new hH2 hzr h212 (by first | exact .inl h216 | exact .inr (of_decide_eq_true hc))
                          refine aw_drawT [(0, none), (1, none)] (fun _ => false) (fun i => [].contains i) 3 [true, true, false, false, false] (by kernel_rfl) (by kernel_rfl) ?_
                          try dsimp only [St.put]
                          refine acan1_s rfl rfl rfl rfl (s_load_agg' rfl rfl rfl) ?_
                          try dsimp only [St.put]
                          refine acan1_s rfl rfl rfl rfl (s_load_agg' rfl rfl rfl) ?_
                          refine acan1_nil ?_
                          refine aany_step [2, 3] (by kernel_rfl) (by simp) ?_
                          refine aeach_cons ?_ ?_
                          · try dsimp only [St.put]
                            refine aone_e rfl rfl rfl (e_buildSliceZ rfl rfl rfl (by decide) (by decide) zR (by decide) ?_)
                            refine aany_step [3] (by kernel_rfl) (by simp) ?_
                            refine aeach_cons ?_ ?_
                            · try dsimp only [St.put]
                              refine aone_e rfl rfl rfl (e_store_all rfl rfl rfl zG rfl rfl (by rfl) ?_)
                              refine aany_quiet [(4, none)] (fun i => [4].contains i) 0 [true, true, true, true, true] (by kernel_rfl) ?_
                              refine acan1_n rfl rfl rfl rfl (n_as rfl (by constructor)) ?_
                              refine acan1_nil ?_
                              dsimp only [St.put]
                              refine aany_nil (by kernel_rfl) ?_
                              refine hK24 _ ?_
                              refine aw_region ?_
                              refine aops_n rfl (n_mv rfl (by constructor)) ?_
                              refine aops_n rfl (n_add rfl rfl rfl (by omega)) ?_
                              refine aops_n rfl (n_as rfl (by constructor)) ?_
                              refine aops_nil ?_
                              dsimp only [St.put]
                              first
                                | exact ⟨(w + 1, a3, some ⟨r.ch, r.ln, (w : Int)⟩, la3, ⟨r.au, r.nu, w + 1⟩, va3, vb2 + 1), by (dsimp only; omega), ⟨by (dsimp only; omega), .inr hau, by rw [lineN_succ, ← List.append_assoc]; exact hfin2⟩, ⟨⟨rfl, rfl⟩, zF, zB, zN, zX⟩⟩
                                | exact ⟨(w + 1, a3, b2, la3, lb2, va3, vb2), by (dsimp only; omega), ⟨by (dsimp only; omega), .inr hau, by rw [lineN_succ, ← List.append_assoc]; exact hfin2⟩, ⟨⟨rfl, rfl⟩, zF, zB, zN, zX⟩⟩
                            exact aeach_nil
                          refine aeach_cons ?_ ?_
                          · try dsimp only [St.put]
                            refine aone_e rfl rfl rfl (e_store_all rfl rfl rfl zG rfl rfl (by rfl) ?_)
                            refine aany_step [2] (by kernel_rfl) (by simp) ?_
                            refine aeach_cons ?_ ?_
                            · try dsimp only [St.put]
                              refine aone_e rfl rfl rfl (e_buildSliceZ rfl rfl rfl (by decide) (by decide) zR (by decide) ?_)
                              refine aany_quiet [(4, none)] (fun i => [4].contains i) 0 [true, true, true, true, true] (by kernel_rfl) ?_
                              refine acan1_n rfl rfl rfl rfl (n_as rfl (by constructor)) ?_
                              refine acan1_nil ?_
                              dsimp only [St.put]
                              refine aany_nil (by kernel_rfl) ?_
                              refine hK24 _ ?_
                              refine aw_region ?_
                              refine aops_n rfl (n_mv rfl (by constructor)) ?_
                              refine aops_n rfl (n_add rfl rfl rfl (by omega)) ?_
                              refine aops_n rfl (n_as rfl (by constructor)) ?_
                              refine aops_nil ?_
                              dsimp only [St.put]
                              first
                                | exact ⟨(w + 1, a3, some ⟨r.ch, r.ln, (w : Int)⟩, la3, ⟨r.au, r.nu, w + 1⟩, va3, vb2 + 1), by (dsimp only; omega), ⟨by (dsimp only; omega), .inr hau, by rw [lineN_succ, ← List.append_assoc]; exact hfin2⟩, ⟨⟨rfl, rfl⟩, zF, zB, zN, zX⟩⟩
                                | exact ⟨(w + 1, a3, b2, la3, lb2, va3, vb2), by (dsimp only; omega), ⟨by (dsimp only; omega), .inr hau, by rw [lineN_succ, ← List.append_assoc]; exact hfin2⟩, ⟨⟨rfl, rfl⟩, zF, zB, zN, zX⟩⟩
                            exact aeach_nil
                          exact aeach_nil
                        · have hfin2 := closeI_old hH2 hzr (by
                            first
                            | exact fun h => absurd h.1 h212
                            | exact fun h => by
                                rcases h.2 with h9 | h9
                                · exact absurd h9 h216
                                · exact absurd h9 (of_decide_eq_false hc))
                          refine aw_skip ?_
                          refine hK24 _ ?_
                          refine aw_region ?_
                          refine aops_n rfl (n_mv rfl (by constructor)) ?_
                          refine aops_n rfl (n_add rfl rfl rfl (by omega)) ?_
                          refine aops_n rfl (n_as rfl (by constructor)) ?_
                          refine aops_nil ?_
                          dsimp only [St.put]
                          first
                            | exact ⟨(w + 1, a3, some ⟨r.ch, r.ln, (w : Int)⟩, la3, ⟨r.au, r.nu, w + 1⟩, va3, vb2 + 1), by (dsimp only; omega), ⟨by (dsimp only; omega), .inr hau, by rw [lineN_succ, ← List.append_assoc]; exact hfin2⟩, ⟨⟨rfl, rfl⟩, zF, zB, zN, zX⟩⟩
                            | exact ⟨(w + 1, a3, b2, la3, lb2, va3, vb2), by (dsimp only; omega), ⟨by (dsimp only; omega), .inr hau, by rw [lineN_succ, ← List.append_assoc]; exact hfin2⟩, ⟨⟨rfl, rfl⟩, zF, zB, zN, zX⟩⟩
                    · have h212 := of_decide_eq_false hs
                      refine aops_n rfl (n_mv rfl (by constructor)) ?_
                      refine aops_skip rfl ?_
                      refine aops_skip rfl ?_
                      refine aops_skip rfl ?_
                      refine aops_skip rfl ?_
                      refine aops_skip rfl ?_
                      refine aops_skip rfl ?_
                      refine aops_skip rfl ?_
                      refine aops_skip rfl ?_
                      refine aops_n rfl (n_pf rfl rfl (by constructor)) ?_
                      refine aops_nil ?_
                      dsimp only [St.put]
                      refine hK28 _ ?_
                      refine aw_cond rfl (fun h => by cases h) (fun _ => ?_)
                      have hfin2 := closeI_old hH2 hzr (by
                        first
                        | exact fun h => absurd h.1 h212
                        | exact fun h => by
                            rcases h.2 with h9 | h9
                            · exact absurd h9 h216
                            · exact absurd h9 (of_decide_eq_false hc))
                      refine aw_skip ?_
                      refine hK24 _ ?_
                      refine aw_region ?_
                      refine aops_n rfl (n_mv rfl (by constructor)) ?_
                      refine aops_n rfl (n_add rfl rfl rfl (by omega)) ?_
                      refine aops_n rfl (n_as rfl (by constructor)) ?_
                      refine aops_nil ?_
                      dsimp only [St.put]
                      first
                        | exact ⟨(w + 1, a3, some ⟨r.ch, r.ln, (w : Int)⟩, la3, ⟨r.au, r.nu, w + 1⟩, va3, vb2 + 1), by (dsimp only; omega), ⟨by (dsimp only; omega), .inr hau, by rw [lineN_succ, ← List.append_assoc]; exact hfin2⟩, ⟨⟨rfl, rfl⟩, zF, zB, zN, zX⟩⟩
                        | exact ⟨(w + 1, a3, b2, la3, lb2, va3, vb2), by (dsimp only; omega), ⟨by (dsimp only; omega), .inr hau, by rw [lineN_succ, ← List.append_assoc]; exact hfin2⟩, ⟨⟨rfl, rfl⟩, zF, zB, zN, zX⟩⟩
                · have hfin : CloseI (wordsP t (asOf e.ss) ((linesT t).take (i + 1))) (asOf e.ss) rr a2 b2 la2 lb2 := by
                    rw [words_row he hr]
                    first
                    | (have hau : r.au ≠ 0 := by rcases hJ.2.1 with h9 | h9 <;> omega
                       have hww : w = r.ws.toNat := by omega
                       rw [decide_eq_false hau, cond_false, ← hww]
                       exact hJ.2.2)
                    | (have hau : r.au = 0 := by have := of_decide_eq_false hc; omega
                       have hw0 : w = 0 := by rcases hJ.2.1 with h9 | h9 <;> omega
                       subst hw0
                       rw [decide_eq_true hau, cond_true]
                       exact hJ.2.2)
                  refine aw_exit ?_
                  refine hK20 _ ?_
                  refine aw_region ?_
                  refine aops_n rfl (n_mv rfl (by constructor)) ?_
                  refine aops_n rfl (n_add rfl rfl rfl (by omega)) ?_
                  refine aops_n rfl (n_as rfl (by constructor)) ?_
                  refine aops_nil ?_
                  dsimp only [St.put]
                  exact ⟨(i + 1, a2, b2, la2, lb2, va2, vb2), by (dsimp only; omega), ⟨by (dsimp only; omega), hfin⟩, ⟨⟨rfl, rfl⟩, zF, zB, zN, zX⟩⟩
              · have h166 := of_decide_eq_false hs
                refine aops_n rfl (n_mv rfl (by constructor)) ?_
                refine aops_skip rfl ?_
                refine aops_skip rfl ?_
                refine aops_skip rfl ?_
                refine aops_skip rfl ?_
                refine aops_skip rfl ?_
                refine aops_skip rfl ?_
                refine aops_n rfl (n_pf rfl rfl (by constructor)) ?_
                refine aops_nil ?_
                dsimp only [St.put]
                refine hK23 _ ?_
                refine aw_cond rfl (fun h => by cases h) (fun _ => ?_)
                have hfin : CloseI (wordsP t (asOf e.ss) ((linesT t).take (i + 1))) (asOf e.ss) rr a2 b2 la2 lb2 := by
                  rw [words_row he hr]
                  first
                  | (have hau : r.au ≠ 0 := by rcases hJ.2.1 with h9 | h9 <;> omega
                     have hww : w = r.ws.toNat := by omega
                     rw [decide_eq_false hau, cond_false, ← hww]
                     exact hJ.2.2)
                  | (have hau : r.au = 0 := by have := of_decide_eq_false hc; omega
                     have hw0 : w = 0 := by rcases hJ.2.1 with h9 | h9 <;> omega
                     subst hw0
                     rw [decide_eq_true hau, cond_true]
                     exact hJ.2.2)
                refine aw_exit ?_
                refine hK20 _ ?_
                refine aw_region ?_
                refine aops_n rfl (n_mv rfl (by constructor)) ?_
                refine aops_n rfl (n_add rfl rfl rfl (by omega)) ?_
                refine aops_n rfl (n_as rfl (by constructor)) ?_
                refine aops_nil ?_
                dsimp only [St.put]
                exact ⟨(i + 1, a2, b2, la2, lb2, va2, vb2), by (dsimp only; omega), ⟨by (dsimp only; omega), hfin⟩, ⟨⟨rfl, rfl⟩, zF, zB, zN, zX⟩⟩
          · replace hc := of_decide_eq_false hc
            have hL := close_end hS hf (by omega) hI.2
            refine aw_exit ?_
            refine hK16 _ ?_
            refine aw_seq_k fun K29 hK29 => ?_
            refine aw_region ?_
            refine aops_n rfl (n_mv rfl (by constructor)) ?_
            refine aops_n rfl (n_mv rfl (by constructor)) ?_
            try dsimp only [St.put]
            refine aops_e rfl (e_append_full rfl rfl rfl (fun r hr => by obtain ⟨y, _, rfl⟩ := List.mem_map.1 hr; rfl) (fun r hr => by obtain ⟨y, _, rfl⟩ := List.mem_map.1 hr; rfl) (by decide) (by cases a <;> cases b <;> simp) (by cases a <;> cases b <;> simp) ?_)
            refine aops_n rfl (n_as rfl (by constructor)) ?_
            refine aops_nil ?_
            dsimp only [St.put]
            rw [← List.map_append, ← hL]
            refine hK29 _ ?_
            refine aw_seq_k fun K30 hK30 => ?_
            refine aw_seq_k fun K31 hK31 => ?_
            refine aw_region ?_
            refine aops_n rfl (n_mv rfl (by constructor)) ?_
            refine aops_n rfl (n_len' rfl rfl (List.length_map _)) ?_
            refine aops_n rfl (n_eql rfl rfl rfl) ?_
            refine aops_nil ?_
            dsimp only [St.put]
            refine hK31 _ ?_
            refine aw_cond rfl (fun hc => ?_) (fun hc => ?_)
            · have hb0 : closeL t e.ss rr = [] := List.eq_nil_of_length_eq_zero (by have := of_decide_eq_true hc; omega)
              have hE : closeEr t e rr = 6 := by simp [closeEr, h0, h1, hb0]
              have hV : closeV t e rr = [] := by simp [closeV, hE]
              refine aw_seq_k fun K32 hK32 => ?_
              refine aw_region ?_
              refine aops_n rfl (n_as rfl (by constructor)) ?_
              refine aops_n rfl (n_as rfl (by constructor)) ?_
              refine aops_nil ?_
              dsimp only [St.put]
              refine hK32 _ ?_
              refine aw_ret ?_
              refine ends_v2 rfl (rv_tmp (by constructor)) (rv_tmp (by constructor)) zN zS ?_ ?_
              · rw [hV]
                exact zW
              · exact Wk.of_eq (vi hE.symm)
            · have hb0 : closeL t e.ss rr ≠ [] := fun e => by rw [e] at hc; simp at hc
              have hE : closeEr t e rr = 0 := by simp [closeEr, h0, h1, hb0]
              have hV : closeV t e rr = closeL t e.ss rr := by simp [closeV, hE]
              refine aw_skip ?_
              refine hK30 _ ?_
              refine aw_seq_k fun K33 hK33 => ?_
              refine aw_region ?_
              refine aops_n rfl (n_mv rfl (by constructor)) ?_
              refine aops_n rfl (n_as rfl (by constructor)) ?_
              refine aops_n rfl (n_as rfl (by constructor)) ?_
              refine aops_nil ?_
              dsimp only [St.put]
              refine hK33 _ ?_
              refine aw_ret ?_
              refine ends_v2 rfl (rv_tmp (by constructor)) (rv_tmp (by constructor)) zN zS ?_ ?_
              · rw [hV]
                exact zW
              · exact Wk.of_eq (vi hE.symm)
end Go.Proofs.YtjjklfgpffgnfaaDoor
