/-
  Contracts of the reference's functions of charts: the nearest places; their walks.
-/
import Derived.Test.YtjjklfgpffgnfaaDoorFfNear
namespace Go.AB
open Go Go.RowKit
open Go.AB.Enc (cells)
open Go.PB (Chap TextD PlaceD ReadingD CopyD WayD)
theorem keyP_lt {a b : PlaceD} : ltW (keyP a) (keyP b) ↔ a.ch < b.ch ∨ a.ch = b.ch ∧ (a.ln < b.ln ∨ a.ln = b.ln ∧ a.wd < b.wd) := by
  rw [← cmpL_lt (a := keyP a) (b := keyP b) rfl]; exact lt3
theorem mem_lineN {q : L2} {n : Nat} {y : PlaceD} (h : y ∈ lineN q n) : y.ch = q.1 ∧ y.ln = q.2 ∧ 0 ≤ y.wd ∧ y.wd < n := by
  obtain ⟨k, hk, rfl⟩ := List.mem_map.1 h
  rw [List.mem_range] at hk
  exact ⟨rfl, rfl, by dsimp only; omega, by dsimp only; omega⟩
theorem lineN_mem {q : L2} {n k : Nat} (h : k < n) : (⟨q.1, q.2, (k : Int)⟩ : PlaceD) ∈ lineN q n := List.mem_map.2 ⟨k, List.mem_range.2 h, rfl⟩
section
variable {t : TextD} {ss : List StretchD} {p : PlaceD} {i : Nat} {r : RowD} {a b : Option PlaceD}
theorem near_skip (he : ∀ s ∈ ss, SOk s) (hr : (rowsT t ss)[i]? = some r) (h0 : r.au = 0) (h : IsLo (wordsP t (asOf ss) ((linesT t).take i)) keyP (keyP p) a ∧ IsHi (wordsP t (asOf ss) ((linesT t).take i)) keyP (keyP p) b) :
    IsLo (wordsP t (asOf ss) ((linesT t).take (i + 1))) keyP (keyP p) a ∧ IsHi (wordsP t (asOf ss) ((linesT t).take (i + 1))) keyP (keyP p) b := by
  rw [words_row he hr, decide_eq_true h0, cond_true, List.append_nil]; exact h
theorem near_lo (he : ∀ s ∈ ss, SOk s) (hr : (rowsT t ss)[i]? = some r) (h0 : r.au ≠ 0) (hno : asOf ss (p.ch, p.ln) = none) (hlt : cmpL (keyP ⟨r.ch, r.ln, 0⟩) (keyP p) < 0) (hws : 1 ≤ r.ws)
    (h : IsLo (wordsP t (asOf ss) ((linesT t).take i)) keyP (keyP p) a ∧ IsHi (wordsP t (asOf ss) ((linesT t).take i)) keyP (keyP p) b) :
    IsLo (wordsP t (asOf ss) ((linesT t).take (i + 1))) keyP (keyP p) (some ⟨r.ch, r.ln, r.ws - 1⟩) ∧ IsHi (wordsP t (asOf ss) ((linesT t).take (i + 1))) keyP (keyP p) b := by
  have hne : (r.ch, r.ln) ≠ (p.ch, p.ln) := fun e => by
    have := row_as he (List.mem_of_getElem? hr) h0
    rw [e, hno] at this; cases this
  have hl : ltL (r.ch, r.ln) (p.ch, p.ln) := by
    have := (lt3 (a := r.ch) (b := r.ln) (c := 0)).1 hlt
    unfold ltL
    dsimp only
    rcases this with h1 | ⟨h1, h2 | ⟨h2, _⟩⟩
    · exact .inl h1
    · exact .inr ⟨h1, h2⟩
    · exact absurd (Prod.ext h1 h2) hne
  unfold ltL at hl
  rw [words_row he hr, decide_eq_false h0, cond_false]
  have hz : (((r.ws.toNat - 1 : Nat) : Int)) = r.ws - 1 := by omega
  refine ⟨lo_new (by have := lineN_mem (q := (r.ch, r.ln)) (n := r.ws.toNat) (k := r.ws.toNat - 1) (by omega); rw [hz] at this; exact this) (by rw [keyP_lt]; dsimp only at hl ⊢; omega) fun y hy _ hzy => ?_, hi_app h.2 fun y hy hxy => ?_⟩
  · rw [keyP_lt] at hzy
    rcases List.mem_append.1 hy with hy | hy
    · have := prev_lines (row_line hr) hy
      unfold ltL at this
      dsimp only at this hzy
      omega
    · obtain ⟨h1, h2, h3, h4⟩ := mem_lineN hy
      dsimp only at h1 h2 hzy
      omega
  · rw [keyP_lt] at hxy
    obtain ⟨h1, h2, h3, h4⟩ := mem_lineN hy
    dsimp only at h1 h2 hxy hl
    omega
theorem near_after (he : ∀ s ∈ ss, SOk s) (hr : (rowsT t ss)[i]? = some r) (h0 : r.au ≠ 0) (hno : asOf ss (p.ch, p.ln) = none) (hlt : ¬ cmpL (keyP ⟨r.ch, r.ln, 0⟩) (keyP p) < 0) : ltL (p.ch, p.ln) (r.ch, r.ln) := by
  have hne : (r.ch, r.ln) ≠ (p.ch, p.ln) := fun e => by
    have := row_as he (List.mem_of_getElem? hr) h0
    rw [e, hno] at this; cases this
  have := mt (lt3 (a := r.ch) (b := r.ln) (c := 0) (a' := p.ch) (b' := p.ln) (c' := p.wd)).2 hlt
  refine Classical.byContradiction fun hn => hne (ltL_tri (fun hl => this ?_) hn)
  unfold ltL at hl
  dsimp only at hl
  rcases hl with h1 | ⟨h1, h2⟩
  · exact .inl h1
  · exact .inr ⟨h1, .inl h2⟩
theorem near_hi (he : ∀ s ∈ ss, SOk s) (hr : (rowsT t ss)[i]? = some r) (h0 : r.au ≠ 0) (hno : asOf ss (p.ch, p.ln) = none) (hlt : ¬ cmpL (keyP ⟨r.ch, r.ln, 0⟩) (keyP p) < 0) (hws : 1 ≤ r.ws)
    (h : IsLo (wordsP t (asOf ss) ((linesT t).take i)) keyP (keyP p) a ∧ IsHi (wordsP t (asOf ss) ((linesT t).take i)) keyP (keyP p) none) :
    IsLo (wordsP t (asOf ss) ((linesT t).take (i + 1))) keyP (keyP p) a ∧ IsHi (wordsP t (asOf ss) ((linesT t).take (i + 1))) keyP (keyP p) (some ⟨r.ch, r.ln, 0⟩) := by
  have hl := near_after he hr h0 hno hlt
  unfold ltL at hl
  rw [words_row he hr, decide_eq_false h0, cond_false]
  refine ⟨lo_app h.1 fun y hy hyx => ?_, hi_new (lineN_mem (q := (r.ch, r.ln)) (n := r.ws.toNat) (k := 0) (by omega)) (by rw [keyP_lt]; dsimp only at hl ⊢; omega) fun y hy hxy hyz => ?_⟩
  · rw [keyP_lt] at hyx
    obtain ⟨h1, h2, h3, h4⟩ := mem_lineN hy
    dsimp only at h1 h2 hyx hl
    omega
  · rcases List.mem_append.1 hy with hy | hy
    · exact h.2.none rfl y hy hxy
    · rw [keyP_lt] at hyz
      obtain ⟨h1, h2, h3, h4⟩ := mem_lineN hy
      dsimp only at h1 h2 hyz
      omega
theorem near_keep (he : ∀ s ∈ ss, SOk s) (hr : (rowsT t ss)[i]? = some r) (h0 : r.au ≠ 0) (hno : asOf ss (p.ch, p.ln) = none) (hlt : ¬ cmpL (keyP ⟨r.ch, r.ln, 0⟩) (keyP p) < 0) (hb : b ≠ none)
    (h : IsLo (wordsP t (asOf ss) ((linesT t).take i)) keyP (keyP p) a ∧ IsHi (wordsP t (asOf ss) ((linesT t).take i)) keyP (keyP p) b) :
    IsLo (wordsP t (asOf ss) ((linesT t).take (i + 1))) keyP (keyP p) a ∧ IsHi (wordsP t (asOf ss) ((linesT t).take (i + 1))) keyP (keyP p) b := by
  have hl := near_after he hr h0 hno hlt
  unfold ltL at hl
  obtain ⟨w, rfl⟩ := Option.ne_none_iff_exists'.1 hb
  rw [words_row he hr, decide_eq_false h0, cond_false]
  refine ⟨lo_app h.1 fun y hy hyx => ?_, hi_keep h.2 fun y hy hyw => ?_⟩
  · rw [keyP_lt] at hyx
    obtain ⟨h1, h2, h3, h4⟩ := mem_lineN hy
    dsimp only at h1 h2 hyx hl
    omega
  · rw [keyP_lt] at hyw
    obtain ⟨h1, h2, h3, h4⟩ := mem_lineN hy
    have := prev_lines (row_line hr) (h.2.some w rfl).1
    unfold ltL at this
    dsimp only at h1 h2 this
    omega
end
theorem near_end {t : TextD} {ss : List StretchD} {p : PlaceD} {i : Nat} {a b : Option PlaceD} (hno : asOf ss (p.ch, p.ln) = none) (hi : (rowsT t ss).length ≤ i) (h : IsLo (wordsP t (asOf ss) ((linesT t).take i)) keyP (keyP p) a ∧ IsHi (wordsP t (asOf ss) ((linesT t).take i)) keyP (keyP p) b) : nearL t ss p = a.toList ++ b.toList := by
  have hlen : (linesT t).length ≤ i := by rw [← rows_lines t ss, List.length_map]; exact hi
  rw [List.take_of_length_le hlen] at h
  unfold nearL
  rw [hno]
  exact nearS_eq (keyP_ok _) ⟨a, b, rfl, h.1, h.2⟩
end Go.AB
namespace Go.Proofs.YtjjklfgpffgnfaaDoor
set_option maxRecDepth 10000
open Go.RowKit Go.AB
open Go.AB.Enc (cells)
open Go.PB (Chap TextD PlaceD ReadingD CopyD WayD)
theorem Before_pure (a b : PlaceD) : Pure Tryd.prog 77 [val a, val b] (.v (.bool (decide (cmpL (keyP a) (keyP b) < 0)))) := by
  refine pure_of_body Tryd.func77 rfl (fun m => .v) fun G nx => ?_
  simp only [Tryd.ntmps77, List.length_cons, List.length_nil, Nat.reduceAdd, Nat.reduceSub]
  refine aw_lt fun hlt => ?_
  dsimp only at hlt
  refine aw_seq_k fun K1 hK1 => ?_
  refine aw_region ?_
  try dsimp only [St.put]
  refine aops_e rfl (e_box rfl rfl (by simp) ?_)
  try dsimp only [St.put]
  refine aops_e rfl (e_box rfl rfl (by simp) ?_)
  refine aops_n rfl (n_as rfl (by constructor)) ?_
  refine aops_nil ?_
  dsimp only [St.put]
  refine hK1 _ ?_
  refine aw_seq_k fun K2 hK2 => ?_
  refine aw_seq_k fun K3 hK3 => ?_
  refine aw_region ?_
  refine aops_n rfl (n_fieldAddr' rfl rfl rfl) ?_
  try dsimp only [St.put]
  refine aops_s rfl (s_load rfl rfl) ?_
  refine aops_n rfl (n_fieldAddr' rfl rfl rfl) ?_
  try dsimp only [St.put]
  refine aops_s rfl (s_load rfl rfl) ?_
  refine aops_n rfl (n_neq rfl rfl rfl) ?_
  refine aops_nil ?_
  dsimp only [St.put]
  refine hK3 _ ?_
  refine aw_cond rfl (fun hc => ?_) (fun hc => ?_)
  · have h1 : a.ch ≠ b.ch := nd_t hc
    refine aw_seq_k fun K4 hK4 => ?_
    refine aw_region ?_
    refine aops_n rfl (n_fieldAddr' rfl rfl rfl) ?_
    try dsimp only [St.put]
    refine aops_s rfl (s_load rfl rfl) ?_
    refine aops_n rfl (n_fieldAddr' rfl rfl rfl) ?_
    try dsimp only [St.put]
    refine aops_s rfl (s_load rfl rfl) ?_
    refine aops_n rfl (n_lss rfl rfl rfl) ?_
    refine aops_n rfl (n_as rfl (by constructor)) ?_
    refine aops_nil ?_
    dsimp only [St.put]
    refine hK4 _ ?_
    refine aw_ret ?_
    refine ends_1 rfl (by constructor) zN zS ?_
    exact vb (by rw [decide_eq_decide, keyP, keyP, lt3]; omega)
  · have h1 : a.ch = b.ch := nd_f hc
    refine aw_skip ?_
    refine hK2 _ ?_
    refine aw_seq_k fun K5 hK5 => ?_
    refine aw_seq_k fun K6 hK6 => ?_
    refine aw_region ?_
    refine aops_n rfl (n_fieldAddr' rfl rfl rfl) ?_
    try dsimp only [St.put]
    refine aops_s rfl (s_load rfl rfl) ?_
    refine aops_n rfl (n_fieldAddr' rfl rfl rfl) ?_
    try dsimp only [St.put]
    refine aops_s rfl (s_load rfl rfl) ?_
    refine aops_n rfl (n_neq rfl rfl rfl) ?_
    refine aops_nil ?_
    dsimp only [St.put]
    refine hK6 _ ?_
    refine aw_cond rfl (fun hc => ?_) (fun hc => ?_)
    · have h2 : a.ln ≠ b.ln := nd_t hc
      refine aw_seq_k fun K7 hK7 => ?_
      refine aw_region ?_
      refine aops_n rfl (n_fieldAddr' rfl rfl rfl) ?_
      try dsimp only [St.put]
      refine aops_s rfl (s_load rfl rfl) ?_
      refine aops_n rfl (n_fieldAddr' rfl rfl rfl) ?_
      try dsimp only [St.put]
      refine aops_s rfl (s_load rfl rfl) ?_
      refine aops_n rfl (n_lss rfl rfl rfl) ?_
      refine aops_n rfl (n_as rfl (by constructor)) ?_
      refine aops_nil ?_
      dsimp only [St.put]
      refine hK7 _ ?_
      refine aw_ret ?_
      refine ends_1 rfl (by constructor) zN zS ?_
      exact vb (by rw [decide_eq_decide, keyP, keyP, lt3]; omega)
    · have h2 : a.ln = b.ln := nd_f hc
      refine aw_skip ?_
      refine hK5 _ ?_
      refine aw_seq_k fun K8 hK8 => ?_
      refine aw_region ?_
      refine aops_n rfl (n_fieldAddr' rfl rfl rfl) ?_
      try dsimp only [St.put]
      refine aops_s rfl (s_load rfl rfl) ?_
      refine aops_n rfl (n_fieldAddr' rfl rfl rfl) ?_
      try dsimp only [St.put]
      refine aops_s rfl (s_load rfl rfl) ?_
      refine aops_n rfl (n_lss rfl rfl rfl) ?_
      refine aops_n rfl (n_as rfl (by constructor)) ?_
      refine aops_nil ?_
      dsimp only [St.put]
      refine hK8 _ ?_
      refine aw_ret ?_
      refine ends_1 rfl (by constructor) zN zS ?_
      exact vb (by rw [decide_eq_decide, keyP, keyP, lt3]; omega)
theorem Near2_pure (t : TextD) (e : EditionD) (p : PlaceD) : Pure Tryd.prog 35 [textC t, val e, val p] (.tup [lst (nearV t e p), .v (.int .i64 (nearEr t e p))]) := by
  refine pure_of_body Tryd.func35 rfl (fun m => .tup (low_cons (lst_low _ _) (low_cons .v low_nil))) fun G nx => ?_
  simp only [Tryd.ntmps35, List.length_cons, List.length_nil, Nat.reduceAdd, Nat.reduceSub]
  refine aw_lt fun hlt => ?_
  dsimp only at hlt
  refine aw_seq_k fun K1 hK1 => ?_
  refine aw_region ?_
  try dsimp only [St.put]
  refine aops_e rfl (e_box rfl rfl (by simp) ?_)
  try dsimp only [St.put]
  refine aops_e rfl (e_box rfl rfl (by simp) ?_)
  try dsimp only [St.put]
  refine aops_e rfl (e_box rfl rfl (by simp) ?_)
  refine aops_n rfl (n_as rfl (by constructor)) ?_
  refine aops_n rfl (n_as rfl (by constructor)) ?_
  refine aops_nil ?_
  dsimp only [St.put]
  refine hK1 _ ?_
  refine aw_seq_k fun K2 hK2 => ?_
  refine aw_seq_k fun K3 hK3 => ?_
  refine aw_region ?_
  try dsimp only [St.put]
  refine aops_s rfl (s_load_agg' rfl rfl rfl) ?_
  try dsimp only [St.put]
  refine aops_s rfl (s_load_agg' rfl rfl (Enc.len _)) ?_
  try dsimp only [St.put]
  refine aops_e rfl (e_call_pure rfl rfl rfl (sound2_pure t e) ?_)
  refine aops_n rfl (n_as rfl (by constructor)) ?_
  refine aops_nil ?_
  dsimp only [St.put]
  refine hK3 _ ?_
  refine aw_seq_k fun K4 hK4 => ?_
  refine aw_region ?_
  refine aops_n rfl (n_mv rfl (by constructor)) ?_
  refine aops_n rfl (n_neq rfl rfl rfl) ?_
  refine aops_nil ?_
  dsimp only [St.put]
  refine hK4 _ ?_
  refine aw_cond rfl (fun hc => ?_) (fun hc => ?_)
  · have h0 : ¬ soundEr t e = 0 := nd_t hc
    have hE : nearEr t e p = soundEr t e := by simp [nearEr, h0]
    have hV : nearV t e p = [] := by simp [nearV, hE, h0]
    refine aw_seq_k fun K5 hK5 => ?_
    refine aw_region ?_
    refine aops_n rfl (n_mv rfl (by constructor)) ?_
    refine aops_n rfl (n_as rfl (by constructor)) ?_
    refine aops_n rfl (n_as rfl (by constructor)) ?_
    refine aops_nil ?_
    dsimp only [St.put]
    refine hK5 _ ?_
    refine aw_ret ?_
    refine ends_v2 rfl (rv_tmp (by constructor)) (rv_tmp (by constructor)) zN zS ?_ ?_
    · rw [hV]
      exact zW
    · exact Wk.of_eq (vi hE.symm)
  · have h0 : soundEr t e = 0 := nd_f hc
    obtain ⟨ht, hl, he⟩ := checkEr_text (soundEr_check h0).1
    refine aw_skip ?_
    refine hK2 _ ?_
    refine aw_seq_k fun K6 hK6 => ?_
    refine aw_seq_k fun K7 hK7 => ?_
    refine aw_region ?_
    try dsimp only [St.put]
    refine aops_s rfl (s_load_agg' rfl rfl rfl) ?_
    try dsimp only [St.put]
    refine aops_s rfl (s_load_agg' rfl rfl (Enc.len _)) ?_
    try dsimp only [St.put]
    refine aops_e rfl (e_call_pure rfl rfl rfl (Place_pure t p ht) ?_)
    refine aops_n rfl (n_not rfl rfl) ?_
    refine aops_nil ?_
    dsimp only [St.put]
    refine hK7 _ ?_
    refine aw_cond rfl (fun hc => ?_) (fun hc => ?_)
    · have h1 : placeB t p = false := by simpa using hc
      have hE : nearEr t e p = 12 := by simp [nearEr, h0, h1]
      have hV : nearV t e p = [] := by simp [nearV, hE]
      refine aw_seq_k fun K8 hK8 => ?_
      refine aw_region ?_
      refine aops_n rfl (n_as rfl (by constructor)) ?_
      refine aops_n rfl (n_as rfl (by constructor)) ?_
      refine aops_nil ?_
      dsimp only [St.put]
      refine hK8 _ ?_
      refine aw_ret ?_
      refine ends_v2 rfl (rv_tmp (by constructor)) (rv_tmp (by constructor)) zN zS ?_ ?_
      · rw [hV]
        exact zW
      · exact Wk.of_eq (vi hE.symm)
    · have h1 : placeB t p = true := by simpa using hc
      obtain ⟨l, hw, hw1, hw2⟩ := placeB_true.1 h1
      have hwl := words_bd ht hw
      have hll := rowsT_all ht e.ss
      have hbd := rowsT_bd ht he
      refine aw_skip ?_
      refine hK6 _ ?_
      refine aw_seq_k fun K9 hK9 => ?_
      refine aw_region ?_
      try dsimp only [St.put]
      refine aops_s rfl (s_load_agg' rfl rfl rfl) ?_
      try dsimp only [St.put]
      refine aops_s rfl (s_load_agg' rfl rfl (Enc.len _)) ?_
      try dsimp only [St.put]
      refine aops_e rfl (e_call_pure rfl rfl rfl (rows_pure t e ht hl he) ?_)
      refine aops_n rfl (n_as rfl (by constructor)) ?_
      refine aops_nil ?_
      dsimp only [St.put]
      refine hK9 _ ?_
      refine aw_seq_k fun K10 hK10 => ?_
      refine aw_seq_k fun K11 hK11 => ?_
      refine aw_region ?_
      refine aops_n rfl (n_mv rfl (by constructor)) ?_
      try dsimp only [St.put]
      refine aops_s rfl (s_load_agg' rfl rfl (Enc.len _)) ?_
      try dsimp only [St.put]
      refine aops_e rfl (e_call_pure rfl rfl rfl (refAt_pure _ p (rowsT_all ht _)) ?_)
      refine aops_n rfl (n_field rfl rfl rfl) ?_
      refine aops_n rfl (n_gtr rfl rfl rfl) ?_
      refine aops_nil ?_
      dsimp only [St.put]
      refine hK11 _ ?_
      refine aw_cond rfl (fun hc => ?_) (fun hc => ?_)
      · have ha : (asOf e.ss (p.ch, p.ln)).isSome = true := by
          have := of_decide_eq_true hc
          rw [atR_rows hw] at this
          cases h : asOf e.ss (p.ch, p.ln) with
          | none => simp [rowOf, h] at this
          | some v => rfl
        have hL : nearL t e.ss p = [p] := by simp [nearL, ha]
        have hE : nearEr t e p = 0 := by simp [nearEr, h0, h1, hL]
        have hV : nearV t e p = [p] := by simp [nearV, hE, hL]
        refine aw_seq_k fun K12 hK12 => ?_
        refine aw_region ?_
        try dsimp only [St.put]
        refine aops_s rfl (s_load_agg' rfl rfl (Enc.len _)) ?_
        try dsimp only [St.put]
        refine aops_e rfl (e_buildSlice rfl rfl rfl (by decide) (by decide) zR (by decide) ?_)
        refine aops_n rfl (n_as rfl (by constructor)) ?_
        refine aops_n rfl (n_as rfl (by constructor)) ?_
        refine aops_nil ?_
        dsimp only [St.put]
        refine hK12 _ ?_
        refine aw_ret ?_
        refine ends_v2 rfl (rv_tmp (by constructor)) (rv_tmp (by constructor)) zN zS ?_ ?_
        · rw [hV]
          exact zW
        · exact Wk.of_eq (vi hE.symm)
      · have ha : asOf e.ss (p.ch, p.ln) = none := by
          have := of_decide_eq_false hc
          rw [atR_rows hw] at this
          cases h : asOf e.ss (p.ch, p.ln) with
          | none => rfl
          | some v => have h5 := asOf_pos he h; simp only [rowOf, h, Option.getD_some] at this; omega
        refine aw_skip ?_
        refine hK10 _ ?_
        refine aw_seq_k fun K13 hK13 => ?_
        refine aw_region ?_
        refine aops_n rfl (n_as rfl (by constructor)) ?_
        refine aops_n rfl (n_as rfl (by constructor)) ?_
        refine aops_nil ?_
        dsimp only [St.put]
        refine hK13 _ ?_
        refine aw_nil_zero 10 rfl ?_
        dsimp only
        refine aw_nil_zero 11 rfl ?_
        dsimp only
        refine aw_seq_k fun K14 hK14 => ?_
        refine aw_seq_k fun K15 hK15 => ?_
        refine aw_region ?_
        refine aops_n rfl (n_as rfl (by constructor)) ?_
        refine aops_nil ?_
        dsimp only [St.put]
        refine hK15 _ ?_
        refine aw_block ?_
        refine aw_wipe 15 ?_
        simp only [firsts, getA, Nat.reduceAdd, List.getD_cons_zero, List.getD_cons_succ, List.getD_nil, natBeq, Nat.reduceBEq, cond_true, cond_false]
        refine aw_forget (G) zX ?_
        dsimp only
        refine aw_loopD (X := Nat × Option PlaceD × Option PlaceD) (fun x => x.1 ≤ (rowsT t e.ss).length ∧ IsLo (wordsP t (asOf e.ss) ((linesT t).take x.1)) keyP (keyP p) x.2.1 ∧ IsHi (wordsP t (asOf e.ss) ((linesT t).take x.1)) keyP (keyP p) x.2.2) (fun x => (rowsT t e.ss).length - x.1) (fun x => [(10, .list (x.2.1.toList.map cells) .zero), (11, .list (x.2.2.toList.map cells) .zero), (12, .v (.int .i64 (x.1 : Int))), (13, .any)]) (fun x G' => G') (0, none, none) rfl ?_ ?_ (fun _ _ h => h) ?_ ?_ ?_
        · exact ⟨Nat.zero_le _, lo_nil _ _, hi_nil _ _⟩
        · exact zF
        · rintro ⟨i, a, b⟩ hI
          exact (by (try dsimp only); repeat' (first | exact trivial | refine ⟨?_, ?_⟩ | exact .v | exact .any | refine .elem ?_ | exact lst_low _ _ | exact cells_low _ _ | exact val_low _ _ | exact data_low _ (by (try dsimp only); omega) | exact .box (by (try dsimp only); omega) | exact nil_low | exact low_nil | exact zlist_low _ | refine set_low ?_ ?_ | exact .arr (by (try dsimp only); omega) | exact .own (by (try dsimp only); omega) | exact .map (by (try dsimp only); omega) | exact flatC_low _ | refine low_cons ?_ ?_ | exact lst_low _ _))
        · exact fun _ _ _ _ h => .inl h
        · rintro ⟨i, a, b⟩ hI
          dsimp only at hI ⊢
          refine aw_seq_k fun K16 hK16 => ?_
          refine aw_seq_k fun K17 hK17 => ?_
          refine aw_region ?_
          refine aops_n rfl (n_mv rfl (by constructor)) ?_
          refine aops_n rfl (n_mv rfl (by constructor)) ?_
          refine aops_n rfl (n_len' rfl rfl (List.length_map _)) ?_
          refine aops_n rfl (n_lss rfl rfl rfl) ?_
          refine aops_nil ?_
          dsimp only [St.put]
          refine hK17 _ ?_
          refine aw_cond rfl (fun hc => ?_) (fun hc => ?_)
          · replace hc := of_decide_eq_true hc
            obtain ⟨r, hr⟩ : ∃ x, (rowsT t e.ss)[i]? = some x := some_of_lt (by omega)
            have hrb := hbd r (mem_of_get hr)
            have hws : 1 ≤ r.ws ∧ r.ws ≤ 10 := by
              obtain ⟨q, l2, hw2, rfl⟩ := mem_rows.1 (mem_of_get hr)
              have := words_bd ht hw2
              exact ⟨by simp only [rowOf]; omega, by simp only [rowOf]; omega⟩
            refine aw_skip ?_
            refine hK16 _ ?_
            refine aw_seq_k fun K18 hK18 => ?_
            refine aw_block ?_
            refine aw_seq_k fun K19 hK19 => ?_
            refine aw_draw [(0, none), (1, none), (2, none), (3, none), (4, none), (5, none), (6, none), (7, none), (8, none), (9, none), (10, none), (11, none), (12, none)] (fun i => [12].contains i) (fun i => [11, 12].contains i) (fun i => [0, 1, 2, 3, 5, 6, 7, 8, 10].contains i) [] (by kernel_rfl) (by kernel_rfl) ?_
            refine acan1_n rfl rfl rfl rfl (n_mv rfl (by constructor)) ?_
            refine acan1_n rfl rfl rfl rfl (n_mv rfl (by constructor)) ?_
            try dsimp only [St.put]
            refine acan1_n rfl rfl rfl rfl (n_indexAddr rfl rfl rfl rfl (map_get (by assumption)) (Enc.len _)) ?_
            refine acan1_n rfl rfl rfl rfl (n_fieldAddr' rfl rfl rfl) ?_
            try dsimp only [St.put]
            refine acan1_s rfl rfl rfl rfl (s_load rfl rfl) ?_
            refine acan1_n rfl rfl rfl rfl (n_mv rfl (by constructor)) ?_
            refine acan1_n rfl rfl rfl rfl (n_mv rfl (by constructor)) ?_
            try dsimp only [St.put]
            refine acan1_n rfl rfl rfl rfl (n_indexAddr rfl rfl rfl rfl (map_get (by assumption)) (Enc.len _)) ?_
            refine acan1_n rfl rfl rfl rfl (n_fieldAddr' rfl rfl rfl) ?_
            try dsimp only [St.put]
            refine acan1_s rfl rfl rfl rfl (s_load rfl rfl) ?_
            refine acan1_n rfl rfl rfl rfl (n_build rfl rfl) ?_
            refine acan1_two ?_
            try dsimp only [St.put]
            refine acan2_e rfl rfl rfl (e_allocC rfl ⟨zD, ?_⟩)
            try dsimp only [St.put]
            refine acan2_late rfl rfl rfl rfl (e_store_all rfl rfl rfl zG rfl rfl (by rfl) ?_)
            refine acan2_nil ?_
            dsimp only [St.put]
            refine hK19 _ ?_
            refine aw_block ?_
            refine aw_seq_k fun K20 hK20 => ?_
            refine aw_region ?_
            refine aops_n rfl (n_mv rfl (by constructor)) ?_
            refine aops_n rfl (n_mv rfl (by constructor)) ?_
            try dsimp only [St.put]
            refine aops_n rfl (n_indexAddr rfl rfl rfl rfl (map_get (by assumption)) (Enc.len _)) ?_
            refine aops_n rfl (n_fieldAddr' rfl rfl rfl) ?_
            try dsimp only [St.put]
            refine aops_s rfl (s_load rfl rfl) ?_
            refine aops_n rfl (n_eql rfl rfl rfl) ?_
            refine aops_n rfl (n_as rfl (by constructor)) ?_
            refine aops_nil ?_
            dsimp only [St.put]
            refine hK20 _ ?_
            refine aw_cond rfl (fun hc => ?_) (fun hc => ?_)
            · have hn := near_skip (p := p) he hr (of_decide_eq_true hc) hI.2
              refine aw_skip ?_
              refine hK18 _ ?_
              refine aw_region ?_
              refine aops_n rfl (n_mv rfl (by constructor)) ?_
              refine aops_n rfl (n_add rfl rfl rfl (by omega)) ?_
              refine aops_n rfl (n_as rfl (by constructor)) ?_
              refine aops_nil ?_
              dsimp only [St.put]
              first
                | exact ⟨(i + 1, a, b), by (dsimp only; omega), ⟨by (dsimp only; omega), hn⟩, ⟨⟨rfl, rfl⟩, zF, zB, zN, zX⟩⟩
                | exact ⟨(i + 1, some ⟨r.ch, r.ln, r.ws - 1⟩, b), by (dsimp only; omega), ⟨by (dsimp only; omega), hn⟩, ⟨⟨rfl, rfl⟩, zF, zB, zN, zX⟩⟩
                | exact ⟨(i + 1, a, some ⟨r.ch, r.ln, 0⟩), by (dsimp only; omega), ⟨by (dsimp only; omega), hn⟩, ⟨⟨rfl, rfl⟩, zF, zB, zN, zX⟩⟩
            · have hau : r.au ≠ 0 := of_decide_eq_false hc
              refine aw_seq_k fun K21 hK21 => ?_
              refine aw_region ?_
              try dsimp only [St.put]
              refine aops_s rfl (s_load_box_all rfl rfl zG trivial (by rfl)) ?_
              try dsimp only [St.put]
              refine aops_s rfl (s_load_agg' rfl rfl (Enc.len _)) ?_
              try dsimp only [St.put]
              refine aops_e rfl (e_call_pure rfl rfl rfl (Before_pure ⟨r.ch, r.ln, 0⟩ p) ?_)
              refine aops_n rfl (n_as rfl (by constructor)) ?_
              refine aops_nil ?_
              dsimp only [St.put]
              refine hK21 _ ?_
              refine aw_cond rfl (fun hc => ?_) (fun hc => ?_)
              · have hn := near_lo he hr hau ha (of_decide_eq_true hc) hws.1 hI.2
                refine aw_seq_k fun K22 hK22 => ?_
                refine aw_region ?_
                refine aops_n rfl (n_mv rfl (by constructor)) ?_
                refine aops_n rfl (n_mv rfl (by constructor)) ?_
                try dsimp only [St.put]
                refine aops_n rfl (n_indexAddr rfl rfl rfl rfl (map_get (by assumption)) (Enc.len _)) ?_
                refine aops_n rfl (n_fieldAddr' rfl rfl rfl) ?_
                try dsimp only [St.put]
                refine aops_s rfl (s_load rfl rfl) ?_
                refine aops_n rfl (n_sub rfl rfl rfl (by omega)) ?_
                refine aops_n rfl (n_fieldAddr_box rfl rfl) ?_
                try dsimp only [St.put]
                refine aops_e rfl (e_store_one rfl rfl rfl zG (by constructor) rfl (by show 0 + 2 < 3; decide) ?_)
                refine aops_nil ?_
                dsimp only [St.put]
                refine hK22 _ ?_
                refine aw_region ?_
                try dsimp only [St.put]
                refine aops_s rfl (s_load_box_all rfl rfl zG trivial (by rfl)) ?_
                try dsimp only [St.put]
                refine aops_e rfl (e_buildSliceZ rfl rfl rfl (by decide) (by decide) zR (by decide) ?_)
                refine aops_n rfl (n_as rfl (by constructor)) ?_
                refine aops_nil ?_
                dsimp only [St.put]
                refine hK18 _ ?_
                refine aw_region ?_
                refine aops_n rfl (n_mv rfl (by constructor)) ?_
                refine aops_n rfl (n_add rfl rfl rfl (by omega)) ?_
                refine aops_n rfl (n_as rfl (by constructor)) ?_
                refine aops_nil ?_
                dsimp only [St.put]
                first
                  | exact ⟨(i + 1, a, b), by (dsimp only; omega), ⟨by (dsimp only; omega), hn⟩, ⟨⟨rfl, rfl⟩, zF, zB, zN, zX⟩⟩
                  | exact ⟨(i + 1, some ⟨r.ch, r.ln, r.ws - 1⟩, b), by (dsimp only; omega), ⟨by (dsimp only; omega), hn⟩, ⟨⟨rfl, rfl⟩, zF, zB, zN, zX⟩⟩
                  | exact ⟨(i + 1, a, some ⟨r.ch, r.ln, 0⟩), by (dsimp only; omega), ⟨by (dsimp only; omega), hn⟩, ⟨⟨rfl, rfl⟩, zF, zB, zN, zX⟩⟩
              · have hlt2 := of_decide_eq_false hc
                refine aw_seq_k fun K23 hK23 => ?_
                refine aw_region ?_
                refine aops_n rfl (n_mv rfl (by constructor)) ?_
                refine aops_n rfl (n_len' rfl rfl (List.length_map _)) ?_
                refine aops_n rfl (n_eql rfl rfl rfl) ?_
                refine aops_n rfl (n_as rfl (by constructor)) ?_
                refine aops_nil ?_
                dsimp only [St.put]
                refine hK23 _ ?_
                refine aw_cond rfl (fun hc => ?_) (fun hc => ?_)
                · have hbn : b = none := by cases b with | none => rfl | some w => simp at hc
                  subst hbn
                  have hn := near_hi he hr hau ha hlt2 hws.1 hI.2
                  refine aw_region ?_
                  try dsimp only [St.put]
                  refine aops_s rfl (s_load_box_all rfl rfl zG trivial (by rfl)) ?_
                  try dsimp only [St.put]
                  refine aops_e rfl (e_buildSliceZ rfl rfl rfl (by decide) (by decide) zR (by decide) ?_)
                  refine aops_n rfl (n_as rfl (by constructor)) ?_
                  refine aops_nil ?_
                  dsimp only [St.put]
                  refine hK18 _ ?_
                  refine aw_region ?_
                  refine aops_n rfl (n_mv rfl (by constructor)) ?_
                  refine aops_n rfl (n_add rfl rfl rfl (by omega)) ?_
                  refine aops_n rfl (n_as rfl (by constructor)) ?_
                  refine aops_nil ?_
                  dsimp only [St.put]
                  first
                    | exact ⟨(i + 1, a, b), by (dsimp only; omega), ⟨by (dsimp only; omega), hn⟩, ⟨⟨rfl, rfl⟩, zF, zB, zN, zX⟩⟩
                    | exact ⟨(i + 1, some ⟨r.ch, r.ln, r.ws - 1⟩, b), by (dsimp only; omega), ⟨by (dsimp only; omega), hn⟩, ⟨⟨rfl, rfl⟩, zF, zB, zN, zX⟩⟩
                    | exact ⟨(i + 1, a, some ⟨r.ch, r.ln, 0⟩), by (dsimp only; omega), ⟨by (dsimp only; omega), hn⟩, ⟨⟨rfl, rfl⟩, zF, zB, zN, zX⟩⟩
                · have hbn : b ≠ none := fun e => by subst e; simp at hc
                  have hn := near_keep he hr hau ha hlt2 hbn hI.2
                  refine aw_skip ?_
                  refine hK18 _ ?_
                  refine aw_region ?_
                  refine aops_n rfl (n_mv rfl (by constructor)) ?_
                  refine aops_n rfl (n_add rfl rfl rfl (by omega)) ?_
                  refine aops_n rfl (n_as rfl (by constructor)) ?_
                  refine aops_nil ?_
                  dsimp only [St.put]
                  first
                    | exact ⟨(i + 1, a, b), by (dsimp only; omega), ⟨by (dsimp only; omega), hn⟩, ⟨⟨rfl, rfl⟩, zF, zB, zN, zX⟩⟩
                    | exact ⟨(i + 1, some ⟨r.ch, r.ln, r.ws - 1⟩, b), by (dsimp only; omega), ⟨by (dsimp only; omega), hn⟩, ⟨⟨rfl, rfl⟩, zF, zB, zN, zX⟩⟩
                    | exact ⟨(i + 1, a, some ⟨r.ch, r.ln, 0⟩), by (dsimp only; omega), ⟨by (dsimp only; omega), hn⟩, ⟨⟨rfl, rfl⟩, zF, zB, zN, zX⟩⟩
          · replace hc := of_decide_eq_false hc
            have hL := near_end ha (by omega) hI.2
            refine aw_exit ?_
            refine hK14 _ ?_
            refine aw_seq_k fun K24 hK24 => ?_
            refine aw_region ?_
            refine aops_n rfl (n_mv rfl (by constructor)) ?_
            refine aops_n rfl (n_mv rfl (by constructor)) ?_
            try dsimp only [St.put]
            refine aops_e rfl (e_append_full rfl rfl rfl (fun r hr => by obtain ⟨y, _, rfl⟩ := List.mem_map.1 hr; rfl) (fun r hr => by obtain ⟨y, _, rfl⟩ := List.mem_map.1 hr; rfl) (by decide) (by cases a <;> cases b <;> simp) (by cases a <;> cases b <;> simp) ?_)
            refine aops_n rfl (n_as rfl (by constructor)) ?_
            refine aops_nil ?_
            dsimp only [St.put]
            rw [← List.map_append, ← hL]
            refine hK24 _ ?_
            refine aw_seq_k fun K25 hK25 => ?_
            refine aw_seq_k fun K26 hK26 => ?_
            refine aw_region ?_
            refine aops_n rfl (n_mv rfl (by constructor)) ?_
            refine aops_n rfl (n_len' rfl rfl (List.length_map _)) ?_
            refine aops_n rfl (n_eql rfl rfl rfl) ?_
            refine aops_nil ?_
            dsimp only [St.put]
            refine hK26 _ ?_
            refine aw_cond rfl (fun hc => ?_) (fun hc => ?_)
            · have hb0 : nearL t e.ss p = [] := List.eq_nil_of_length_eq_zero (by have := of_decide_eq_true hc; omega)
              have hE : nearEr t e p = 6 := by simp [nearEr, h0, h1, hb0]
              have hV : nearV t e p = [] := by simp [nearV, hE]
              refine aw_seq_k fun K27 hK27 => ?_
              refine aw_region ?_
              refine aops_n rfl (n_as rfl (by constructor)) ?_
              refine aops_n rfl (n_as rfl (by constructor)) ?_
              refine aops_nil ?_
              dsimp only [St.put]
              refine hK27 _ ?_
              refine aw_ret ?_
              refine ends_v2 rfl (rv_tmp (by constructor)) (rv_tmp (by constructor)) zN zS ?_ ?_
              · rw [hV]
                exact zW
              · exact Wk.of_eq (vi hE.symm)
            · have hb0 : nearL t e.ss p ≠ [] := fun e => by rw [e] at hc; simp at hc
              have hE : nearEr t e p = 0 := by simp [nearEr, h0, h1, hb0]
              have hV : nearV t e p = nearL t e.ss p := by simp [nearV, hE]
              refine aw_skip ?_
              refine hK25 _ ?_
              refine aw_seq_k fun K28 hK28 => ?_
              refine aw_region ?_
              refine aops_n rfl (n_mv rfl (by constructor)) ?_
              refine aops_n rfl (n_as rfl (by constructor)) ?_
              refine aops_n rfl (n_as rfl (by constructor)) ?_
              refine aops_nil ?_
              dsimp only [St.put]
              refine hK28 _ ?_
              refine aw_ret ?_
              refine ends_v2 rfl (rv_tmp (by constructor)) (rv_tmp (by constructor)) zN zS ?_ ?_
              · rw [hV]
                exact zW
              · exact Wk.of_eq (vi hE.symm)
end Go.Proofs.YtjjklfgpffgnfaaDoor
