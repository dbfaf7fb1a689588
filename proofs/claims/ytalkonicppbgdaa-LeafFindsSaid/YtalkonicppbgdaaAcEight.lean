/-
  Contracts of the reference's functions of layer 1: readings, Find, Apart.
-/
import Derived.Test.YtalkonicppbgdaaAcSeven
namespace Go.Proofs.Ytalkonicppbgdaa
open Go.RowKit Go.AB
open Go.AB.Enc (cells)
open Go.PB (Chap TextD PlaceD ReadingD CopyD WayD)

/-- The readings of all chapters ahead of one, and of some of its lines. -/
def upTo (t u : TextD) (k : Nat) : Nat → List ReadingD
  | 0 => allTo t u k
  | n + 1 => upTo t u k n ++ edits (lineAt t k n) (lineAt u k n) k n 0 0
theorem upTo_eq (t u : TextD) (k n : Nat) : upTo t u k n = allTo t u k ++ chapTo t u k n := by
  induction n with
  | zero => simp [upTo, chapTo]
  | succ n ih => rw [upTo, ih, chapTo_succ, List.append_assoc]
theorem upTo_all {t : TextD} (u : TextD) {k : Nat} {c : Chap} (h : t[k]? = some c) : upTo t u k c.lines.length = allTo t u (k + 1) := by
  rw [upTo_eq, allTo_succ, linesOf_some h]
theorem upTo_next {t u : TextD} {k n : Nat} {c d : Chap} {a b : List ByteArray} (hc : t[k]? = some c) (hd : u[k]? = some d) (ha : c.lines[n]? = some a) (hb : d.lines[n]? = some b) : upTo t u k n ++ edits a b (k : Int) (n : Int) 0 0 = upTo t u k (n + 1) := by
  rw [upTo, lineAt_some hc ha, lineAt_some hd hb]
theorem line_len {t : TextD} (h : textB t = true) (k n : Nat) : (lineAt t k n).length ≤ 10 := by
  unfold lineAt linesOf
  split
  · rename_i c hc
    cases hl : c.lines[n]? with
    | none => simp
    | some l => exact text_words h hc hl
  · simp
theorem lines_len {t : TextD} (h : textB t = true) (k : Nat) : (linesOf t k).length ≤ 10 := by
  unfold linesOf
  split
  · rename_i c hc; exact (text_lines h hc).1
  · simp
theorem chapTo_len {t u : TextD} (h1 : textB t = true) (h2 : textB u = true) (k m : Nat) : (chapTo t u k m).length ≤ 20 * m := by
  induction m with
  | zero => simp [chapTo]
  | succ m ih =>
    rw [chapTo_succ, List.length_append]
    have := edits_len0 (lineAt t k m) (lineAt u k m) k m
    have := line_len h1 k m
    have := line_len h2 k m
    omega
theorem allTo_len {t u : TextD} (h1 : textB t = true) (h2 : textB u = true) (m : Nat) : (allTo t u m).length ≤ 200 * m := by
  induction m with
  | zero => simp [allTo]
  | succ m ih =>
    rw [allTo_succ, List.length_append]
    have := chapTo_len h1 h2 m (linesOf t m).length
    have := lines_len h1 m
    omega
theorem upTo_len {t u : TextD} (h1 : textB t = true) (h2 : textB u = true) (k n : Nat) : (upTo t u k n).length ≤ 200 * k + 20 * n := by
  rw [upTo_eq, List.length_append]
  have := chapTo_len h1 h2 k n
  have := allTo_len h1 h2 k
  omega

theorem readings_pure (t u : TextD) (h1 : textB t = true) (h2 : textB u = true) (h3 : alikeB t u = true) : Pure Try.prog 17 [textC t, textC u] (lst (allE t u)) := by
  refine pure_of_body Try.func17 rfl (fun m => (lst_low _ _)) fun G nx => ?_
  simp only [Try.ntmps17, List.length_cons, List.length_nil, Nat.reduceAdd, Nat.reduceSub]
  refine aw_lt fun hlt => ?_
  dsimp only at hlt
  have ht6 := text_len h1
  have hal := alike_len h3
  refine aw_seq_k fun K1 hK1 => ?_
  refine aw_region ?_
  try dsimp only [St.put]
  refine aops_e rfl (e_box rfl rfl (by simp) ?_)
  try dsimp only [St.put]
  refine aops_e rfl (e_box rfl rfl (by simp) ?_)
  refine aops_n rfl (n_as rfl (by constructor)) ?_
  refine aops_nil ?_
  dsimp only [St.put]
  refine hK1 _ ?_
  refine aw_seq_k fun K2 hK2 => ?_
  refine aw_region ?_
  refine aops_n rfl (n_as rfl (by constructor)) ?_
  refine aops_nil ?_
  dsimp only [St.put]
  refine hK2 _ ?_
  refine aw_adopt 5 54 5 rfl (by decide) ?_
  dsimp only [List.set_cons_zero, List.set_cons_succ]
  refine aw_seq_k fun K3 hK3 => ?_
  refine aw_seq_k fun K4 hK4 => ?_
  refine aw_region ?_
  refine aops_n rfl (n_as rfl (by constructor)) ?_
  refine aops_nil ?_
  dsimp only [St.put]
  refine hK4 _ ?_
  refine aw_block ?_
  refine aw_wipe 8 ?_
  simp only [firsts, getA, Nat.reduceAdd, List.getD_cons_zero, List.getD_cons_succ, List.getD_nil, natBeq, Nat.reduceBEq, cond_true, cond_false]
  refine aw_forget (setG G nx (.tip 0 54 5)) (by (repeat' (refine subG_set (by (try dsimp only); repeat (first | exact setG_same _ _ _ | assumption | rw [setG_other (by omega)] | rw [delG_other (by omega)])) ?_)); exact (fun n o h => by first | exact h | (have := hlt n o h; (try dsimp only); repeat (first | exact h | rw [setG_other (by omega)] | rw [delG_other (by omega)])))) ?_
  dsimp only
  refine aw_loopD (X := Nat) (fun k => k ≤ t.length) (fun k => t.length - k) (fun k => [(5, .list ((allTo t u k).map cells) (.tip nx)), (6, .v (.int .i64 (k : Int))), (7, .any)]) (fun k G' => setG G nx (.tip (allTo t u k).length 54 5)) 0 rfl ?_ ?_ ?_ ?_ ?_ ?_
  · exact Nat.zero_le _
  · exact (by repeat' (first | exact trivial | refine ⟨?_, ?_⟩ | exact .inr rfl | exact .inl rfl | exact .inr (congrArg C.v (congrArg (Value.int _) (by simp; try omega)))))
  · exact (by (repeat' (refine subG_set (by (try dsimp only); repeat (first | exact setG_same _ _ _ | assumption | rw [setG_other (by omega)] | rw [delG_other (by omega)])) ?_)); exact (fun n o h => by first | exact h | (have := hlt n o h; (try dsimp only); repeat (first | exact h | rw [setG_other (by omega)] | rw [delG_other (by omega)]))))
  · rintro k hI
    exact (by (try dsimp only); repeat' (first | exact trivial | refine ⟨?_, ?_⟩ | exact .v | exact .any | exact lst_low _ _ | exact cells_low _ _ | exact val_low _ _ | exact data_low _ (by (try dsimp only); omega) | exact .box (by (try dsimp only); omega) | exact nil_low | exact low_nil | refine set_low ?_ ?_ | exact .arr (by (try dsimp only); omega) | refine low_cons ?_ ?_ | exact lst_low _ _))
  · rintro k hI
    exact (by (repeat' (refine lowG_set ?_ (by (try dsimp only); omega) ?_)); all_goals (first | exact lowG_base (fun n o h => by first | exact h | (have := hlt n o h; (try dsimp only); repeat (first | exact h | rw [setG_other (by omega)] | rw [delG_other (by omega)]))) | (repeat' (first | exact trivial | refine ⟨?_, ?_⟩ | exact .v | exact .any | exact lst_low _ _ | exact cells_low _ _ | exact val_low _ _ | exact data_low _ (by (try dsimp only); omega) | exact .box (by (try dsimp only); omega) | exact nil_low | exact low_nil | refine set_low ?_ ?_ | exact .arr (by (try dsimp only); omega) | refine low_cons ?_ ?_ | exact lst_low _ _))))
  · rintro k hI
    dsimp only at hI ⊢
    refine aw_seq_k fun K5 hK5 => ?_
    refine aw_seq_k fun K6 hK6 => ?_
    refine aw_region ?_
    refine aops_n rfl (n_mv rfl (by constructor)) ?_
    first | refine aops_n rfl (n_fieldAddr' rfl rfl rfl) ?_ | refine aops_n rfl (n_fieldAddr_box rfl rfl) ?_
    try dsimp only [St.put]
    first | refine aops_s rfl (s_load rfl rfl) ?_ | refine aops_s rfl (s_load_agg' rfl rfl (Enc.len _)) ?_ | refine aops_s rfl (s_load_agg' rfl rfl rfl) ?_ | refine aops_s rfl (s_load_box rfl rfl (by (try dsimp only); repeat (first | exact setG_same _ _ _ | assumption | rw [setG_other (by omega)] | rw [delG_other (by omega)])) trivial (by first | rfl | assumption)) ?_ | refine aops_s rfl (s_load_box_all rfl rfl (by (try dsimp only); repeat (first | exact setG_same _ _ _ | assumption | rw [setG_other (by omega)] | rw [delG_other (by omega)])) trivial (by rfl)) ?_ | refine aops_s rfl (s_load_box_agg rfl rfl (by (try dsimp only); repeat (first | exact setG_same _ _ _ | assumption | rw [setG_other (by omega)] | rw [delG_other (by omega)])) trivial (by simp)) ?_
    first | refine aops_n rfl (n_len' rfl rfl (List.length_map _)) ?_ | refine aops_n rfl (n_len' rfl rfl rfl) ?_ | refine aops_n rfl (n_lenstr' rfl rfl) ?_ | refine aops_n rfl (n_len_arr rfl rfl) ?_
    refine aops_n rfl (n_lss rfl rfl rfl) ?_
    refine aops_nil ?_
    dsimp only [St.put]
    refine hK6 _ ?_
    refine aw_cond rfl (fun hc => ?_) (fun hc => ?_)
    · replace hc := of_decide_eq_true hc
      obtain ⟨c, hx⟩ : ∃ x, t[k]? = some x := some_of_lt (by omega)
      obtain ⟨d, hy⟩ : ∃ x, u[k]? = some x := some_of_lt (by omega)
      have hcl := (text_lines h1 hx).1
      have hdl := alike_lines h3 hx hy
      refine aw_skip ?_
      refine hK5 _ ?_
      refine aw_seq_k fun K7 hK7 => ?_
      refine aw_block ?_
      refine aw_seq_k fun K8 hK8 => ?_
      refine aw_region ?_
      refine aops_n rfl (n_as rfl (by constructor)) ?_
      refine aops_nil ?_
      dsimp only [St.put]
      refine hK8 _ ?_
      refine aw_block ?_
      refine aw_wipe 8 ?_
      simp only [firsts, getA, Nat.reduceAdd, List.getD_cons_zero, List.getD_cons_succ, List.getD_nil, natBeq, Nat.reduceBEq, cond_true, cond_false]
      refine aw_forget (setG G nx (.tip (allTo t u k).length 54 5)) (by (repeat' (refine subG_set (by (try dsimp only); repeat (first | exact setG_same _ _ _ | assumption | rw [setG_other (by omega)] | rw [delG_other (by omega)])) ?_)); exact (fun n o h => by first | exact h | (have := hlt n o h; (try dsimp only); repeat (first | exact h | rw [setG_other (by omega)] | rw [delG_other (by omega)])))) ?_
      dsimp only
      refine aw_loopD (X := Nat) (fun n => n ≤ c.lines.length) (fun n => c.lines.length - n) (fun n => [(5, .list ((upTo t u k n).map cells) (.tip nx)), (7, .v (.int .i64 (n : Int)))]) (fun n G' => setG G nx (.tip (upTo t u k n).length 54 5)) 0 rfl ?_ ?_ ?_ ?_ ?_ ?_
      · exact Nat.zero_le _
      · exact (by repeat' (first | exact trivial | refine ⟨?_, ?_⟩ | exact .inr rfl | exact .inl rfl | exact .inr (congrArg C.v (congrArg (Value.int _) (by simp; try omega)))))
      · exact (by (repeat' (refine subG_set (by (try dsimp only); repeat (first | exact setG_same _ _ _ | assumption | rw [setG_other (by omega)] | rw [delG_other (by omega)])) ?_)); exact (fun n o h => by first | exact h | (have := hlt n o h; (try dsimp only); repeat (first | exact h | rw [setG_other (by omega)] | rw [delG_other (by omega)]))))
      · rintro n hI
        exact (by (try dsimp only); repeat' (first | exact trivial | refine ⟨?_, ?_⟩ | exact .v | exact .any | exact lst_low _ _ | exact cells_low _ _ | exact val_low _ _ | exact data_low _ (by (try dsimp only); omega) | exact .box (by (try dsimp only); omega) | exact nil_low | exact low_nil | refine set_low ?_ ?_ | exact .arr (by (try dsimp only); omega) | refine low_cons ?_ ?_ | exact lst_low _ _))
      · rintro n hI
        exact (by (repeat' (refine lowG_set ?_ (by (try dsimp only); omega) ?_)); all_goals (first | exact lowG_base (fun n o h => by first | exact h | (have := hlt n o h; (try dsimp only); repeat (first | exact h | rw [setG_other (by omega)] | rw [delG_other (by omega)]))) | (repeat' (first | exact trivial | refine ⟨?_, ?_⟩ | exact .v | exact .any | exact lst_low _ _ | exact cells_low _ _ | exact val_low _ _ | exact data_low _ (by (try dsimp only); omega) | exact .box (by (try dsimp only); omega) | exact nil_low | exact low_nil | refine set_low ?_ ?_ | exact .arr (by (try dsimp only); omega) | refine low_cons ?_ ?_ | exact lst_low _ _))))
      · rintro n hJ
        dsimp only at hJ ⊢
        refine aw_seq_k fun K9 hK9 => ?_
        refine aw_seq_k fun K10 hK10 => ?_
        refine aw_region ?_
        refine aops_n rfl (n_mv rfl (by constructor)) ?_
        first | refine aops_n rfl (n_fieldAddr' rfl rfl rfl) ?_ | refine aops_n rfl (n_fieldAddr_box rfl rfl) ?_
        try dsimp only [St.put]
        first | refine aops_s rfl (s_load rfl rfl) ?_ | refine aops_s rfl (s_load_agg' rfl rfl (Enc.len _)) ?_ | refine aops_s rfl (s_load_agg' rfl rfl rfl) ?_ | refine aops_s rfl (s_load_box rfl rfl (by (try dsimp only); repeat (first | exact setG_same _ _ _ | assumption | rw [setG_other (by omega)] | rw [delG_other (by omega)])) trivial (by first | rfl | assumption)) ?_ | refine aops_s rfl (s_load_box_all rfl rfl (by (try dsimp only); repeat (first | exact setG_same _ _ _ | assumption | rw [setG_other (by omega)] | rw [delG_other (by omega)])) trivial (by rfl)) ?_ | refine aops_s rfl (s_load_box_agg rfl rfl (by (try dsimp only); repeat (first | exact setG_same _ _ _ | assumption | rw [setG_other (by omega)] | rw [delG_other (by omega)])) trivial (by simp)) ?_
        refine aops_n rfl (n_mv rfl (by constructor)) ?_
        first | refine aops_n rfl (n_indexAddr rfl rfl rfl rfl (map_get (by assumption)) (Enc.len _)) ?_ | refine aops_n rfl (n_indexAddr rfl rfl rfl rfl (by assumption) rfl) ?_ | refine aops_n rfl (n_indexAddr_arr1 rfl rfl rfl (by first | exact idx_succ _ | exact rfl) (by omega)) ?_ | refine aops_n rfl (n_indexAddr rfl rfl rfl (by omega) (map_get (by assumption)) (Enc.len _)) ?_
        first | refine aops_n rfl (n_fieldAddr' rfl rfl rfl) ?_ | refine aops_n rfl (n_fieldAddr_box rfl rfl) ?_
        try dsimp only [St.put]
        first | refine aops_s rfl (s_load rfl rfl) ?_ | refine aops_s rfl (s_load_agg' rfl rfl (Enc.len _)) ?_ | refine aops_s rfl (s_load_agg' rfl rfl rfl) ?_ | refine aops_s rfl (s_load_box rfl rfl (by (try dsimp only); repeat (first | exact setG_same _ _ _ | assumption | rw [setG_other (by omega)] | rw [delG_other (by omega)])) trivial (by first | rfl | assumption)) ?_ | refine aops_s rfl (s_load_box_all rfl rfl (by (try dsimp only); repeat (first | exact setG_same _ _ _ | assumption | rw [setG_other (by omega)] | rw [delG_other (by omega)])) trivial (by rfl)) ?_ | refine aops_s rfl (s_load_box_agg rfl rfl (by (try dsimp only); repeat (first | exact setG_same _ _ _ | assumption | rw [setG_other (by omega)] | rw [delG_other (by omega)])) trivial (by simp)) ?_
        first | refine aops_n rfl (n_len' rfl rfl (List.length_map _)) ?_ | refine aops_n rfl (n_len' rfl rfl rfl) ?_ | refine aops_n rfl (n_lenstr' rfl rfl) ?_ | refine aops_n rfl (n_len_arr rfl rfl) ?_
        refine aops_n rfl (n_lss rfl rfl rfl) ?_
        refine aops_nil ?_
        dsimp only [St.put]
        refine hK10 _ ?_
        refine aw_cond rfl (fun hc => ?_) (fun hc => ?_)
        · replace hc := of_decide_eq_true hc
          obtain ⟨l, hl⟩ : ∃ x, c.lines[n]? = some x := some_of_lt (by omega)
          obtain ⟨m, hm⟩ : ∃ x, d.lines[n]? = some x := some_of_lt (by omega)
          have hll := text_words h1 hx hl
          have hml := text_words h2 hy hm
          have hup := upTo_len h1 h2 k n
          have hed := edits_len0 l m (k : Int) (n : Int)
          refine aw_skip ?_
          refine hK9 _ ?_
          refine aw_seq_k fun K11 hK11 => ?_
          refine aw_block ?_
          refine aw_draw [(0, none), (1, none), (2, none), (3, none), (4, none), (5, none), (6, none), (7, none), (8, none), (9, none), (10, none), (11, none), (12, none), (13, none), (14, none), (15, none), (16, none), (17, none), (18, none), (19, none), (20, none), (21, none), (22, none), (23, none)] (fun i => [21, 22].contains i) (fun i => [21, 22].contains i) (fun i => [0, 1, 3, 4, 5, 7, 8, 10, 12, 13, 14, 16, 17, 19, 20, 23].contains i) [] (by kernel_rfl) (by kernel_rfl) ?_
          refine acan1_n rfl rfl rfl rfl (n_mv rfl (by constructor)) ?_
          first | refine acan1_n rfl rfl rfl rfl (n_fieldAddr' rfl rfl rfl) ?_ | refine acan1_n rfl rfl rfl rfl (n_fieldAddr_box rfl rfl) ?_
          try dsimp only [St.put]
          first | refine acan1_s rfl rfl rfl rfl (s_load rfl rfl) ?_ | refine acan1_s rfl rfl rfl rfl (s_load_agg' rfl rfl (Enc.len _)) ?_ | refine acan1_s rfl rfl rfl rfl (s_load_agg' rfl rfl rfl) ?_ | refine acan1_s rfl rfl rfl rfl (s_load_box rfl rfl (by (try dsimp only); repeat (first | exact setG_same _ _ _ | assumption | rw [setG_other (by omega)] | rw [delG_other (by omega)])) (by simp) (by first | rfl | assumption)) ?_ | refine acan1_s rfl rfl rfl rfl (s_load_box_all rfl rfl (by (try dsimp only); repeat (first | exact setG_same _ _ _ | assumption | rw [setG_other (by omega)] | rw [delG_other (by omega)])) (by simp) (by rfl)) ?_ | refine acan1_s rfl rfl rfl rfl (s_load_box_agg rfl rfl (by (try dsimp only); repeat (first | exact setG_same _ _ _ | assumption | rw [setG_other (by omega)] | rw [delG_other (by omega)])) (by simp) (by simp)) ?_
          refine acan1_n rfl rfl rfl rfl (n_mv rfl (by constructor)) ?_
          first | refine acan1_n rfl rfl rfl rfl (n_indexAddr rfl rfl rfl rfl (map_get (by assumption)) (Enc.len _)) ?_ | refine acan1_n rfl rfl rfl rfl (n_indexAddr rfl rfl rfl rfl (by assumption) rfl) ?_ | refine acan1_n rfl rfl rfl rfl (n_indexAddr_arr1 rfl rfl rfl (by first | exact idx_succ _ | exact rfl) (by omega)) ?_ | refine acan1_n rfl rfl rfl rfl (n_indexAddr rfl rfl rfl (by omega) (map_get (by assumption)) (Enc.len _)) ?_
          first | refine acan1_n rfl rfl rfl rfl (n_fieldAddr' rfl rfl rfl) ?_ | refine acan1_n rfl rfl rfl rfl (n_fieldAddr_box rfl rfl) ?_
          try dsimp only [St.put]
          first | refine acan1_s rfl rfl rfl rfl (s_load rfl rfl) ?_ | refine acan1_s rfl rfl rfl rfl (s_load_agg' rfl rfl (Enc.len _)) ?_ | refine acan1_s rfl rfl rfl rfl (s_load_agg' rfl rfl rfl) ?_ | refine acan1_s rfl rfl rfl rfl (s_load_box rfl rfl (by (try dsimp only); repeat (first | exact setG_same _ _ _ | assumption | rw [setG_other (by omega)] | rw [delG_other (by omega)])) (by simp) (by first | rfl | assumption)) ?_ | refine acan1_s rfl rfl rfl rfl (s_load_box_all rfl rfl (by (try dsimp only); repeat (first | exact setG_same _ _ _ | assumption | rw [setG_other (by omega)] | rw [delG_other (by omega)])) (by simp) (by rfl)) ?_ | refine acan1_s rfl rfl rfl rfl (s_load_box_agg rfl rfl (by (try dsimp only); repeat (first | exact setG_same _ _ _ | assumption | rw [setG_other (by omega)] | rw [delG_other (by omega)])) (by simp) (by simp)) ?_
          refine acan1_n rfl rfl rfl rfl (n_mv rfl (by constructor)) ?_
          first | refine acan1_n rfl rfl rfl rfl (n_indexAddr rfl rfl rfl rfl (map_get (by assumption)) (Enc.len _)) ?_ | refine acan1_n rfl rfl rfl rfl (n_indexAddr rfl rfl rfl rfl (by assumption) rfl) ?_ | refine acan1_n rfl rfl rfl rfl (n_indexAddr_arr1 rfl rfl rfl (by first | exact idx_succ _ | exact rfl) (by omega)) ?_ | refine acan1_n rfl rfl rfl rfl (n_indexAddr rfl rfl rfl (by omega) (map_get (by assumption)) (Enc.len _)) ?_
          try dsimp only [St.put]
          first | refine acan1_s rfl rfl rfl rfl (s_load rfl rfl) ?_ | refine acan1_s rfl rfl rfl rfl (s_load_agg' rfl rfl (Enc.len _)) ?_ | refine acan1_s rfl rfl rfl rfl (s_load_agg' rfl rfl rfl) ?_ | refine acan1_s rfl rfl rfl rfl (s_load_box rfl rfl (by (try dsimp only); repeat (first | exact setG_same _ _ _ | assumption | rw [setG_other (by omega)] | rw [delG_other (by omega)])) (by simp) (by first | rfl | assumption)) ?_ | refine acan1_s rfl rfl rfl rfl (s_load_box_all rfl rfl (by (try dsimp only); repeat (first | exact setG_same _ _ _ | assumption | rw [setG_other (by omega)] | rw [delG_other (by omega)])) (by simp) (by rfl)) ?_ | refine acan1_s rfl rfl rfl rfl (s_load_box_agg rfl rfl (by (try dsimp only); repeat (first | exact setG_same _ _ _ | assumption | rw [setG_other (by omega)] | rw [delG_other (by omega)])) (by simp) (by simp)) ?_
          first | refine acan1_n rfl rfl rfl rfl (n_fieldAddr' rfl rfl rfl) ?_ | refine acan1_n rfl rfl rfl rfl (n_fieldAddr_box rfl rfl) ?_
          try dsimp only [St.put]
          first | refine acan1_s rfl rfl rfl rfl (s_load rfl rfl) ?_ | refine acan1_s rfl rfl rfl rfl (s_load_agg' rfl rfl (Enc.len _)) ?_ | refine acan1_s rfl rfl rfl rfl (s_load_agg' rfl rfl rfl) ?_ | refine acan1_s rfl rfl rfl rfl (s_load_box rfl rfl (by (try dsimp only); repeat (first | exact setG_same _ _ _ | assumption | rw [setG_other (by omega)] | rw [delG_other (by omega)])) (by simp) (by first | rfl | assumption)) ?_ | refine acan1_s rfl rfl rfl rfl (s_load_box_all rfl rfl (by (try dsimp only); repeat (first | exact setG_same _ _ _ | assumption | rw [setG_other (by omega)] | rw [delG_other (by omega)])) (by simp) (by rfl)) ?_ | refine acan1_s rfl rfl rfl rfl (s_load_box_agg rfl rfl (by (try dsimp only); repeat (first | exact setG_same _ _ _ | assumption | rw [setG_other (by omega)] | rw [delG_other (by omega)])) (by simp) (by simp)) ?_
          refine acan1_n rfl rfl rfl rfl (n_mv rfl (by constructor)) ?_
          first | refine acan1_n rfl rfl rfl rfl (n_indexAddr rfl rfl rfl rfl (map_get (by assumption)) (Enc.len _)) ?_ | refine acan1_n rfl rfl rfl rfl (n_indexAddr rfl rfl rfl rfl (by assumption) rfl) ?_ | refine acan1_n rfl rfl rfl rfl (n_indexAddr_arr1 rfl rfl rfl (by first | exact idx_succ _ | exact rfl) (by omega)) ?_ | refine acan1_n rfl rfl rfl rfl (n_indexAddr rfl rfl rfl (by omega) (map_get (by assumption)) (Enc.len _)) ?_
          first | refine acan1_n rfl rfl rfl rfl (n_fieldAddr' rfl rfl rfl) ?_ | refine acan1_n rfl rfl rfl rfl (n_fieldAddr_box rfl rfl) ?_
          try dsimp only [St.put]
          first | refine acan1_s rfl rfl rfl rfl (s_load rfl rfl) ?_ | refine acan1_s rfl rfl rfl rfl (s_load_agg' rfl rfl (Enc.len _)) ?_ | refine acan1_s rfl rfl rfl rfl (s_load_agg' rfl rfl rfl) ?_ | refine acan1_s rfl rfl rfl rfl (s_load_box rfl rfl (by (try dsimp only); repeat (first | exact setG_same _ _ _ | assumption | rw [setG_other (by omega)] | rw [delG_other (by omega)])) (by simp) (by first | rfl | assumption)) ?_ | refine acan1_s rfl rfl rfl rfl (s_load_box_all rfl rfl (by (try dsimp only); repeat (first | exact setG_same _ _ _ | assumption | rw [setG_other (by omega)] | rw [delG_other (by omega)])) (by simp) (by rfl)) ?_ | refine acan1_s rfl rfl rfl rfl (s_load_box_agg rfl rfl (by (try dsimp only); repeat (first | exact setG_same _ _ _ | assumption | rw [setG_other (by omega)] | rw [delG_other (by omega)])) (by simp) (by simp)) ?_
          refine acan1_n rfl rfl rfl rfl (n_mv rfl (by constructor)) ?_
          first | refine acan1_n rfl rfl rfl rfl (n_indexAddr rfl rfl rfl rfl (map_get (by assumption)) (Enc.len _)) ?_ | refine acan1_n rfl rfl rfl rfl (n_indexAddr rfl rfl rfl rfl (by assumption) rfl) ?_ | refine acan1_n rfl rfl rfl rfl (n_indexAddr_arr1 rfl rfl rfl (by first | exact idx_succ _ | exact rfl) (by omega)) ?_ | refine acan1_n rfl rfl rfl rfl (n_indexAddr rfl rfl rfl (by omega) (map_get (by assumption)) (Enc.len _)) ?_
          try dsimp only [St.put]
          first | refine acan1_s rfl rfl rfl rfl (s_load rfl rfl) ?_ | refine acan1_s rfl rfl rfl rfl (s_load_agg' rfl rfl (Enc.len _)) ?_ | refine acan1_s rfl rfl rfl rfl (s_load_agg' rfl rfl rfl) ?_ | refine acan1_s rfl rfl rfl rfl (s_load_box rfl rfl (by (try dsimp only); repeat (first | exact setG_same _ _ _ | assumption | rw [setG_other (by omega)] | rw [delG_other (by omega)])) (by simp) (by first | rfl | assumption)) ?_ | refine acan1_s rfl rfl rfl rfl (s_load_box_all rfl rfl (by (try dsimp only); repeat (first | exact setG_same _ _ _ | assumption | rw [setG_other (by omega)] | rw [delG_other (by omega)])) (by simp) (by rfl)) ?_ | refine acan1_s rfl rfl rfl rfl (s_load_box_agg rfl rfl (by (try dsimp only); repeat (first | exact setG_same _ _ _ | assumption | rw [setG_other (by omega)] | rw [delG_other (by omega)])) (by simp) (by simp)) ?_
          refine acan1_n rfl rfl rfl rfl (n_mv rfl (by constructor)) ?_
          refine acan1_n rfl rfl rfl rfl (n_mv rfl (by constructor)) ?_
          refine acan1_two ?_
          try dsimp only [St.put]
          refine acan2_late rfl rfl rfl rfl (e_call_pure rfl rfl rfl (found_pure l m (by omega) (by omega) (k : Int) (n : Int)) ?_)
          try dsimp only [St.put]
          refine acan2_late rfl rfl rfl rfl (e_append (edits l m (k : Int) (n : Int) 0 0) rfl rfl (by (try dsimp only); repeat (first | exact setG_same _ _ _ | assumption | rw [setG_other (by omega)] | rw [delG_other (by omega)])) (by first | rfl | simp) rfl rfl (by first | omega | (simp only [List.length_take, List.length_cons, List.length_nil, List.length_append, List.length_map]; omega) | (simp; omega)) ?_ (by first | omega | (simp only [List.length_take, List.length_cons, List.length_nil, List.length_append, List.length_map]; omega) | (simp; omega)))
          refine acan2_n rfl rfl rfl rfl (n_as rfl (by constructor)) ?_
          refine acan2_nil ?_
          dsimp only [St.put]
          refine hK11 _ ?_
          refine aw_region ?_
          refine aops_n rfl (n_mv rfl (by constructor)) ?_
          first | refine aops_n rfl (n_add rfl rfl rfl (by omega)) ?_ | refine aops_n rfl (n_addw rfl rfl rfl) ?_
          refine aops_n rfl (n_as rfl (by constructor)) ?_
          refine aops_nil ?_
          dsimp only [St.put]
          rw [upTo_next hx hy hl hm]
          exact ⟨n + 1, by omega, by omega, ⟨rfl, (by repeat' (first | exact trivial | refine ⟨?_, ?_⟩ | exact .inr rfl | exact .inl rfl | exact .inr (congrArg C.v (congrArg (Value.int _) (by simp; try omega))))), (by first | exact .inl rfl | (refine .inr ?_; repeat' (first | exact trivial | refine ⟨?_, ?_⟩ | exact .inr rfl | exact .inl rfl | exact .inr (congrArg C.v (congrArg (Value.int _) (by simp; try omega)))))), (by first | exact Nat.le_refl _ | omega | (simp; try omega)), (by (repeat' (refine subG_set (by (try dsimp only); repeat (first | exact setG_same _ _ _ | assumption | rw [setG_other (by omega)] | rw [delG_other (by omega)])) ?_)); exact (fun n o h => by first | exact h | (have := hlt n o h; (try dsimp only); repeat (first | exact h | rw [setG_other (by omega)] | rw [delG_other (by omega)]))))⟩⟩
        · replace hc := of_decide_eq_false hc
          obtain rfl : n = c.lines.length := by omega
          rw [upTo_all u hx]
          refine aw_exit ?_
          refine hK7 _ ?_
          refine aw_region ?_
          refine aops_n rfl (n_mv rfl (by constructor)) ?_
          first | refine aops_n rfl (n_add rfl rfl rfl (by omega)) ?_ | refine aops_n rfl (n_addw rfl rfl rfl) ?_
          refine aops_n rfl (n_as rfl (by constructor)) ?_
          refine aops_nil ?_
          dsimp only [St.put]
          exact ⟨k + 1, by omega, by omega, ⟨rfl, (by repeat' (first | exact trivial | refine ⟨?_, ?_⟩ | exact .inr rfl | exact .inl rfl | exact .inr (congrArg C.v (congrArg (Value.int _) (by simp; try omega))))), (by first | exact .inl rfl | (refine .inr ?_; repeat' (first | exact trivial | refine ⟨?_, ?_⟩ | exact .inr rfl | exact .inl rfl | exact .inr (congrArg C.v (congrArg (Value.int _) (by simp; try omega)))))), (by first | exact Nat.le_refl _ | omega | (simp; try omega)), (by (repeat' (refine subG_set (by (try dsimp only); repeat (first | exact setG_same _ _ _ | assumption | rw [setG_other (by omega)] | rw [delG_other (by omega)])) ?_)); exact (fun n o h => by first | exact h | (have := hlt n o h; (try dsimp only); repeat (first | exact h | rw [setG_other (by omega)] | rw [delG_other (by omega)]))))⟩⟩
    · replace hc := of_decide_eq_false hc
      obtain rfl : k = t.length := by omega
      refine aw_exit ?_
      refine hK3 _ ?_
      refine aw_seq_k fun K12 hK12 => ?_
      refine aw_region ?_
      refine aops_n rfl (n_mv rfl (by constructor)) ?_
      refine aops_n rfl (n_as rfl (by constructor)) ?_
      refine aops_nil ?_
      dsimp only [St.put]
      refine hK12 _ ?_
      refine aw_ret ?_
      refine ends_v1 rfl (rv_tmp (by constructor)) (by first | exact Nat.le_refl _ | omega | (simp; try omega)) (fun n o h => by first | exact h | (have := hlt n o h; (try dsimp only); repeat (first | exact h | rw [setG_other (by omega)] | rw [delG_other (by omega)]))) ?_
      exact (by repeat' (first | exact Wk.refl _ | exact Wk.tok | refine Wk.agg ?_ | refine ⟨?_, ?_⟩ | exact trivial))

theorem Apart_pure (t u : TextD) : Pure Try.prog 9 [textC t, textC u] (.tup [.v (.int .i64 (apartN t u)), .v (.int .i64 (twoE t u))]) := by
  refine pure_of_body Try.func9 rfl (fun m => (.tup (low_cons .v (low_cons .v low_nil)))) fun G nx => ?_
  simp only [Try.ntmps9, List.length_cons, List.length_nil, Nat.reduceAdd, Nat.reduceSub]
  refine aw_lt fun hlt => ?_
  dsimp only at hlt
  refine aw_seq_k fun K1 hK1 => ?_
  refine aw_region ?_
  try dsimp only [St.put]
  refine aops_e rfl (e_box rfl rfl (by simp) ?_)
  try dsimp only [St.put]
  refine aops_e rfl (e_box rfl rfl (by simp) ?_)
  refine aops_n rfl (n_as rfl (by constructor)) ?_
  refine aops_n rfl (n_as rfl (by constructor)) ?_
  refine aops_nil ?_
  dsimp only [St.put]
  refine hK1 _ ?_
  refine aw_seq_k fun K2 hK2 => ?_
  refine aw_seq_k fun K3 hK3 => ?_
  refine aw_region ?_
  try dsimp only [St.put]
  first | refine aops_s rfl (s_load rfl rfl) ?_ | refine aops_s rfl (s_load_agg' rfl rfl (Enc.len _)) ?_ | refine aops_s rfl (s_load_agg' rfl rfl rfl) ?_ | refine aops_s rfl (s_load_box rfl rfl (by (try dsimp only); repeat (first | exact setG_same _ _ _ | assumption | rw [setG_other (by omega)] | rw [delG_other (by omega)])) trivial (by first | rfl | assumption)) ?_ | refine aops_s rfl (s_load_box_all rfl rfl (by (try dsimp only); repeat (first | exact setG_same _ _ _ | assumption | rw [setG_other (by omega)] | rw [delG_other (by omega)])) trivial (by rfl)) ?_ | refine aops_s rfl (s_load_box_agg rfl rfl (by (try dsimp only); repeat (first | exact setG_same _ _ _ | assumption | rw [setG_other (by omega)] | rw [delG_other (by omega)])) trivial (by simp)) ?_
  try dsimp only [St.put]
  first | refine aops_s rfl (s_load rfl rfl) ?_ | refine aops_s rfl (s_load_agg' rfl rfl (Enc.len _)) ?_ | refine aops_s rfl (s_load_agg' rfl rfl rfl) ?_ | refine aops_s rfl (s_load_box rfl rfl (by (try dsimp only); repeat (first | exact setG_same _ _ _ | assumption | rw [setG_other (by omega)] | rw [delG_other (by omega)])) trivial (by first | rfl | assumption)) ?_ | refine aops_s rfl (s_load_box_all rfl rfl (by (try dsimp only); repeat (first | exact setG_same _ _ _ | assumption | rw [setG_other (by omega)] | rw [delG_other (by omega)])) trivial (by rfl)) ?_ | refine aops_s rfl (s_load_box_agg rfl rfl (by (try dsimp only); repeat (first | exact setG_same _ _ _ | assumption | rw [setG_other (by omega)] | rw [delG_other (by omega)])) trivial (by simp)) ?_
  try dsimp only [St.put]
  refine aops_e rfl (e_call_pure rfl rfl rfl (two_pure t u) ?_)
  refine aops_n rfl (n_as rfl (by constructor)) ?_
  refine aops_nil ?_
  dsimp only [St.put]
  refine hK3 _ ?_
  refine aw_seq_k fun K4 hK4 => ?_
  refine aw_region ?_
  refine aops_n rfl (n_mv rfl (by constructor)) ?_
  refine aops_n rfl (n_neq rfl rfl rfl) ?_
  refine aops_nil ?_
  dsimp only [St.put]
  refine hK4 _ ?_
  refine aw_cond rfl (fun hc => ?_) (fun hc => ?_)
  · have hn : twoE t u ≠ 0 := by simpa using hc
    refine aw_seq_k fun K5 hK5 => ?_
    refine aw_region ?_
    refine aops_n rfl (n_mv rfl (by constructor)) ?_
    refine aops_n rfl (n_as rfl (by constructor)) ?_
    refine aops_n rfl (n_as rfl (by constructor)) ?_
    refine aops_nil ?_
    dsimp only [St.put]
    refine hK5 _ ?_
    refine aw_ret ?_
    refine ends_2 rfl (by constructor) (by constructor) (by first | exact Nat.le_refl _ | omega | (simp; try omega)) (fun n o h => by first | exact h | (have := hlt n o h; (try dsimp only); repeat (first | exact h | rw [setG_other (by omega)] | rw [delG_other (by omega)]))) ?_ ?_
    · rw [show apartN t u = 0 from if_neg hn]
    · rfl
  · have hn : twoE t u = 0 := by simpa using hc
    have hz := twoE_zero.1 hn
    refine aw_skip ?_
    refine hK2 _ ?_
    refine aw_seq_k fun K6 hK6 => ?_
    refine aw_region ?_
    try dsimp only [St.put]
    first | refine aops_s rfl (s_load rfl rfl) ?_ | refine aops_s rfl (s_load_agg' rfl rfl (Enc.len _)) ?_ | refine aops_s rfl (s_load_agg' rfl rfl rfl) ?_ | refine aops_s rfl (s_load_box rfl rfl (by (try dsimp only); repeat (first | exact setG_same _ _ _ | assumption | rw [setG_other (by omega)] | rw [delG_other (by omega)])) trivial (by first | rfl | assumption)) ?_ | refine aops_s rfl (s_load_box_all rfl rfl (by (try dsimp only); repeat (first | exact setG_same _ _ _ | assumption | rw [setG_other (by omega)] | rw [delG_other (by omega)])) trivial (by rfl)) ?_ | refine aops_s rfl (s_load_box_agg rfl rfl (by (try dsimp only); repeat (first | exact setG_same _ _ _ | assumption | rw [setG_other (by omega)] | rw [delG_other (by omega)])) trivial (by simp)) ?_
    try dsimp only [St.put]
    first | refine aops_s rfl (s_load rfl rfl) ?_ | refine aops_s rfl (s_load_agg' rfl rfl (Enc.len _)) ?_ | refine aops_s rfl (s_load_agg' rfl rfl rfl) ?_ | refine aops_s rfl (s_load_box rfl rfl (by (try dsimp only); repeat (first | exact setG_same _ _ _ | assumption | rw [setG_other (by omega)] | rw [delG_other (by omega)])) trivial (by first | rfl | assumption)) ?_ | refine aops_s rfl (s_load_box_all rfl rfl (by (try dsimp only); repeat (first | exact setG_same _ _ _ | assumption | rw [setG_other (by omega)] | rw [delG_other (by omega)])) trivial (by rfl)) ?_ | refine aops_s rfl (s_load_box_agg rfl rfl (by (try dsimp only); repeat (first | exact setG_same _ _ _ | assumption | rw [setG_other (by omega)] | rw [delG_other (by omega)])) trivial (by simp)) ?_
    try dsimp only [St.put]
    refine aops_e rfl (e_call_pure rfl rfl rfl (readings_pure t u hz.1 hz.2.1 hz.2.2) ?_)
    first | refine aops_n rfl (n_len' rfl rfl (List.length_map _)) ?_ | refine aops_n rfl (n_len' rfl rfl rfl) ?_ | refine aops_n rfl (n_lenstr' rfl rfl) ?_ | refine aops_n rfl (n_len_arr rfl rfl) ?_
    refine aops_n rfl (n_as rfl (by constructor)) ?_
    refine aops_n rfl (n_as rfl (by constructor)) ?_
    refine aops_nil ?_
    dsimp only [St.put]
    refine hK6 _ ?_
    refine aw_ret ?_
    refine ends_2 rfl (by constructor) (by constructor) (by first | exact Nat.le_refl _ | omega | (simp; try omega)) (fun n o h => by first | exact h | (have := hlt n o h; (try dsimp only); repeat (first | exact h | rw [setG_other (by omega)] | rw [delG_other (by omega)]))) ?_ ?_
    · rw [show apartN t u = (allE t u).length from if_pos hn]
    · rw [hn]

theorem Find_pure (t u : TextD) (id : Int) : Pure Try.prog 7 [textC t, textC u, .v (.int .i64 id)] (.tup [val (findC t u id), .v (.int .i64 (findE t u id))]) := by
  refine pure_of_body Try.func7 rfl (fun m => (.tup (low_cons (val_low _ _) (low_cons .v low_nil)))) fun G nx => ?_
  simp only [Try.ntmps7, List.length_cons, List.length_nil, Nat.reduceAdd, Nat.reduceSub]
  refine aw_lt fun hlt => ?_
  dsimp only at hlt
  refine aw_seq_k fun K1 hK1 => ?_
  refine aw_region ?_
  try dsimp only [St.put]
  refine aops_e rfl (e_box rfl rfl (by simp) ?_)
  try dsimp only [St.put]
  refine aops_e rfl (e_box rfl rfl (by simp) ?_)
  try dsimp only [St.put]
  refine aops_e rfl (e_allocC rfl ?_)
  refine aops_n rfl (n_as rfl (by constructor)) ?_
  refine aops_nil ?_
  dsimp only [St.put]
  refine hK1 _ ?_
  refine aw_seq_k fun K2 hK2 => ?_
  refine aw_seq_k fun K3 hK3 => ?_
  refine aw_region ?_
  try dsimp only [St.put]
  first | refine aops_s rfl (s_load rfl rfl) ?_ | refine aops_s rfl (s_load_agg' rfl rfl (Enc.len _)) ?_ | refine aops_s rfl (s_load_agg' rfl rfl rfl) ?_ | refine aops_s rfl (s_load_box rfl rfl (by (try dsimp only); repeat (first | exact setG_same _ _ _ | assumption | rw [setG_other (by omega)] | rw [delG_other (by omega)])) trivial (by first | rfl | assumption)) ?_ | refine aops_s rfl (s_load_box_all rfl rfl (by (try dsimp only); repeat (first | exact setG_same _ _ _ | assumption | rw [setG_other (by omega)] | rw [delG_other (by omega)])) trivial (by rfl)) ?_ | refine aops_s rfl (s_load_box_agg rfl rfl (by (try dsimp only); repeat (first | exact setG_same _ _ _ | assumption | rw [setG_other (by omega)] | rw [delG_other (by omega)])) trivial (by simp)) ?_
  try dsimp only [St.put]
  first | refine aops_s rfl (s_load rfl rfl) ?_ | refine aops_s rfl (s_load_agg' rfl rfl (Enc.len _)) ?_ | refine aops_s rfl (s_load_agg' rfl rfl rfl) ?_ | refine aops_s rfl (s_load_box rfl rfl (by (try dsimp only); repeat (first | exact setG_same _ _ _ | assumption | rw [setG_other (by omega)] | rw [delG_other (by omega)])) trivial (by first | rfl | assumption)) ?_ | refine aops_s rfl (s_load_box_all rfl rfl (by (try dsimp only); repeat (first | exact setG_same _ _ _ | assumption | rw [setG_other (by omega)] | rw [delG_other (by omega)])) trivial (by rfl)) ?_ | refine aops_s rfl (s_load_box_agg rfl rfl (by (try dsimp only); repeat (first | exact setG_same _ _ _ | assumption | rw [setG_other (by omega)] | rw [delG_other (by omega)])) trivial (by simp)) ?_
  try dsimp only [St.put]
  refine aops_e rfl (e_call_pure rfl rfl rfl (two_pure t u) ?_)
  refine aops_n rfl (n_as rfl (by constructor)) ?_
  refine aops_nil ?_
  dsimp only [St.put]
  refine hK3 _ ?_
  refine aw_seq_k fun K4 hK4 => ?_
  refine aw_region ?_
  refine aops_n rfl (n_mv rfl (by constructor)) ?_
  refine aops_n rfl (n_neq rfl rfl rfl) ?_
  refine aops_nil ?_
  dsimp only [St.put]
  refine hK4 _ ?_
  refine aw_cond rfl (fun hc => ?_) (fun hc => ?_)
  · have hn : twoE t u ≠ 0 := by simpa using hc
    have hfe : findE t u id = twoE t u := if_neg hn
    have hfc : findC t u id = ⟨0, []⟩ := if_neg (by rw [hfe]; exact hn)
    refine aw_seq_k fun K5 hK5 => ?_
    refine aw_region ?_
    refine aops_n rfl (n_build rfl rfl) ?_
    refine aops_n rfl (n_mv rfl (by constructor)) ?_
    try dsimp only [St.put]
    first | refine aops_e rfl (e_store_all rfl rfl rfl (by (try dsimp only); repeat (first | exact setG_same _ _ _ | assumption | rw [setG_other (by omega)] | rw [delG_other (by omega)])) rfl rfl (by rfl) ?_) | refine aops_e rfl (e_store_one rfl rfl rfl (by (try dsimp only); repeat (first | exact setG_same _ _ _ | assumption | rw [setG_other (by omega)] | rw [delG_other (by omega)])) (by constructor) rfl (by simp; try omega) ?_)
    refine aops_n rfl (n_as rfl (by constructor)) ?_
    refine aops_nil ?_
    dsimp only [St.put]
    refine hK5 _ ?_
    refine aw_ret ?_
    refine ends_v2 rfl (rv_box rfl (by (try dsimp only); repeat (first | exact setG_same _ _ _ | assumption | rw [setG_other (by omega)] | rw [delG_other (by omega)])) (by rfl) (by first | exact List.cons_ne_nil _ _ | simp) rfl) (rv_tmp (by constructor)) (by first | exact Nat.le_refl _ | omega | (simp; try omega)) (fun n o h => by first | exact h | (have := hlt n o h; (try dsimp only); repeat (first | exact h | rw [setG_other (by omega)] | rw [delG_other (by omega)]))) ?_ ?_
    · rw [hfc]
      show Wk _ (.agg [.v (.int .i64 0), .list [] .none])
      exact (by repeat' (first | exact Wk.refl _ | exact Wk.tok | refine Wk.agg ?_ | refine ⟨?_, ?_⟩ | exact trivial))
    · rw [hfe]
      exact (by repeat' (first | exact Wk.refl _ | exact Wk.tok | refine Wk.agg ?_ | refine ⟨?_, ?_⟩ | exact trivial))
  · have hn : twoE t u = 0 := by simpa using hc
    have hz := twoE_zero.1 hn
    have hal := allE_len hz.1 hz.2.1 hz.2.2
    refine aw_skip ?_
    refine hK2 _ ?_
    refine aw_seq_k fun K6 hK6 => ?_
    refine aw_seq_k fun K7 hK7 => ?_
    refine aw_region ?_
    refine aops_n rfl (n_mv rfl (by constructor)) ?_
    try dsimp only [St.put]
    refine aops_e rfl (e_call_pure rfl rfl rfl (within_pure _ _ _) ?_)
    refine aops_n rfl (n_not rfl rfl) ?_
    refine aops_nil ?_
    dsimp only [St.put]
    refine hK7 _ ?_
    refine aw_cond rfl (fun hc => ?_) (fun hc => ?_)
    · have hw : inB id 0 9999 = false := by simpa using hc
      have hfe : findE t u id = 2 := by unfold findE; rw [if_pos hn, if_neg (by rw [hw]; decide)]
      have hfc : findC t u id = ⟨0, []⟩ := if_neg (by rw [hfe]; decide)
      refine aw_seq_k fun K8 hK8 => ?_
      refine aw_region ?_
      refine aops_n rfl (n_build rfl rfl) ?_
      try dsimp only [St.put]
      first | refine aops_e rfl (e_store_all rfl rfl rfl (by (try dsimp only); repeat (first | exact setG_same _ _ _ | assumption | rw [setG_other (by omega)] | rw [delG_other (by omega)])) rfl rfl (by rfl) ?_) | refine aops_e rfl (e_store_one rfl rfl rfl (by (try dsimp only); repeat (first | exact setG_same _ _ _ | assumption | rw [setG_other (by omega)] | rw [delG_other (by omega)])) (by constructor) rfl (by simp; try omega) ?_)
      refine aops_n rfl (n_as rfl (by constructor)) ?_
      refine aops_nil ?_
      dsimp only [St.put]
      refine hK8 _ ?_
      refine aw_ret ?_
      refine ends_v2 rfl (rv_box rfl (by (try dsimp only); repeat (first | exact setG_same _ _ _ | assumption | rw [setG_other (by omega)] | rw [delG_other (by omega)])) (by rfl) (by first | exact List.cons_ne_nil _ _ | simp) rfl) (rv_tmp (by constructor)) (by first | exact Nat.le_refl _ | omega | (simp; try omega)) (fun n o h => by first | exact h | (have := hlt n o h; (try dsimp only); repeat (first | exact h | rw [setG_other (by omega)] | rw [delG_other (by omega)]))) ?_ ?_
      · rw [hfc]
        show Wk _ (.agg [.v (.int .i64 0), .list [] .none])
        exact (by repeat' (first | exact Wk.refl _ | exact Wk.tok | refine Wk.agg ?_ | refine ⟨?_, ?_⟩ | exact trivial))
      · rw [hfe]
        exact (by repeat' (first | exact Wk.refl _ | exact Wk.tok | refine Wk.agg ?_ | refine ⟨?_, ?_⟩ | exact trivial))
    · have hw : inB id 0 9999 = true := by simpa using hc
      refine aw_skip ?_
      refine hK6 _ ?_
      refine aw_seq_k fun K9 hK9 => ?_
      refine aw_region ?_
      try dsimp only [St.put]
      first | refine aops_s rfl (s_load rfl rfl) ?_ | refine aops_s rfl (s_load_agg' rfl rfl (Enc.len _)) ?_ | refine aops_s rfl (s_load_agg' rfl rfl rfl) ?_ | refine aops_s rfl (s_load_box rfl rfl (by (try dsimp only); repeat (first | exact setG_same _ _ _ | assumption | rw [setG_other (by omega)] | rw [delG_other (by omega)])) trivial (by first | rfl | assumption)) ?_ | refine aops_s rfl (s_load_box_all rfl rfl (by (try dsimp only); repeat (first | exact setG_same _ _ _ | assumption | rw [setG_other (by omega)] | rw [delG_other (by omega)])) trivial (by rfl)) ?_ | refine aops_s rfl (s_load_box_agg rfl rfl (by (try dsimp only); repeat (first | exact setG_same _ _ _ | assumption | rw [setG_other (by omega)] | rw [delG_other (by omega)])) trivial (by simp)) ?_
      try dsimp only [St.put]
      first | refine aops_s rfl (s_load rfl rfl) ?_ | refine aops_s rfl (s_load_agg' rfl rfl (Enc.len _)) ?_ | refine aops_s rfl (s_load_agg' rfl rfl rfl) ?_ | refine aops_s rfl (s_load_box rfl rfl (by (try dsimp only); repeat (first | exact setG_same _ _ _ | assumption | rw [setG_other (by omega)] | rw [delG_other (by omega)])) trivial (by first | rfl | assumption)) ?_ | refine aops_s rfl (s_load_box_all rfl rfl (by (try dsimp only); repeat (first | exact setG_same _ _ _ | assumption | rw [setG_other (by omega)] | rw [delG_other (by omega)])) trivial (by rfl)) ?_ | refine aops_s rfl (s_load_box_agg rfl rfl (by (try dsimp only); repeat (first | exact setG_same _ _ _ | assumption | rw [setG_other (by omega)] | rw [delG_other (by omega)])) trivial (by simp)) ?_
      try dsimp only [St.put]
      refine aops_e rfl (e_call_pure rfl rfl rfl (readings_pure t u hz.1 hz.2.1 hz.2.2) ?_)
      refine aops_n rfl (n_as rfl (by constructor)) ?_
      refine aops_nil ?_
      dsimp only [St.put]
      refine hK9 _ ?_
      refine aw_seq_k fun K10 hK10 => ?_
      refine aw_seq_k fun K11 hK11 => ?_
      refine aw_region ?_
      refine aops_n rfl (n_mv rfl (by constructor)) ?_
      first | refine aops_n rfl (n_len' rfl rfl (List.length_map _)) ?_ | refine aops_n rfl (n_len' rfl rfl rfl) ?_ | refine aops_n rfl (n_lenstr' rfl rfl) ?_ | refine aops_n rfl (n_len_arr rfl rfl) ?_
      refine aops_n rfl (n_gtr rfl rfl rfl) ?_
      refine aops_nil ?_
      dsimp only [St.put]
      refine hK11 _ ?_
      refine aw_cond rfl (fun hc => ?_) (fun hc => ?_)
      · replace hc := of_decide_eq_true hc
        have hfe : findE t u id = 4 := by unfold findE; rw [if_pos hn, if_pos hw, if_pos (by omega)]
        have hfc : findC t u id = ⟨0, []⟩ := if_neg (by rw [hfe]; decide)
        refine aw_seq_k fun K12 hK12 => ?_
        refine aw_region ?_
        refine aops_n rfl (n_build rfl rfl) ?_
        try dsimp only [St.put]
        first | refine aops_e rfl (e_store_all rfl rfl rfl (by (try dsimp only); repeat (first | exact setG_same _ _ _ | assumption | rw [setG_other (by omega)] | rw [delG_other (by omega)])) rfl rfl (by rfl) ?_) | refine aops_e rfl (e_store_one rfl rfl rfl (by (try dsimp only); repeat (first | exact setG_same _ _ _ | assumption | rw [setG_other (by omega)] | rw [delG_other (by omega)])) (by constructor) rfl (by simp; try omega) ?_)
        refine aops_n rfl (n_as rfl (by constructor)) ?_
        refine aops_nil ?_
        dsimp only [St.put]
        refine hK12 _ ?_
        refine aw_ret ?_
        refine ends_v2 rfl (rv_box rfl (by (try dsimp only); repeat (first | exact setG_same _ _ _ | assumption | rw [setG_other (by omega)] | rw [delG_other (by omega)])) (by rfl) (by first | exact List.cons_ne_nil _ _ | simp) rfl) (rv_tmp (by constructor)) (by first | exact Nat.le_refl _ | omega | (simp; try omega)) (fun n o h => by first | exact h | (have := hlt n o h; (try dsimp only); repeat (first | exact h | rw [setG_other (by omega)] | rw [delG_other (by omega)]))) ?_ ?_
        · rw [hfc]
          show Wk _ (.agg [.v (.int .i64 0), .list [] .none])
          exact (by repeat' (first | exact Wk.refl _ | exact Wk.tok | refine Wk.agg ?_ | refine ⟨?_, ?_⟩ | exact trivial))
        · rw [hfe]
          exact (by repeat' (first | exact Wk.refl _ | exact Wk.tok | refine Wk.agg ?_ | refine ⟨?_, ?_⟩ | exact trivial))
      · replace hc := of_decide_eq_false hc
        have hfe : findE t u id = 0 := by unfold findE; rw [if_pos hn, if_pos hw, if_neg (by omega)]
        have hfc : findC t u id = ⟨id, allE t u⟩ := if_pos hfe
        refine aw_skip ?_
        refine hK10 _ ?_
        refine aw_seq_k fun K13 hK13 => ?_
        refine aw_region ?_
        refine aops_n rfl (n_mv rfl (by constructor)) ?_
        refine aops_n rfl (n_mv rfl (by constructor)) ?_
        refine aops_n rfl (n_build rfl rfl) ?_
        try dsimp only [St.put]
        first | refine aops_e rfl (e_store_all rfl rfl rfl (by (try dsimp only); repeat (first | exact setG_same _ _ _ | assumption | rw [setG_other (by omega)] | rw [delG_other (by omega)])) rfl rfl (by rfl) ?_) | refine aops_e rfl (e_store_one rfl rfl rfl (by (try dsimp only); repeat (first | exact setG_same _ _ _ | assumption | rw [setG_other (by omega)] | rw [delG_other (by omega)])) (by constructor) rfl (by simp; try omega) ?_)
        refine aops_n rfl (n_as rfl (by constructor)) ?_
        refine aops_nil ?_
        dsimp only [St.put]
        refine hK13 _ ?_
        refine aw_ret ?_
        refine ends_v2 rfl (rv_box rfl (by (try dsimp only); repeat (first | exact setG_same _ _ _ | assumption | rw [setG_other (by omega)] | rw [delG_other (by omega)])) (by rfl) (by first | exact List.cons_ne_nil _ _ | simp) rfl) (rv_tmp (by constructor)) (by first | exact Nat.le_refl _ | omega | (simp; try omega)) (fun n o h => by first | exact h | (have := hlt n o h; (try dsimp only); repeat (first | exact h | rw [setG_other (by omega)] | rw [delG_other (by omega)]))) ?_ ?_
        · rw [hfc]
          show Wk _ (.agg [.v (.int .i64 id), lst (allE t u)])
          exact (by repeat' (first | exact Wk.refl _ | exact Wk.tok | refine Wk.agg ?_ | refine ⟨?_, ?_⟩ | exact trivial))
        · rw [hfe]
          exact (by repeat' (first | exact Wk.refl _ | exact Wk.tok | refine Wk.agg ?_ | refine ⟨?_, ?_⟩ | exact trivial))
end Go.Proofs.Ytalkonicppbgdaa
