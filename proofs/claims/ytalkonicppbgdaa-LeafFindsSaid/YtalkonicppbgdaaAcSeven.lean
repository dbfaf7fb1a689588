/-
  Contracts of the reference's functions of layer 1: found.
-/
import Derived.Test.YtalkonicppbgdaaAcSix
namespace Go.Proofs.Ytalkonicppbgdaa
open Go.RowKit Go.AB
open Go.AB.Enc (cells)
open Go.PB (Chap TextD PlaceD ReadingD CopyD WayD)

theorem sameW_no1 {a b : List ByteArray} {i k : Nat} (h : ¬ (i : Int) < (a.length : Int)) : false = sameW a b i k := by
  simp [sameW, show ¬ i < a.length by omega]
theorem sameW_no2 {a b : List ByteArray} {i k : Nat} (h : ¬ (k : Int) < (b.length : Int)) : false = sameW a b i k := by
  simp [sameW, show ¬ k < b.length by omega]
theorem sub1_no1 {a b : List ByteArray} {i k : Nat} (h : ¬ (i : Int) < (a.length : Int)) : false = sub1 a b i k := by
  simp [sub1, show ¬ i < a.length by omega]
theorem sub1_no2 {a b : List ByteArray} {i k : Nat} (h : ¬ (k : Int) < (b.length : Int)) : false = sub1 a b i k := by
  simp [sub1, show ¬ k < b.length by omega]
theorem sub1_yes {a b : List ByteArray} {i k : Nat} (h : (i : Int) < (a.length : Int)) (h2 : (k : Int) < (b.length : Int)) : decide ((fewAt a b (i + 1) (k + 1) : Int) ≤ min (fewAt a b (i + 1) k : Int) (fewAt a b i (k + 1) : Int)) = sub1 a b i k := by
  rw [sub1, decide_eq_true (show i < a.length by omega), decide_eq_true (show k < b.length by omega)]; simp only [Bool.true_and]
theorem del1_yes {a b : List ByteArray} {i k : Nat} (h : (k : Int) = (b.length : Int)) : true = del1 a b i k := by
  simp [del1, show k = b.length by omega]
theorem del1_no {a b : List ByteArray} {i k : Nat} (h : ¬ (k : Int) = (b.length : Int)) (h2 : ¬ (i : Int) < (a.length : Int)) : false = del1 a b i k := by
  simp [del1, show ¬ i < a.length by omega]; omega
theorem del1_ask {a b : List ByteArray} {i k : Nat} (h : ¬ (k : Int) = (b.length : Int)) (h2 : (i : Int) < (a.length : Int)) : decide ((fewAt a b (i + 1) k : Int) ≤ (fewAt a b i (k + 1) : Int)) = del1 a b i k := by
  rw [del1, decide_eq_true (show i < a.length by omega), decide_eq_false (show ¬ k = b.length by omega)]; simp only [Bool.true_and, Bool.false_or]
theorem moreW_of {a b : List ByteArray} {i k : Nat} (h : (i : Int) < (a.length : Int) ∨ (k : Int) < (b.length : Int)) : moreW a b i k = true := by
  simp [moreW]; omega
theorem moreW_not {a b : List ByteArray} {i k : Nat} (h : ¬ (i : Int) < (a.length : Int)) (h2 : ¬ (k : Int) < (b.length : Int)) : false = moreW a b i k := by
  simp [moreW]; omega

theorem moreW_rest {a b : List ByteArray} {i k : Nat} (h : ¬ (i : Int) < (a.length : Int)) : decide ((k : Int) < (b.length : Int)) = moreW a b i k := by
  rw [moreW, decide_eq_false (show ¬ i < a.length by omega), Bool.false_or]; congr 1; simp
theorem sameW_lt {a b : List ByteArray} {i k : Nat} (h : sameW a b i k = true) : i < a.length ∧ k < b.length := by
  simp [sameW] at h; exact h.1
theorem del1_one {a b : List ByteArray} {i k : Nat} (hm : moreW a b i k = true) (hk : k ≤ b.length) (h2 : del1 a b i k = true) : i < a.length := by
  simp [moreW] at hm
  simp [del1] at h2
  omega

theorem found_pure (a b : List ByteArray) (ha : a.length ≤ 100000) (hb : b.length ≤ 100000) (ch ln : Int) : Pure Try.prog 27 [lst a, lst b, .v (.int .i64 ch), .v (.int .i64 ln)] (lst (edits a b ch ln 0 0)) := by
  refine pure_of_body Try.func27 rfl (fun m => (lst_low _ _)) fun G nx => ?_
  simp only [Try.ntmps27, List.length_cons, List.length_nil, Nat.reduceAdd, Nat.reduceSub]
  refine aw_lt fun hlt => ?_
  dsimp only at hlt
  -- not used: D 16
  refine aw_seq_k fun K1 hK1 => ?_
  refine aw_region ?_
  refine aops_n rfl (n_as rfl (by constructor)) ?_
  refine aops_nil ?_
  dsimp only [St.put]
  refine hK1 _ ?_
  refine aw_seq_k fun K2 hK2 => ?_
  refine aw_region ?_
  refine aops_n rfl (n_mv rfl (by constructor)) ?_
  refine aops_n rfl (n_mv rfl (by constructor)) ?_
  try dsimp only [St.put]
  refine aops_e rfl (e_call_pure rfl rfl rfl (Fewest_pure a b ha hb) ?_)
  refine aops_n rfl (n_as rfl (by constructor)) ?_
  refine aops_nil ?_
  dsimp only [St.put]
  refine hK2 _ ?_
  refine aw_seq_k fun K3 hK3 => ?_
  refine aw_region ?_
  refine aops_n rfl (n_as rfl (by constructor)) ?_
  refine aops_nil ?_
  dsimp only [St.put]
  refine hK3 _ ?_
  refine aw_adopt 10 54 5 rfl (by decide) ?_
  dsimp only [List.set_cons_zero, List.set_cons_succ]
  refine aw_seq_k fun K4 hK4 => ?_
  refine aw_region ?_
  refine aops_n rfl (n_as rfl (by constructor)) ?_
  refine aops_n rfl (n_as rfl (by constructor)) ?_
  refine aops_nil ?_
  dsimp only [St.put]
  refine hK4 _ ?_
  refine aw_seq_k fun K5 hK5 => ?_
  refine aw_block ?_
  refine aw_wipe 14 ?_
  simp only [firsts, getA, Nat.reduceAdd, List.getD_cons_zero, List.getD_cons_succ, List.getD_nil, natBeq, Nat.reduceBEq, cond_true, cond_false]
  refine aw_forget (setG G nx (.tip 0 54 5)) (by (repeat' (refine subG_set (by (try dsimp only); repeat (first | exact setG_same _ _ _ | assumption | rw [setG_other (by omega)] | rw [delG_other (by omega)])) ?_)); exact (fun n o h => by first | exact h | (have := hlt n o h; (try dsimp only); repeat (first | exact h | rw [setG_other (by omega)] | rw [delG_other (by omega)])))) ?_
  dsimp only
  refine aw_loopD (X := Nat × Nat × List ReadingD) (fun x => FoundI a b ch ln x.1 x.2.1 x.2.2) (fun x => (a.length - x.1) + (b.length - x.2.1)) (fun x => [(10, .list (x.2.2.map cells) (.tip nx)), (11, .v (.int .i64 (x.1 : Int))), (12, .v (.int .i64 (x.2.1 : Int))), (13, .any)]) (fun x G' => setG G nx (.tip x.2.2.length 54 5)) (0, 0, []) rfl ?_ ?_ ?_ ?_ ?_ ?_
  · exact foundI_start a b ch ln
  · exact (by repeat' (first | exact trivial | refine ⟨?_, ?_⟩ | exact .inr rfl | exact .inl rfl | exact .inr (congrArg C.v (congrArg (Value.int _) (by simp; try omega)))))
  · exact (by (repeat' (refine subG_set (by (try dsimp only); repeat (first | exact setG_same _ _ _ | assumption | rw [setG_other (by omega)] | rw [delG_other (by omega)])) ?_)); exact (fun n o h => by first | exact h | (have := hlt n o h; (try dsimp only); repeat (first | exact h | rw [setG_other (by omega)] | rw [delG_other (by omega)]))))
  · rintro ⟨i, k, L⟩ hI
    exact (by (try dsimp only); repeat' (first | exact trivial | refine ⟨?_, ?_⟩ | exact .v | exact .any | exact lst_low _ _ | exact cells_low _ _ | exact val_low _ _ | exact data_low _ (by (try dsimp only); omega) | exact .box (by (try dsimp only); omega) | exact nil_low | exact low_nil | refine set_low ?_ ?_ | exact .arr (by (try dsimp only); omega) | refine low_cons ?_ ?_ | exact lst_low _ _))
  · rintro ⟨i, k, L⟩ hI
    exact (by (repeat' (refine lowG_set ?_ (by (try dsimp only); omega) ?_)); all_goals (first | exact lowG_base (fun n o h => by first | exact h | (have := hlt n o h; (try dsimp only); repeat (first | exact h | rw [setG_other (by omega)] | rw [delG_other (by omega)]))) | (repeat' (first | exact trivial | refine ⟨?_, ?_⟩ | exact .v | exact .any | exact lst_low _ _ | exact cells_low _ _ | exact val_low _ _ | exact data_low _ (by (try dsimp only); omega) | exact .box (by (try dsimp only); omega) | exact nil_low | exact low_nil | refine set_low ?_ ?_ | exact .arr (by (try dsimp only); omega) | refine low_cons ?_ ?_ | exact lst_low _ _))))
  · rintro ⟨i, k, L⟩ hI
    dsimp only at hI ⊢
    have hi0 := hI.hi
    have hk0 := hI.hk
    have hl0 := hI.len
    refine aw_seq_k fun K6 hK6 => ?_
    refine aw_wipe 14 ?_
    simp only [firsts, getA, Nat.reduceAdd, List.getD_cons_zero, List.getD_cons_succ, List.getD_nil, natBeq, Nat.reduceBEq, cond_true, cond_false]
    refine aw_cutD (X := Bool) (fun t => t = moreW a b i k) (fun t => [(26, .v (.bool t))]) (fun t G' => G') rfl ?_ (fun _ _ _ _ h => .inl h) ?_ ?_
    · rintro t hI
      exact (by (try dsimp only); repeat' (first | exact trivial | refine ⟨?_, ?_⟩ | exact .v | exact .any | exact lst_low _ _ | exact cells_low _ _ | exact val_low _ _ | exact data_low _ (by (try dsimp only); omega) | exact .box (by (try dsimp only); omega) | exact nil_low | exact low_nil | refine set_low ?_ ?_ | exact .arr (by (try dsimp only); omega) | refine low_cons ?_ ?_ | exact lst_low _ _))
    · refine aw_region ?_
      refine aops_n rfl (n_mv rfl (by constructor)) ?_
      refine aops_n rfl (n_mv rfl (by constructor)) ?_
      first | refine aops_n rfl (n_len' rfl rfl (List.length_map _)) ?_ | refine aops_n rfl (n_len' rfl rfl rfl) ?_ | refine aops_n rfl (n_lenstr' rfl rfl) ?_ | refine aops_n rfl (n_len_arr rfl rfl) ?_
      refine aops_n rfl (n_lss rfl rfl rfl) ?_
      refine aops_n rfl (n_mv rfl (by constructor)) ?_
      refine aops_split (fun hs => ?_) (fun hs => ?_)
      · try replace hs := of_decide_eq_true hs
        refine aops_skip rfl ?_
        refine aops_skip rfl ?_
        refine aops_skip rfl ?_
        refine aops_skip rfl ?_
        first | refine aops_n rfl (n_pt rfl rfl (by constructor)) ?_ | refine aops_n rfl (n_pf rfl rfl (by constructor)) ?_ | refine aops_n rfl (n_pick_and rfl rfl rfl rfl) ?_ | refine aops_n rfl (n_pick_or rfl rfl rfl rfl) ?_
        refine aops_nil ?_
        dsimp only [St.put]
        refine ⟨_, ?_, ⟨rfl, (by repeat' (first | exact trivial | refine ⟨?_, ?_⟩ | exact .inr rfl | exact .inl rfl | exact .inr (congrArg C.v (congrArg (Value.int _) (by simp; try omega))))), (by first | exact .inl rfl | (refine .inr ?_; repeat' (first | exact trivial | refine ⟨?_, ?_⟩ | exact .inr rfl | exact .inl rfl | exact .inr (congrArg C.v (congrArg (Value.int _) (by simp; try omega)))))), (by first | exact Nat.le_refl _ | omega | (simp; try omega)), (by (repeat' (refine subG_set (by (try dsimp only); repeat (first | exact setG_same _ _ _ | assumption | rw [setG_other (by omega)] | rw [delG_other (by omega)])) ?_)); exact (fun n o h => by first | exact h | (have := hlt n o h; (try dsimp only); repeat (first | exact h | rw [setG_other (by omega)] | rw [delG_other (by omega)]))))⟩⟩
        first | exact (moreW_of (.inl hs)).symm | exact moreW_rest hs
      · try replace hs := of_decide_eq_false hs
        refine aops_n rfl (n_mv rfl (by constructor)) ?_
        refine aops_n rfl (n_mv rfl (by constructor)) ?_
        first | refine aops_n rfl (n_len' rfl rfl (List.length_map _)) ?_ | refine aops_n rfl (n_len' rfl rfl rfl) ?_ | refine aops_n rfl (n_lenstr' rfl rfl) ?_ | refine aops_n rfl (n_len_arr rfl rfl) ?_
        refine aops_n rfl (n_lss rfl rfl rfl) ?_
        first | refine aops_n rfl (n_pt rfl rfl (by constructor)) ?_ | refine aops_n rfl (n_pf rfl rfl (by constructor)) ?_ | refine aops_n rfl (n_pick_and rfl rfl rfl rfl) ?_ | refine aops_n rfl (n_pick_or rfl rfl rfl rfl) ?_
        refine aops_nil ?_
        dsimp only [St.put]
        refine ⟨_, ?_, ⟨rfl, (by repeat' (first | exact trivial | refine ⟨?_, ?_⟩ | exact .inr rfl | exact .inl rfl | exact .inr (congrArg C.v (congrArg (Value.int _) (by simp; try omega))))), (by first | exact .inl rfl | (refine .inr ?_; repeat' (first | exact trivial | refine ⟨?_, ?_⟩ | exact .inr rfl | exact .inl rfl | exact .inr (congrArg C.v (congrArg (Value.int _) (by simp; try omega)))))), (by first | exact Nat.le_refl _ | omega | (simp; try omega)), (by (repeat' (refine subG_set (by (try dsimp only); repeat (first | exact setG_same _ _ _ | assumption | rw [setG_other (by omega)] | rw [delG_other (by omega)])) ?_)); exact (fun n o h => by first | exact h | (have := hlt n o h; (try dsimp only); repeat (first | exact h | rw [setG_other (by omega)] | rw [delG_other (by omega)]))))⟩⟩
        first | exact (moreW_of (.inl hs)).symm | exact moreW_rest hs
    · rintro t hm
      dsimp only at hm ⊢
      refine aw_cond rfl (fun hc => ?_) (fun hc => ?_)
      · have hm' : moreW a b i k = true := hm ▸ hc
        refine aw_skip ?_
        refine hK6 _ ?_
        refine aw_block ?_
        refine aw_seq_k fun K8 hK8 => ?_
        refine aw_region ?_
        refine aops_n rfl (n_mv rfl (by constructor)) ?_
        refine aops_n rfl (n_mv rfl (by constructor)) ?_
        refine aops_n rfl (n_mv rfl (by constructor)) ?_
        refine aops_n rfl (n_build rfl rfl) ?_
        try dsimp only [St.put]
        refine aops_e rfl (e_allocC rfl ?_)
        try dsimp only [St.put]
        first | refine aops_e rfl (e_store_all rfl rfl rfl (by (try dsimp only); repeat (first | exact setG_same _ _ _ | assumption | rw [setG_other (by omega)] | rw [delG_other (by omega)])) rfl rfl (by rfl) ?_) | refine aops_e rfl (e_store_one rfl rfl rfl (by (try dsimp only); repeat (first | exact setG_same _ _ _ | assumption | rw [setG_other (by omega)] | rw [delG_other (by omega)])) (by constructor) rfl (by simp; try omega) ?_)
        refine aops_nil ?_
        dsimp only [St.put]
        refine hK8 _ ?_
        refine aw_forget (setG (setG G nx (.tip L.length 54 5)) (nx + 1) (.box 1 [.v (.int .i64 ch), .v (.int .i64 ln), .v (.int .i64 (i : Int))])) (by (repeat' (refine subG_set (by (try dsimp only); repeat (first | exact setG_same _ _ _ | assumption | rw [setG_other (by omega)] | rw [delG_other (by omega)])) ?_)); exact (fun n o h => by first | exact h | (have := hlt n o h; (try dsimp only); repeat (first | exact h | rw [setG_other (by omega)] | rw [delG_other (by omega)])))) ?_
        dsimp only
        refine aw_block ?_
        refine aw_wipe 14 ?_
        simp only [firsts, getA, Nat.reduceAdd, List.getD_cons_zero, List.getD_cons_succ, List.getD_nil, natBeq, Nat.reduceBEq, cond_true, cond_false]
        refine aw_cutD (X := Bool) (fun t => t = sameW a b i k) (fun t => [(42, .v (.bool t))]) (fun t G' => G') rfl ?_ (fun _ _ _ _ h => .inl h) ?_ ?_
        · rintro t hI
          exact (by (try dsimp only); repeat' (first | exact trivial | refine ⟨?_, ?_⟩ | exact .v | exact .any | exact lst_low _ _ | exact cells_low _ _ | exact val_low _ _ | exact data_low _ (by (try dsimp only); omega) | exact .box (by (try dsimp only); omega) | exact nil_low | exact low_nil | refine set_low ?_ ?_ | exact .arr (by (try dsimp only); omega) | refine low_cons ?_ ?_ | exact lst_low _ _))
        · refine aw_draw [(0, none), (1, none), (2, none), (3, none), (4, none), (5, none), (6, none), (7, none), (8, none), (9, none), (10, none), (11, none), (12, none), (13, none), (14, none), (15, none), (16, none), (17, none), (18, none), (19, none), (20, none), (21, none)] (fun i => [].contains i) (fun i => [].contains i) (fun i => [0, 1, 2, 3, 4, 5, 6, 7, 8, 9, 10, 11, 12, 13, 15, 16, 17, 19, 20, 21].contains i) [] (by kernel_rfl) (by kernel_rfl) ?_
          refine acan1_n rfl rfl rfl rfl (n_mv rfl (by constructor)) ?_
          refine acan1_n rfl rfl rfl rfl (n_mv rfl (by constructor)) ?_
          first | refine acan1_n rfl rfl rfl rfl (n_len' rfl rfl (List.length_map _)) ?_ | refine acan1_n rfl rfl rfl rfl (n_len' rfl rfl rfl) ?_ | refine acan1_n rfl rfl rfl rfl (n_lenstr' rfl rfl) ?_ | refine acan1_n rfl rfl rfl rfl (n_len_arr rfl rfl) ?_
          refine acan1_n rfl rfl rfl rfl (n_lss rfl rfl rfl) ?_
          refine acan1_n rfl rfl rfl rfl (n_mv rfl (by constructor)) ?_
          refine acan1_split (fun hs => ?_) (fun hs => ?_)
          · try replace hs := of_decide_eq_true hs
            refine acan1_n rfl rfl rfl rfl (n_mv rfl (by constructor)) ?_
            refine acan1_n rfl rfl rfl rfl (n_mv rfl (by constructor)) ?_
            first | refine acan1_n rfl rfl rfl rfl (n_len' rfl rfl (List.length_map _)) ?_ | refine acan1_n rfl rfl rfl rfl (n_len' rfl rfl rfl) ?_ | refine acan1_n rfl rfl rfl rfl (n_lenstr' rfl rfl) ?_ | refine acan1_n rfl rfl rfl rfl (n_len_arr rfl rfl) ?_
            refine acan1_n rfl rfl rfl rfl (n_lss rfl rfl rfl) ?_
            first | refine acan1_n rfl rfl rfl rfl (n_pt rfl rfl (by constructor)) ?_ | refine acan1_n rfl rfl rfl rfl (n_pf rfl rfl (by constructor)) ?_ | refine acan1_n rfl rfl rfl rfl (n_pick_and rfl rfl rfl rfl) ?_ | refine acan1_n rfl rfl rfl rfl (n_pick_or rfl rfl rfl rfl) ?_
            refine acan1_n rfl rfl rfl rfl (n_mv rfl (by constructor)) ?_
            refine acan1_split (fun hs => ?_) (fun hs => ?_)
            · replace hs := of_decide_eq_true hs
              obtain ⟨x, hx⟩ : ∃ x, a[i]? = some x := some_of_lt (by omega)
              obtain ⟨y, hy⟩ : ∃ y, b[k]? = some y := some_of_lt (by omega)
              refine acan1_n rfl rfl rfl rfl (n_mv rfl (by constructor)) ?_
              refine acan1_n rfl rfl rfl rfl (n_mv rfl (by constructor)) ?_
              first | refine acan1_n rfl rfl rfl rfl (n_indexAddr rfl rfl rfl rfl (map_get (by assumption)) (Enc.len _)) ?_ | refine acan1_n rfl rfl rfl rfl (n_indexAddr rfl rfl rfl rfl (by assumption) rfl) ?_ | refine acan1_n rfl rfl rfl rfl (n_indexAddr_arr1 rfl rfl rfl (by first | exact idx_succ _ | exact rfl) (by omega)) ?_ | refine acan1_n rfl rfl rfl rfl (n_indexAddr rfl rfl rfl (by omega) (map_get (by assumption)) (Enc.len _)) ?_
              try dsimp only [St.put]
              first | refine acan1_s rfl rfl rfl rfl (s_load rfl rfl) ?_ | refine acan1_s rfl rfl rfl rfl (s_load_agg' rfl rfl (Enc.len _)) ?_ | refine acan1_s rfl rfl rfl rfl (s_load_agg' rfl rfl rfl) ?_ | refine acan1_s rfl rfl rfl rfl (s_load_box rfl rfl (by (try dsimp only); repeat (first | exact setG_same _ _ _ | assumption | rw [setG_other (by omega)] | rw [delG_other (by omega)])) (by simp) (by first | rfl | assumption)) ?_ | refine acan1_s rfl rfl rfl rfl (s_load_box_all rfl rfl (by (try dsimp only); repeat (first | exact setG_same _ _ _ | assumption | rw [setG_other (by omega)] | rw [delG_other (by omega)])) (by simp) (by rfl)) ?_ | refine acan1_s rfl rfl rfl rfl (s_load_box_agg rfl rfl (by (try dsimp only); repeat (first | exact setG_same _ _ _ | assumption | rw [setG_other (by omega)] | rw [delG_other (by omega)])) (by simp) (by simp)) ?_
              refine acan1_n rfl rfl rfl rfl (n_mv rfl (by constructor)) ?_
              refine acan1_n rfl rfl rfl rfl (n_mv rfl (by constructor)) ?_
              first | refine acan1_n rfl rfl rfl rfl (n_indexAddr rfl rfl rfl rfl (map_get (by assumption)) (Enc.len _)) ?_ | refine acan1_n rfl rfl rfl rfl (n_indexAddr rfl rfl rfl rfl (by assumption) rfl) ?_ | refine acan1_n rfl rfl rfl rfl (n_indexAddr_arr1 rfl rfl rfl (by first | exact idx_succ _ | exact rfl) (by omega)) ?_ | refine acan1_n rfl rfl rfl rfl (n_indexAddr rfl rfl rfl (by omega) (map_get (by assumption)) (Enc.len _)) ?_
              try dsimp only [St.put]
              first | refine acan1_s rfl rfl rfl rfl (s_load rfl rfl) ?_ | refine acan1_s rfl rfl rfl rfl (s_load_agg' rfl rfl (Enc.len _)) ?_ | refine acan1_s rfl rfl rfl rfl (s_load_agg' rfl rfl rfl) ?_ | refine acan1_s rfl rfl rfl rfl (s_load_box rfl rfl (by (try dsimp only); repeat (first | exact setG_same _ _ _ | assumption | rw [setG_other (by omega)] | rw [delG_other (by omega)])) (by simp) (by first | rfl | assumption)) ?_ | refine acan1_s rfl rfl rfl rfl (s_load_box_all rfl rfl (by (try dsimp only); repeat (first | exact setG_same _ _ _ | assumption | rw [setG_other (by omega)] | rw [delG_other (by omega)])) (by simp) (by rfl)) ?_ | refine acan1_s rfl rfl rfl rfl (s_load_box_agg rfl rfl (by (try dsimp only); repeat (first | exact setG_same _ _ _ | assumption | rw [setG_other (by omega)] | rw [delG_other (by omega)])) (by simp) (by simp)) ?_
              refine acan1_n rfl rfl rfl rfl (n_streq rfl rfl rfl) ?_
              first | refine acan1_n rfl rfl rfl rfl (n_pt rfl rfl (by constructor)) ?_ | refine acan1_n rfl rfl rfl rfl (n_pf rfl rfl (by constructor)) ?_ | refine acan1_n rfl rfl rfl rfl (n_pick_and rfl rfl rfl rfl) ?_ | refine acan1_n rfl rfl rfl rfl (n_pick_or rfl rfl rfl rfl) ?_
              refine acan1_n rfl rfl rfl rfl (n_as rfl (by constructor)) ?_
              refine acan1_nil ?_
              dsimp only [St.put]
              refine ⟨_, ?_, ⟨rfl, (by repeat' (first | exact trivial | refine ⟨?_, ?_⟩ | exact .inr rfl | exact .inl rfl | exact .inr (congrArg C.v (congrArg (Value.int _) (by simp; try omega))))), (by first | exact .inl rfl | (refine .inr ?_; repeat' (first | exact trivial | refine ⟨?_, ?_⟩ | exact .inr rfl | exact .inl rfl | exact .inr (congrArg C.v (congrArg (Value.int _) (by simp; try omega)))))), (by first | exact Nat.le_refl _ | omega | (simp; try omega)), (by (repeat' (refine subG_set (by (try dsimp only); repeat (first | exact setG_same _ _ _ | assumption | rw [setG_other (by omega)] | rw [delG_other (by omega)])) ?_)); exact (fun n o h => by first | exact h | (have := hlt n o h; (try dsimp only); repeat (first | exact h | rw [setG_other (by omega)] | rw [delG_other (by omega)]))))⟩⟩
              first | exact sameW_no1 hs | exact sameW_no2 hs | exact (sameW_some hx hy).symm
            · try replace hs := of_decide_eq_false hs
              refine acan1_skip rfl rfl rfl ?_
              refine acan1_skip rfl rfl rfl ?_
              refine acan1_skip rfl rfl rfl ?_
              refine acan1_skip rfl rfl rfl ?_
              refine acan1_skip rfl rfl rfl ?_
              refine acan1_skip rfl rfl rfl ?_
              refine acan1_skip rfl rfl rfl ?_
              refine acan1_skip rfl rfl rfl ?_
              refine acan1_skip rfl rfl rfl ?_
              first | refine acan1_n rfl rfl rfl rfl (n_pt rfl rfl (by constructor)) ?_ | refine acan1_n rfl rfl rfl rfl (n_pf rfl rfl (by constructor)) ?_ | refine acan1_n rfl rfl rfl rfl (n_pick_and rfl rfl rfl rfl) ?_ | refine acan1_n rfl rfl rfl rfl (n_pick_or rfl rfl rfl rfl) ?_
              refine acan1_n rfl rfl rfl rfl (n_as rfl (by constructor)) ?_
              refine acan1_nil ?_
              dsimp only [St.put]
              refine ⟨_, ?_, ⟨rfl, (by repeat' (first | exact trivial | refine ⟨?_, ?_⟩ | exact .inr rfl | exact .inl rfl | exact .inr (congrArg C.v (congrArg (Value.int _) (by simp; try omega))))), (by first | exact .inl rfl | (refine .inr ?_; repeat' (first | exact trivial | refine ⟨?_, ?_⟩ | exact .inr rfl | exact .inl rfl | exact .inr (congrArg C.v (congrArg (Value.int _) (by simp; try omega)))))), (by first | exact Nat.le_refl _ | omega | (simp; try omega)), (by (repeat' (refine subG_set (by (try dsimp only); repeat (first | exact setG_same _ _ _ | assumption | rw [setG_other (by omega)] | rw [delG_other (by omega)])) ?_)); exact (fun n o h => by first | exact h | (have := hlt n o h; (try dsimp only); repeat (first | exact h | rw [setG_other (by omega)] | rw [delG_other (by omega)]))))⟩⟩
              first | exact sameW_no1 hs | exact sameW_no2 hs | exact (sameW_some hx hy).symm
          · try replace hs := of_decide_eq_false hs
            refine acan1_skip rfl rfl rfl ?_
            refine acan1_skip rfl rfl rfl ?_
            refine acan1_skip rfl rfl rfl ?_
            refine acan1_skip rfl rfl rfl ?_
            first | refine acan1_n rfl rfl rfl rfl (n_pt rfl rfl (by constructor)) ?_ | refine acan1_n rfl rfl rfl rfl (n_pf rfl rfl (by constructor)) ?_ | refine acan1_n rfl rfl rfl rfl (n_pick_and rfl rfl rfl rfl) ?_ | refine acan1_n rfl rfl rfl rfl (n_pick_or rfl rfl rfl rfl) ?_
            refine acan1_n rfl rfl rfl rfl (n_mv rfl (by constructor)) ?_
            refine acan1_skip rfl rfl rfl ?_
            refine acan1_skip rfl rfl rfl ?_
            refine acan1_skip rfl rfl rfl ?_
            refine acan1_skip rfl rfl rfl ?_
            refine acan1_skip rfl rfl rfl ?_
            refine acan1_skip rfl rfl rfl ?_
            refine acan1_skip rfl rfl rfl ?_
            refine acan1_skip rfl rfl rfl ?_
            refine acan1_skip rfl rfl rfl ?_
            first | refine acan1_n rfl rfl rfl rfl (n_pt rfl rfl (by constructor)) ?_ | refine acan1_n rfl rfl rfl rfl (n_pf rfl rfl (by constructor)) ?_ | refine acan1_n rfl rfl rfl rfl (n_pick_and rfl rfl rfl rfl) ?_ | refine acan1_n rfl rfl rfl rfl (n_pick_or rfl rfl rfl rfl) ?_
            refine acan1_n rfl rfl rfl rfl (n_as rfl (by constructor)) ?_
            refine acan1_nil ?_
            dsimp only [St.put]
            refine ⟨_, ?_, ⟨rfl, (by repeat' (first | exact trivial | refine ⟨?_, ?_⟩ | exact .inr rfl | exact .inl rfl | exact .inr (congrArg C.v (congrArg (Value.int _) (by simp; try omega))))), (by first | exact .inl rfl | (refine .inr ?_; repeat' (first | exact trivial | refine ⟨?_, ?_⟩ | exact .inr rfl | exact .inl rfl | exact .inr (congrArg C.v (congrArg (Value.int _) (by simp; try omega)))))), (by first | exact Nat.le_refl _ | omega | (simp; try omega)), (by (repeat' (refine subG_set (by (try dsimp only); repeat (first | exact setG_same _ _ _ | assumption | rw [setG_other (by omega)] | rw [delG_other (by omega)])) ?_)); exact (fun n o h => by first | exact h | (have := hlt n o h; (try dsimp only); repeat (first | exact h | rw [setG_other (by omega)] | rw [delG_other (by omega)]))))⟩⟩
            first | exact sameW_no1 hs | exact sameW_no2 hs | exact (sameW_some hx hy).symm
        · rintro t hs
          dsimp only at hs ⊢
          refine aw_cond rfl (fun hc => ?_) (fun hc => ?_)
          · have hs' : sameW a b i k = true := hs ▸ hc
            refine aw_seq_k fun K10 hK10 => ?_
            refine aw_region ?_
            refine aops_n rfl (n_mv rfl (by constructor)) ?_
            first | refine aops_n rfl (n_add rfl rfl rfl (by omega)) ?_ | refine aops_n rfl (n_addw rfl rfl rfl) ?_
            refine aops_n rfl (n_as rfl (by constructor)) ?_
            refine aops_nil ?_
            dsimp only [St.put]
            refine hK10 _ ?_
            refine aw_region ?_
            refine aops_n rfl (n_mv rfl (by constructor)) ?_
            first | refine aops_n rfl (n_add rfl rfl rfl (by omega)) ?_ | refine aops_n rfl (n_addw rfl rfl rfl) ?_
            refine aops_n rfl (n_as rfl (by constructor)) ?_
            refine aops_nil ?_
            dsimp only [St.put]
            have hn := foundI_same hI hs'
            have hlt1 := sameW_lt hs'
            exact ⟨(_, _, _), by (dsimp only; omega), hn, ⟨rfl, (by repeat' (first | exact trivial | refine ⟨?_, ?_⟩ | exact .inr rfl | exact .inl rfl | exact .inr (congrArg C.v (congrArg (Value.int _) (by simp; try omega))))), (by first | exact .inl rfl | (refine .inr ?_; repeat' (first | exact trivial | refine ⟨?_, ?_⟩ | exact .inr rfl | exact .inl rfl | exact .inr (congrArg C.v (congrArg (Value.int _) (by simp; try omega)))))), (by first | exact Nat.le_refl _ | omega | (simp; try omega)), (by (repeat' (refine subG_set (by (try dsimp only); repeat (first | exact setG_same _ _ _ | assumption | rw [setG_other (by omega)] | rw [delG_other (by omega)])) ?_)); exact (fun n o h => by first | exact h | (have := hlt n o h; (try dsimp only); repeat (first | exact h | rw [setG_other (by omega)] | rw [delG_other (by omega)]))))⟩⟩
          · have hs' : sameW a b i k = false := hs ▸ hc
            refine aw_wipe 14 ?_
            simp only [firsts, getA, Nat.reduceAdd, List.getD_cons_zero, List.getD_cons_succ, List.getD_nil, natBeq, Nat.reduceBEq, cond_true, cond_false]
            refine aw_cutD (X := Bool) (fun t => t = sub1 a b i k) (fun t => [(68, .v (.bool t))]) (fun t G' => G') rfl ?_ (fun _ _ _ _ h => .inl h) ?_ ?_
            · rintro t hI
              exact (by (try dsimp only); repeat' (first | exact trivial | refine ⟨?_, ?_⟩ | exact .v | exact .any | exact lst_low _ _ | exact cells_low _ _ | exact val_low _ _ | exact data_low _ (by (try dsimp only); omega) | exact .box (by (try dsimp only); omega) | exact nil_low | exact low_nil | refine set_low ?_ ?_ | exact .arr (by (try dsimp only); omega) | refine low_cons ?_ ?_ | exact lst_low _ _))
            · refine aw_draw [(0, none), (1, none), (2, none), (3, none), (4, none), (5, none), (6, none), (7, none), (8, none), (9, none), (10, none), (11, none), (12, none), (13, none), (14, none), (15, none), (16, none), (17, none), (18, none), (19, none), (20, none), (21, none), (22, none), (23, none), (24, none), (25, none), (26, none), (27, none), (28, none), (29, none), (30, none), (31, none), (32, none), (33, none), (34, none), (35, none), (36, none), (37, none), (38, none), (39, none)] (fun i => [].contains i) (fun i => [].contains i) (fun i => [0, 1, 2, 3, 4, 5, 6, 7, 8, 9, 10, 11, 12, 13, 14, 16, 17, 18, 20, 21, 22, 23, 25, 26, 28, 29, 30, 32, 33, 34, 36, 37, 38, 39].contains i) [] (by kernel_rfl) (by kernel_rfl) ?_
              refine acan1_n rfl rfl rfl rfl (n_mv rfl (by constructor)) ?_
              refine acan1_n rfl rfl rfl rfl (n_mv rfl (by constructor)) ?_
              first | refine acan1_n rfl rfl rfl rfl (n_len' rfl rfl (List.length_map _)) ?_ | refine acan1_n rfl rfl rfl rfl (n_len' rfl rfl rfl) ?_ | refine acan1_n rfl rfl rfl rfl (n_lenstr' rfl rfl) ?_ | refine acan1_n rfl rfl rfl rfl (n_len_arr rfl rfl) ?_
              refine acan1_n rfl rfl rfl rfl (n_lss rfl rfl rfl) ?_
              refine acan1_n rfl rfl rfl rfl (n_mv rfl (by constructor)) ?_
              refine acan1_split (fun hs => ?_) (fun hs => ?_)
              · replace hs := of_decide_eq_true hs
                have hs1 := hs
                refine acan1_n rfl rfl rfl rfl (n_mv rfl (by constructor)) ?_
                refine acan1_n rfl rfl rfl rfl (n_mv rfl (by constructor)) ?_
                first | refine acan1_n rfl rfl rfl rfl (n_len' rfl rfl (List.length_map _)) ?_ | refine acan1_n rfl rfl rfl rfl (n_len' rfl rfl rfl) ?_ | refine acan1_n rfl rfl rfl rfl (n_lenstr' rfl rfl) ?_ | refine acan1_n rfl rfl rfl rfl (n_len_arr rfl rfl) ?_
                refine acan1_n rfl rfl rfl rfl (n_lss rfl rfl rfl) ?_
                first | refine acan1_n rfl rfl rfl rfl (n_pt rfl rfl (by constructor)) ?_ | refine acan1_n rfl rfl rfl rfl (n_pf rfl rfl (by constructor)) ?_ | refine acan1_n rfl rfl rfl rfl (n_pick_and rfl rfl rfl rfl) ?_ | refine acan1_n rfl rfl rfl rfl (n_pick_or rfl rfl rfl rfl) ?_
                refine acan1_n rfl rfl rfl rfl (n_mv rfl (by constructor)) ?_
                refine acan1_split (fun hs => ?_) (fun hs => ?_)
                · replace hs := of_decide_eq_true hs
                  have hT1 := tabF_get (b := b) (show i + 1 ≤ a.length by omega)
                  have hT0 := tabF_get (b := b) (show i ≤ a.length by omega)
                  have hR11 := rowF_get (a := a) (i + 1) (show k + 1 ≤ b.length by omega)
                  have hR10 := rowF_get (a := a) (i + 1) (show k ≤ b.length by omega)
                  have hR01 := rowF_get (a := a) i (show k + 1 ≤ b.length by omega)
                  refine acan1_n rfl rfl rfl rfl (n_mv rfl (by constructor)) ?_
                  refine acan1_n rfl rfl rfl rfl (n_mv rfl (by constructor)) ?_
                  first | refine acan1_n rfl rfl rfl rfl (n_add rfl rfl rfl (by omega)) ?_ | refine acan1_n rfl rfl rfl rfl (n_addw rfl rfl rfl) ?_
                  first | refine acan1_n rfl rfl rfl rfl (n_indexAddr rfl rfl rfl rfl (map_get (by assumption)) (Enc.len _)) ?_ | refine acan1_n rfl rfl rfl rfl (n_indexAddr rfl rfl rfl rfl (by assumption) rfl) ?_ | refine acan1_n rfl rfl rfl rfl (n_indexAddr_arr1 rfl rfl rfl (by first | exact idx_succ _ | exact rfl) (by omega)) ?_ | refine acan1_n rfl rfl rfl rfl (n_indexAddr rfl rfl rfl (by omega) (map_get (by assumption)) (Enc.len _)) ?_
                  try dsimp only [St.put]
                  first | refine acan1_s rfl rfl rfl rfl (s_load rfl rfl) ?_ | refine acan1_s rfl rfl rfl rfl (s_load_agg' rfl rfl (Enc.len _)) ?_ | refine acan1_s rfl rfl rfl rfl (s_load_agg' rfl rfl rfl) ?_ | refine acan1_s rfl rfl rfl rfl (s_load_box rfl rfl (by (try dsimp only); repeat (first | exact setG_same _ _ _ | assumption | rw [setG_other (by omega)] | rw [delG_other (by omega)])) (by simp) (by first | rfl | assumption)) ?_ | refine acan1_s rfl rfl rfl rfl (s_load_box_all rfl rfl (by (try dsimp only); repeat (first | exact setG_same _ _ _ | assumption | rw [setG_other (by omega)] | rw [delG_other (by omega)])) (by simp) (by rfl)) ?_ | refine acan1_s rfl rfl rfl rfl (s_load_box_agg rfl rfl (by (try dsimp only); repeat (first | exact setG_same _ _ _ | assumption | rw [setG_other (by omega)] | rw [delG_other (by omega)])) (by simp) (by simp)) ?_
                  refine acan1_n rfl rfl rfl rfl (n_mv rfl (by constructor)) ?_
                  first | refine acan1_n rfl rfl rfl rfl (n_add rfl rfl rfl (by omega)) ?_ | refine acan1_n rfl rfl rfl rfl (n_addw rfl rfl rfl) ?_
                  first | refine acan1_n rfl rfl rfl rfl (n_indexAddr rfl rfl rfl rfl (map_get (by assumption)) (Enc.len _)) ?_ | refine acan1_n rfl rfl rfl rfl (n_indexAddr rfl rfl rfl rfl (by assumption) rfl) ?_ | refine acan1_n rfl rfl rfl rfl (n_indexAddr_arr1 rfl rfl rfl (by first | exact idx_succ _ | exact rfl) (by omega)) ?_ | refine acan1_n rfl rfl rfl rfl (n_indexAddr rfl rfl rfl (by omega) (map_get (by assumption)) (Enc.len _)) ?_
                  try dsimp only [St.put]
                  first | refine acan1_s rfl rfl rfl rfl (s_load rfl rfl) ?_ | refine acan1_s rfl rfl rfl rfl (s_load_agg' rfl rfl (Enc.len _)) ?_ | refine acan1_s rfl rfl rfl rfl (s_load_agg' rfl rfl rfl) ?_ | refine acan1_s rfl rfl rfl rfl (s_load_box rfl rfl (by (try dsimp only); repeat (first | exact setG_same _ _ _ | assumption | rw [setG_other (by omega)] | rw [delG_other (by omega)])) (by simp) (by first | rfl | assumption)) ?_ | refine acan1_s rfl rfl rfl rfl (s_load_box_all rfl rfl (by (try dsimp only); repeat (first | exact setG_same _ _ _ | assumption | rw [setG_other (by omega)] | rw [delG_other (by omega)])) (by simp) (by rfl)) ?_ | refine acan1_s rfl rfl rfl rfl (s_load_box_agg rfl rfl (by (try dsimp only); repeat (first | exact setG_same _ _ _ | assumption | rw [setG_other (by omega)] | rw [delG_other (by omega)])) (by simp) (by simp)) ?_
                  refine acan1_n rfl rfl rfl rfl (n_mv rfl (by constructor)) ?_
                  refine acan1_n rfl rfl rfl rfl (n_mv rfl (by constructor)) ?_
                  first | refine acan1_n rfl rfl rfl rfl (n_add rfl rfl rfl (by omega)) ?_ | refine acan1_n rfl rfl rfl rfl (n_addw rfl rfl rfl) ?_
                  first | refine acan1_n rfl rfl rfl rfl (n_indexAddr rfl rfl rfl rfl (map_get (by assumption)) (Enc.len _)) ?_ | refine acan1_n rfl rfl rfl rfl (n_indexAddr rfl rfl rfl rfl (by assumption) rfl) ?_ | refine acan1_n rfl rfl rfl rfl (n_indexAddr_arr1 rfl rfl rfl (by first | exact idx_succ _ | exact rfl) (by omega)) ?_ | refine acan1_n rfl rfl rfl rfl (n_indexAddr rfl rfl rfl (by omega) (map_get (by assumption)) (Enc.len _)) ?_
                  try dsimp only [St.put]
                  first | refine acan1_s rfl rfl rfl rfl (s_load rfl rfl) ?_ | refine acan1_s rfl rfl rfl rfl (s_load_agg' rfl rfl (Enc.len _)) ?_ | refine acan1_s rfl rfl rfl rfl (s_load_agg' rfl rfl rfl) ?_ | refine acan1_s rfl rfl rfl rfl (s_load_box rfl rfl (by (try dsimp only); repeat (first | exact setG_same _ _ _ | assumption | rw [setG_other (by omega)] | rw [delG_other (by omega)])) (by simp) (by first | rfl | assumption)) ?_ | refine acan1_s rfl rfl rfl rfl (s_load_box_all rfl rfl (by (try dsimp only); repeat (first | exact setG_same _ _ _ | assumption | rw [setG_other (by omega)] | rw [delG_other (by omega)])) (by simp) (by rfl)) ?_ | refine acan1_s rfl rfl rfl rfl (s_load_box_agg rfl rfl (by (try dsimp only); repeat (first | exact setG_same _ _ _ | assumption | rw [setG_other (by omega)] | rw [delG_other (by omega)])) (by simp) (by simp)) ?_
                  refine acan1_n rfl rfl rfl rfl (n_mv rfl (by constructor)) ?_
                  first | refine acan1_n rfl rfl rfl rfl (n_indexAddr rfl rfl rfl rfl (map_get (by assumption)) (Enc.len _)) ?_ | refine acan1_n rfl rfl rfl rfl (n_indexAddr rfl rfl rfl rfl (by assumption) rfl) ?_ | refine acan1_n rfl rfl rfl rfl (n_indexAddr_arr1 rfl rfl rfl (by first | exact idx_succ _ | exact rfl) (by omega)) ?_ | refine acan1_n rfl rfl rfl rfl (n_indexAddr rfl rfl rfl (by omega) (map_get (by assumption)) (Enc.len _)) ?_
                  try dsimp only [St.put]
                  first | refine acan1_s rfl rfl rfl rfl (s_load rfl rfl) ?_ | refine acan1_s rfl rfl rfl rfl (s_load_agg' rfl rfl (Enc.len _)) ?_ | refine acan1_s rfl rfl rfl rfl (s_load_agg' rfl rfl rfl) ?_ | refine acan1_s rfl rfl rfl rfl (s_load_box rfl rfl (by (try dsimp only); repeat (first | exact setG_same _ _ _ | assumption | rw [setG_other (by omega)] | rw [delG_other (by omega)])) (by simp) (by first | rfl | assumption)) ?_ | refine acan1_s rfl rfl rfl rfl (s_load_box_all rfl rfl (by (try dsimp only); repeat (first | exact setG_same _ _ _ | assumption | rw [setG_other (by omega)] | rw [delG_other (by omega)])) (by simp) (by rfl)) ?_ | refine acan1_s rfl rfl rfl rfl (s_load_box_agg rfl rfl (by (try dsimp only); repeat (first | exact setG_same _ _ _ | assumption | rw [setG_other (by omega)] | rw [delG_other (by omega)])) (by simp) (by simp)) ?_
                  refine acan1_n rfl rfl rfl rfl (n_mv rfl (by constructor)) ?_
                  refine acan1_n rfl rfl rfl rfl (n_mv rfl (by constructor)) ?_
                  first | refine acan1_n rfl rfl rfl rfl (n_indexAddr rfl rfl rfl rfl (map_get (by assumption)) (Enc.len _)) ?_ | refine acan1_n rfl rfl rfl rfl (n_indexAddr rfl rfl rfl rfl (by assumption) rfl) ?_ | refine acan1_n rfl rfl rfl rfl (n_indexAddr_arr1 rfl rfl rfl (by first | exact idx_succ _ | exact rfl) (by omega)) ?_ | refine acan1_n rfl rfl rfl rfl (n_indexAddr rfl rfl rfl (by omega) (map_get (by assumption)) (Enc.len _)) ?_
                  try dsimp only [St.put]
                  first | refine acan1_s rfl rfl rfl rfl (s_load rfl rfl) ?_ | refine acan1_s rfl rfl rfl rfl (s_load_agg' rfl rfl (Enc.len _)) ?_ | refine acan1_s rfl rfl rfl rfl (s_load_agg' rfl rfl rfl) ?_ | refine acan1_s rfl rfl rfl rfl (s_load_box rfl rfl (by (try dsimp only); repeat (first | exact setG_same _ _ _ | assumption | rw [setG_other (by omega)] | rw [delG_other (by omega)])) (by simp) (by first | rfl | assumption)) ?_ | refine acan1_s rfl rfl rfl rfl (s_load_box_all rfl rfl (by (try dsimp only); repeat (first | exact setG_same _ _ _ | assumption | rw [setG_other (by omega)] | rw [delG_other (by omega)])) (by simp) (by rfl)) ?_ | refine acan1_s rfl rfl rfl rfl (s_load_box_agg rfl rfl (by (try dsimp only); repeat (first | exact setG_same _ _ _ | assumption | rw [setG_other (by omega)] | rw [delG_other (by omega)])) (by simp) (by simp)) ?_
                  refine acan1_n rfl rfl rfl rfl (n_mv rfl (by constructor)) ?_
                  first | refine acan1_n rfl rfl rfl rfl (n_add rfl rfl rfl (by omega)) ?_ | refine acan1_n rfl rfl rfl rfl (n_addw rfl rfl rfl) ?_
                  first | refine acan1_n rfl rfl rfl rfl (n_indexAddr rfl rfl rfl rfl (map_get (by assumption)) (Enc.len _)) ?_ | refine acan1_n rfl rfl rfl rfl (n_indexAddr rfl rfl rfl rfl (by assumption) rfl) ?_ | refine acan1_n rfl rfl rfl rfl (n_indexAddr_arr1 rfl rfl rfl (by first | exact idx_succ _ | exact rfl) (by omega)) ?_ | refine acan1_n rfl rfl rfl rfl (n_indexAddr rfl rfl rfl (by omega) (map_get (by assumption)) (Enc.len _)) ?_
                  try dsimp only [St.put]
                  first | refine acan1_s rfl rfl rfl rfl (s_load rfl rfl) ?_ | refine acan1_s rfl rfl rfl rfl (s_load_agg' rfl rfl (Enc.len _)) ?_ | refine acan1_s rfl rfl rfl rfl (s_load_agg' rfl rfl rfl) ?_ | refine acan1_s rfl rfl rfl rfl (s_load_box rfl rfl (by (try dsimp only); repeat (first | exact setG_same _ _ _ | assumption | rw [setG_other (by omega)] | rw [delG_other (by omega)])) (by simp) (by first | rfl | assumption)) ?_ | refine acan1_s rfl rfl rfl rfl (s_load_box_all rfl rfl (by (try dsimp only); repeat (first | exact setG_same _ _ _ | assumption | rw [setG_other (by omega)] | rw [delG_other (by omega)])) (by simp) (by rfl)) ?_ | refine acan1_s rfl rfl rfl rfl (s_load_box_agg rfl rfl (by (try dsimp only); repeat (first | exact setG_same _ _ _ | assumption | rw [setG_other (by omega)] | rw [delG_other (by omega)])) (by simp) (by simp)) ?_
                  refine acan1_n rfl rfl rfl rfl (n_min rfl rfl rfl rfl) ?_
                  refine acan1_n rfl rfl rfl rfl (n_leq rfl rfl rfl) ?_
                  first | refine acan1_n rfl rfl rfl rfl (n_pt rfl rfl (by constructor)) ?_ | refine acan1_n rfl rfl rfl rfl (n_pf rfl rfl (by constructor)) ?_ | refine acan1_n rfl rfl rfl rfl (n_pick_and rfl rfl rfl rfl) ?_ | refine acan1_n rfl rfl rfl rfl (n_pick_or rfl rfl rfl rfl) ?_
                  refine acan1_n rfl rfl rfl rfl (n_as rfl (by constructor)) ?_
                  refine acan1_nil ?_
                  dsimp only [St.put]
                  refine ⟨_, ?_, ⟨rfl, (by repeat' (first | exact trivial | refine ⟨?_, ?_⟩ | exact .inr rfl | exact .inl rfl | exact .inr (congrArg C.v (congrArg (Value.int _) (by simp; try omega))))), (by first | exact .inl rfl | (refine .inr ?_; repeat' (first | exact trivial | refine ⟨?_, ?_⟩ | exact .inr rfl | exact .inl rfl | exact .inr (congrArg C.v (congrArg (Value.int _) (by simp; try omega)))))), (by first | exact Nat.le_refl _ | omega | (simp; try omega)), (by (repeat' (refine subG_set (by (try dsimp only); repeat (first | exact setG_same _ _ _ | assumption | rw [setG_other (by omega)] | rw [delG_other (by omega)])) ?_)); exact (fun n o h => by first | exact h | (have := hlt n o h; (try dsimp only); repeat (first | exact h | rw [setG_other (by omega)] | rw [delG_other (by omega)]))))⟩⟩
                  first | exact sub1_no1 hs | exact sub1_no2 hs | exact sub1_yes hs1 hs
                · try replace hs := of_decide_eq_false hs
                  refine acan1_skip rfl rfl rfl ?_
                  refine acan1_skip rfl rfl rfl ?_
                  refine acan1_skip rfl rfl rfl ?_
                  refine acan1_skip rfl rfl rfl ?_
                  refine acan1_skip rfl rfl rfl ?_
                  refine acan1_skip rfl rfl rfl ?_
                  refine acan1_skip rfl rfl rfl ?_
                  refine acan1_skip rfl rfl rfl ?_
                  refine acan1_skip rfl rfl rfl ?_
                  refine acan1_skip rfl rfl rfl ?_
                  refine acan1_skip rfl rfl rfl ?_
                  refine acan1_skip rfl rfl rfl ?_
                  refine acan1_skip rfl rfl rfl ?_
                  refine acan1_skip rfl rfl rfl ?_
                  refine acan1_skip rfl rfl rfl ?_
                  refine acan1_skip rfl rfl rfl ?_
                  refine acan1_skip rfl rfl rfl ?_
                  refine acan1_skip rfl rfl rfl ?_
                  refine acan1_skip rfl rfl rfl ?_
                  refine acan1_skip rfl rfl rfl ?_
                  refine acan1_skip rfl rfl rfl ?_
                  refine acan1_skip rfl rfl rfl ?_
                  refine acan1_skip rfl rfl rfl ?_
                  refine acan1_skip rfl rfl rfl ?_
                  refine acan1_skip rfl rfl rfl ?_
                  refine acan1_skip rfl rfl rfl ?_
                  refine acan1_skip rfl rfl rfl ?_
                  first | refine acan1_n rfl rfl rfl rfl (n_pt rfl rfl (by constructor)) ?_ | refine acan1_n rfl rfl rfl rfl (n_pf rfl rfl (by constructor)) ?_ | refine acan1_n rfl rfl rfl rfl (n_pick_and rfl rfl rfl rfl) ?_ | refine acan1_n rfl rfl rfl rfl (n_pick_or rfl rfl rfl rfl) ?_
                  refine acan1_n rfl rfl rfl rfl (n_as rfl (by constructor)) ?_
                  refine acan1_nil ?_
                  dsimp only [St.put]
                  refine ⟨_, ?_, ⟨rfl, (by repeat' (first | exact trivial | refine ⟨?_, ?_⟩ | exact .inr rfl | exact .inl rfl | exact .inr (congrArg C.v (congrArg (Value.int _) (by simp; try omega))))), (by first | exact .inl rfl | (refine .inr ?_; repeat' (first | exact trivial | refine ⟨?_, ?_⟩ | exact .inr rfl | exact .inl rfl | exact .inr (congrArg C.v (congrArg (Value.int _) (by simp; try omega)))))), (by first | exact Nat.le_refl _ | omega | (simp; try omega)), (by (repeat' (refine subG_set (by (try dsimp only); repeat (first | exact setG_same _ _ _ | assumption | rw [setG_other (by omega)] | rw [delG_other (by omega)])) ?_)); exact (fun n o h => by first | exact h | (have := hlt n o h; (try dsimp only); repeat (first | exact h | rw [setG_other (by omega)] | rw [delG_other (by omega)]))))⟩⟩
                  first | exact sub1_no1 hs | exact sub1_no2 hs | exact sub1_yes hs1 hs
              · try replace hs := of_decide_eq_false hs
                refine acan1_skip rfl rfl rfl ?_
                refine acan1_skip rfl rfl rfl ?_
                refine acan1_skip rfl rfl rfl ?_
                refine acan1_skip rfl rfl rfl ?_
                first | refine acan1_n rfl rfl rfl rfl (n_pt rfl rfl (by constructor)) ?_ | refine acan1_n rfl rfl rfl rfl (n_pf rfl rfl (by constructor)) ?_ | refine acan1_n rfl rfl rfl rfl (n_pick_and rfl rfl rfl rfl) ?_ | refine acan1_n rfl rfl rfl rfl (n_pick_or rfl rfl rfl rfl) ?_
                refine acan1_n rfl rfl rfl rfl (n_mv rfl (by constructor)) ?_
                refine acan1_skip rfl rfl rfl ?_
                refine acan1_skip rfl rfl rfl ?_
                refine acan1_skip rfl rfl rfl ?_
                refine acan1_skip rfl rfl rfl ?_
                refine acan1_skip rfl rfl rfl ?_
                refine acan1_skip rfl rfl rfl ?_
                refine acan1_skip rfl rfl rfl ?_
                refine acan1_skip rfl rfl rfl ?_
                refine acan1_skip rfl rfl rfl ?_
                refine acan1_skip rfl rfl rfl ?_
                refine acan1_skip rfl rfl rfl ?_
                refine acan1_skip rfl rfl rfl ?_
                refine acan1_skip rfl rfl rfl ?_
                refine acan1_skip rfl rfl rfl ?_
                refine acan1_skip rfl rfl rfl ?_
                refine acan1_skip rfl rfl rfl ?_
                refine acan1_skip rfl rfl rfl ?_
                refine acan1_skip rfl rfl rfl ?_
                refine acan1_skip rfl rfl rfl ?_
                refine acan1_skip rfl rfl rfl ?_
                refine acan1_skip rfl rfl rfl ?_
                refine acan1_skip rfl rfl rfl ?_
                refine acan1_skip rfl rfl rfl ?_
                refine acan1_skip rfl rfl rfl ?_
                refine acan1_skip rfl rfl rfl ?_
                refine acan1_skip rfl rfl rfl ?_
                refine acan1_skip rfl rfl rfl ?_
                first | refine acan1_n rfl rfl rfl rfl (n_pt rfl rfl (by constructor)) ?_ | refine acan1_n rfl rfl rfl rfl (n_pf rfl rfl (by constructor)) ?_ | refine acan1_n rfl rfl rfl rfl (n_pick_and rfl rfl rfl rfl) ?_ | refine acan1_n rfl rfl rfl rfl (n_pick_or rfl rfl rfl rfl) ?_
                refine acan1_n rfl rfl rfl rfl (n_as rfl (by constructor)) ?_
                refine acan1_nil ?_
                dsimp only [St.put]
                refine ⟨_, ?_, ⟨rfl, (by repeat' (first | exact trivial | refine ⟨?_, ?_⟩ | exact .inr rfl | exact .inl rfl | exact .inr (congrArg C.v (congrArg (Value.int _) (by simp; try omega))))), (by first | exact .inl rfl | (refine .inr ?_; repeat' (first | exact trivial | refine ⟨?_, ?_⟩ | exact .inr rfl | exact .inl rfl | exact .inr (congrArg C.v (congrArg (Value.int _) (by simp; try omega)))))), (by first | exact Nat.le_refl _ | omega | (simp; try omega)), (by (repeat' (refine subG_set (by (try dsimp only); repeat (first | exact setG_same _ _ _ | assumption | rw [setG_other (by omega)] | rw [delG_other (by omega)])) ?_)); exact (fun n o h => by first | exact h | (have := hlt n o h; (try dsimp only); repeat (first | exact h | rw [setG_other (by omega)] | rw [delG_other (by omega)]))))⟩⟩
                first | exact sub1_no1 hs | exact sub1_no2 hs | exact sub1_yes hs1 hs
            · rintro t h1
              dsimp only at h1 ⊢
              refine aw_cond rfl (fun hc => ?_) (fun hc => ?_)
              · have h1' : sub1 a b i k = true := h1 ▸ hc
                obtain ⟨y, hy⟩ : ∃ y, b[k]? = some y := some_of_lt (sub1_lt h1')
                refine aw_seq_k fun K12 hK12 => ?_
                refine aw_draw [(0, none), (1, none), (2, none), (3, none), (4, none), (5, none), (6, none), (7, none), (8, none), (9, none)] (fun i => [7, 8].contains i) (fun i => [7, 8].contains i) (fun i => [0, 2, 3, 4, 6, 9].contains i) [nx + 1] (by kernel_rfl) (by kernel_rfl) ?_
                refine acan1_n rfl rfl rfl rfl (n_mv rfl (by constructor)) ?_
                try dsimp only [St.put]
                first | refine acan1_s rfl rfl rfl rfl (s_load rfl rfl) ?_ | refine acan1_s rfl rfl rfl rfl (s_load_agg' rfl rfl (Enc.len _)) ?_ | refine acan1_s rfl rfl rfl rfl (s_load_agg' rfl rfl rfl) ?_ | refine acan1_s rfl rfl rfl rfl (s_load_box rfl rfl (by (try dsimp only); repeat (first | exact setG_same _ _ _ | assumption | rw [setG_other (by omega)] | rw [delG_other (by omega)])) (by simp) (by first | rfl | assumption)) ?_ | refine acan1_s rfl rfl rfl rfl (s_load_box_all rfl rfl (by (try dsimp only); repeat (first | exact setG_same _ _ _ | assumption | rw [setG_other (by omega)] | rw [delG_other (by omega)])) (by simp) (by rfl)) ?_ | refine acan1_s rfl rfl rfl rfl (s_load_box_agg rfl rfl (by (try dsimp only); repeat (first | exact setG_same _ _ _ | assumption | rw [setG_other (by omega)] | rw [delG_other (by omega)])) (by simp) (by simp)) ?_
                refine acan1_n rfl rfl rfl rfl (n_mv rfl (by constructor)) ?_
                refine acan1_n rfl rfl rfl rfl (n_mv rfl (by constructor)) ?_
                first | refine acan1_n rfl rfl rfl rfl (n_indexAddr rfl rfl rfl rfl (map_get (by assumption)) (Enc.len _)) ?_ | refine acan1_n rfl rfl rfl rfl (n_indexAddr rfl rfl rfl rfl (by assumption) rfl) ?_ | refine acan1_n rfl rfl rfl rfl (n_indexAddr_arr1 rfl rfl rfl (by first | exact idx_succ _ | exact rfl) (by omega)) ?_ | refine acan1_n rfl rfl rfl rfl (n_indexAddr rfl rfl rfl (by omega) (map_get (by assumption)) (Enc.len _)) ?_
                try dsimp only [St.put]
                first | refine acan1_s rfl rfl rfl rfl (s_load rfl rfl) ?_ | refine acan1_s rfl rfl rfl rfl (s_load_agg' rfl rfl (Enc.len _)) ?_ | refine acan1_s rfl rfl rfl rfl (s_load_agg' rfl rfl rfl) ?_ | refine acan1_s rfl rfl rfl rfl (s_load_box rfl rfl (by (try dsimp only); repeat (first | exact setG_same _ _ _ | assumption | rw [setG_other (by omega)] | rw [delG_other (by omega)])) (by simp) (by first | rfl | assumption)) ?_ | refine acan1_s rfl rfl rfl rfl (s_load_box_all rfl rfl (by (try dsimp only); repeat (first | exact setG_same _ _ _ | assumption | rw [setG_other (by omega)] | rw [delG_other (by omega)])) (by simp) (by rfl)) ?_ | refine acan1_s rfl rfl rfl rfl (s_load_box_agg rfl rfl (by (try dsimp only); repeat (first | exact setG_same _ _ _ | assumption | rw [setG_other (by omega)] | rw [delG_other (by omega)])) (by simp) (by simp)) ?_
                refine acan1_n rfl rfl rfl rfl (n_build rfl rfl) ?_
                refine acan1_two ?_
                try dsimp only [St.put]
                refine acan2_late rfl rfl rfl rfl (e_buildSlice rfl rfl rfl (by decide) (by decide) (by first | (simp; done) | (intro r hr; simp only [List.mem_cons, List.not_mem_nil, or_false] at hr; first | (subst hr; rfl) | (rcases hr with hr | hr <;> (subst hr; rfl)) | (rcases hr with hr | hr | hr <;> (subst hr; rfl)) | (rcases hr with hr | hr | hr | hr <;> (subst hr; rfl)))) (by decide) ?_)
                try dsimp only [St.put]
                refine acan2_late rfl rfl rfl rfl (e_append ([(⟨⟨ch, ln, i⟩, 3, y⟩ : ReadingD)]) rfl rfl (by (try dsimp only); repeat (first | exact setG_same _ _ _ | assumption | rw [setG_other (by omega)] | rw [delG_other (by omega)])) (by first | rfl | simp) rfl rfl (by first | omega | (simp only [List.length_take, List.length_cons, List.length_nil, List.length_append, List.length_map]; omega) | (simp; omega)) ?_ (by first | omega | (simp only [List.length_take, List.length_cons, List.length_nil, List.length_append, List.length_map]; omega) | (simp; omega)))
                refine acan2_n rfl rfl rfl rfl (n_as rfl (by constructor)) ?_
                refine acan2_nil ?_
                dsimp only [St.put]
                refine hK12 _ ?_
                refine aw_seq_k fun K13 hK13 => ?_
                refine aw_region ?_
                refine aops_n rfl (n_mv rfl (by constructor)) ?_
                first | refine aops_n rfl (n_add rfl rfl rfl (by omega)) ?_ | refine aops_n rfl (n_addw rfl rfl rfl) ?_
                refine aops_n rfl (n_as rfl (by constructor)) ?_
                refine aops_nil ?_
                dsimp only [St.put]
                refine hK13 _ ?_
                refine aw_region ?_
                refine aops_n rfl (n_mv rfl (by constructor)) ?_
                first | refine aops_n rfl (n_add rfl rfl rfl (by omega)) ?_ | refine aops_n rfl (n_addw rfl rfl rfl) ?_
                refine aops_n rfl (n_as rfl (by constructor)) ?_
                refine aops_nil ?_
                dsimp only [St.put]
                have hn := foundI_sub hI hs' hm' h1' hy
                have hlt1 := sub1_lt h1'
                exact ⟨(_, _, _), by (dsimp only; omega), hn, ⟨rfl, (by repeat' (first | exact trivial | refine ⟨?_, ?_⟩ | exact .inr rfl | exact .inl rfl | exact .inr (congrArg C.v (congrArg (Value.int _) (by simp; try omega))))), (by first | exact .inl rfl | (refine .inr ?_; repeat' (first | exact trivial | refine ⟨?_, ?_⟩ | exact .inr rfl | exact .inl rfl | exact .inr (congrArg C.v (congrArg (Value.int _) (by simp; try omega)))))), (by first | exact Nat.le_refl _ | omega | (simp; try omega)), (by (repeat' (refine subG_set (by (try dsimp only); repeat (first | exact setG_same _ _ _ | assumption | rw [setG_other (by omega)] | rw [delG_other (by omega)])) ?_)); exact (fun n o h => by first | exact h | (have := hlt n o h; (try dsimp only); repeat (first | exact h | rw [setG_other (by omega)] | rw [delG_other (by omega)]))))⟩⟩
              · have h1' : sub1 a b i k = false := h1 ▸ hc
                refine aw_wipe 14 ?_
                simp only [firsts, getA, Nat.reduceAdd, List.getD_cons_zero, List.getD_cons_succ, List.getD_nil, natBeq, Nat.reduceBEq, cond_true, cond_false]
                refine aw_cutD (X := Bool) (fun t => t = del1 a b i k) (fun t => [(121, .v (.bool t))]) (fun t G' => G') rfl ?_ (fun _ _ _ _ h => .inl h) ?_ ?_
                · rintro t hI
                  exact (by (try dsimp only); repeat' (first | exact trivial | refine ⟨?_, ?_⟩ | exact .v | exact .any | exact lst_low _ _ | exact cells_low _ _ | exact val_low _ _ | exact data_low _ (by (try dsimp only); omega) | exact .box (by (try dsimp only); omega) | exact nil_low | exact low_nil | refine set_low ?_ ?_ | exact .arr (by (try dsimp only); omega) | refine low_cons ?_ ?_ | exact lst_low _ _))
                · refine aw_draw [(0, none), (1, none), (2, none), (3, none), (4, none), (5, none), (6, none), (7, none), (8, none), (9, none), (10, none), (11, none), (12, none), (13, none), (14, none), (15, none), (16, none), (17, none), (18, none), (19, none), (20, none), (21, none), (22, none), (23, none), (24, none), (25, none), (26, none), (27, none), (28, none), (29, none)] (fun i => [].contains i) (fun i => [].contains i) (fun i => [0, 1, 2, 3, 4, 5, 6, 7, 8, 9, 10, 11, 12, 13, 15, 16, 18, 19, 20, 22, 23, 24, 26, 27, 28, 29].contains i) [] (by kernel_rfl) (by kernel_rfl) ?_
                  refine acan1_n rfl rfl rfl rfl (n_mv rfl (by constructor)) ?_
                  refine acan1_n rfl rfl rfl rfl (n_mv rfl (by constructor)) ?_
                  first | refine acan1_n rfl rfl rfl rfl (n_len' rfl rfl (List.length_map _)) ?_ | refine acan1_n rfl rfl rfl rfl (n_len' rfl rfl rfl) ?_ | refine acan1_n rfl rfl rfl rfl (n_lenstr' rfl rfl) ?_ | refine acan1_n rfl rfl rfl rfl (n_len_arr rfl rfl) ?_
                  refine acan1_n rfl rfl rfl rfl (n_eql rfl rfl rfl) ?_
                  refine acan1_n rfl rfl rfl rfl (n_mv rfl (by constructor)) ?_
                  refine acan1_split (fun hs => ?_) (fun hs => ?_)
                  · have hs0 := of_decide_eq_true hs
                    refine acan1_skip rfl rfl rfl ?_
                    refine acan1_skip rfl rfl rfl ?_
                    refine acan1_skip rfl rfl rfl ?_
                    refine acan1_skip rfl rfl rfl ?_
                    refine acan1_skip rfl rfl rfl ?_
                    refine acan1_skip rfl rfl rfl ?_
                    refine acan1_skip rfl rfl rfl ?_
                    refine acan1_skip rfl rfl rfl ?_
                    refine acan1_skip rfl rfl rfl ?_
                    refine acan1_skip rfl rfl rfl ?_
                    refine acan1_skip rfl rfl rfl ?_
                    refine acan1_skip rfl rfl rfl ?_
                    refine acan1_skip rfl rfl rfl ?_
                    refine acan1_skip rfl rfl rfl ?_
                    refine acan1_skip rfl rfl rfl ?_
                    refine acan1_skip rfl rfl rfl ?_
                    refine acan1_skip rfl rfl rfl ?_
                    refine acan1_skip rfl rfl rfl ?_
                    refine acan1_skip rfl rfl rfl ?_
                    refine acan1_skip rfl rfl rfl ?_
                    refine acan1_skip rfl rfl rfl ?_
                    refine acan1_skip rfl rfl rfl ?_
                    refine acan1_skip rfl rfl rfl ?_
                    first | refine acan1_n rfl rfl rfl rfl (n_pt rfl rfl (by constructor)) ?_ | refine acan1_n rfl rfl rfl rfl (n_pf rfl rfl (by constructor)) ?_ | refine acan1_n rfl rfl rfl rfl (n_pick_and rfl rfl rfl rfl) ?_ | refine acan1_n rfl rfl rfl rfl (n_pick_or rfl rfl rfl rfl) ?_
                    refine acan1_n rfl rfl rfl rfl (n_as rfl (by constructor)) ?_
                    refine acan1_nil ?_
                    dsimp only [St.put]
                    refine ⟨_, ?_, ⟨rfl, (by repeat' (first | exact trivial | refine ⟨?_, ?_⟩ | exact .inr rfl | exact .inl rfl | exact .inr (congrArg C.v (congrArg (Value.int _) (by simp; try omega))))), (by first | exact .inl rfl | (refine .inr ?_; repeat' (first | exact trivial | refine ⟨?_, ?_⟩ | exact .inr rfl | exact .inl rfl | exact .inr (congrArg C.v (congrArg (Value.int _) (by simp; try omega)))))), (by first | exact Nat.le_refl _ | omega | (simp; try omega)), (by (repeat' (refine subG_set (by (try dsimp only); repeat (first | exact setG_same _ _ _ | assumption | rw [setG_other (by omega)] | rw [delG_other (by omega)])) ?_)); exact (fun n o h => by first | exact h | (have := hlt n o h; (try dsimp only); repeat (first | exact h | rw [setG_other (by omega)] | rw [delG_other (by omega)]))))⟩⟩
                    first | exact del1_yes hs0 | exact del1_no hs0 hs | exact del1_ask hs0 hs
                  · have hs0 := of_decide_eq_false hs
                    refine acan1_n rfl rfl rfl rfl (n_mv rfl (by constructor)) ?_
                    refine acan1_n rfl rfl rfl rfl (n_mv rfl (by constructor)) ?_
                    first | refine acan1_n rfl rfl rfl rfl (n_len' rfl rfl (List.length_map _)) ?_ | refine acan1_n rfl rfl rfl rfl (n_len' rfl rfl rfl) ?_ | refine acan1_n rfl rfl rfl rfl (n_lenstr' rfl rfl) ?_ | refine acan1_n rfl rfl rfl rfl (n_len_arr rfl rfl) ?_
                    refine acan1_n rfl rfl rfl rfl (n_lss rfl rfl rfl) ?_
                    refine acan1_n rfl rfl rfl rfl (n_mv rfl (by constructor)) ?_
                    refine acan1_split (fun hs => ?_) (fun hs => ?_)
                    · replace hs := of_decide_eq_true hs
                      have hkb : k < b.length := by omega
                      have hT1 := tabF_get (b := b) (show i + 1 ≤ a.length by omega)
                      have hT0 := tabF_get (b := b) (show i ≤ a.length by omega)
                      have hR10 := rowF_get (a := a) (i + 1) (show k ≤ b.length by omega)
                      have hR01 := rowF_get (a := a) i (show k + 1 ≤ b.length by omega)
                      refine acan1_n rfl rfl rfl rfl (n_mv rfl (by constructor)) ?_
                      refine acan1_n rfl rfl rfl rfl (n_mv rfl (by constructor)) ?_
                      first | refine acan1_n rfl rfl rfl rfl (n_add rfl rfl rfl (by omega)) ?_ | refine acan1_n rfl rfl rfl rfl (n_addw rfl rfl rfl) ?_
                      first | refine acan1_n rfl rfl rfl rfl (n_indexAddr rfl rfl rfl rfl (map_get (by assumption)) (Enc.len _)) ?_ | refine acan1_n rfl rfl rfl rfl (n_indexAddr rfl rfl rfl rfl (by assumption) rfl) ?_ | refine acan1_n rfl rfl rfl rfl (n_indexAddr_arr1 rfl rfl rfl (by first | exact idx_succ _ | exact rfl) (by omega)) ?_ | refine acan1_n rfl rfl rfl rfl (n_indexAddr rfl rfl rfl (by omega) (map_get (by assumption)) (Enc.len _)) ?_
                      try dsimp only [St.put]
                      first | refine acan1_s rfl rfl rfl rfl (s_load rfl rfl) ?_ | refine acan1_s rfl rfl rfl rfl (s_load_agg' rfl rfl (Enc.len _)) ?_ | refine acan1_s rfl rfl rfl rfl (s_load_agg' rfl rfl rfl) ?_ | refine acan1_s rfl rfl rfl rfl (s_load_box rfl rfl (by (try dsimp only); repeat (first | exact setG_same _ _ _ | assumption | rw [setG_other (by omega)] | rw [delG_other (by omega)])) (by simp) (by first | rfl | assumption)) ?_ | refine acan1_s rfl rfl rfl rfl (s_load_box_all rfl rfl (by (try dsimp only); repeat (first | exact setG_same _ _ _ | assumption | rw [setG_other (by omega)] | rw [delG_other (by omega)])) (by simp) (by rfl)) ?_ | refine acan1_s rfl rfl rfl rfl (s_load_box_agg rfl rfl (by (try dsimp only); repeat (first | exact setG_same _ _ _ | assumption | rw [setG_other (by omega)] | rw [delG_other (by omega)])) (by simp) (by simp)) ?_
                      refine acan1_n rfl rfl rfl rfl (n_mv rfl (by constructor)) ?_
                      first | refine acan1_n rfl rfl rfl rfl (n_indexAddr rfl rfl rfl rfl (map_get (by assumption)) (Enc.len _)) ?_ | refine acan1_n rfl rfl rfl rfl (n_indexAddr rfl rfl rfl rfl (by assumption) rfl) ?_ | refine acan1_n rfl rfl rfl rfl (n_indexAddr_arr1 rfl rfl rfl (by first | exact idx_succ _ | exact rfl) (by omega)) ?_ | refine acan1_n rfl rfl rfl rfl (n_indexAddr rfl rfl rfl (by omega) (map_get (by assumption)) (Enc.len _)) ?_
                      try dsimp only [St.put]
                      first | refine acan1_s rfl rfl rfl rfl (s_load rfl rfl) ?_ | refine acan1_s rfl rfl rfl rfl (s_load_agg' rfl rfl (Enc.len _)) ?_ | refine acan1_s rfl rfl rfl rfl (s_load_agg' rfl rfl rfl) ?_ | refine acan1_s rfl rfl rfl rfl (s_load_box rfl rfl (by (try dsimp only); repeat (first | exact setG_same _ _ _ | assumption | rw [setG_other (by omega)] | rw [delG_other (by omega)])) (by simp) (by first | rfl | assumption)) ?_ | refine acan1_s rfl rfl rfl rfl (s_load_box_all rfl rfl (by (try dsimp only); repeat (first | exact setG_same _ _ _ | assumption | rw [setG_other (by omega)] | rw [delG_other (by omega)])) (by simp) (by rfl)) ?_ | refine acan1_s rfl rfl rfl rfl (s_load_box_agg rfl rfl (by (try dsimp only); repeat (first | exact setG_same _ _ _ | assumption | rw [setG_other (by omega)] | rw [delG_other (by omega)])) (by simp) (by simp)) ?_
                      refine acan1_n rfl rfl rfl rfl (n_mv rfl (by constructor)) ?_
                      refine acan1_n rfl rfl rfl rfl (n_mv rfl (by constructor)) ?_
                      first | refine acan1_n rfl rfl rfl rfl (n_indexAddr rfl rfl rfl rfl (map_get (by assumption)) (Enc.len _)) ?_ | refine acan1_n rfl rfl rfl rfl (n_indexAddr rfl rfl rfl rfl (by assumption) rfl) ?_ | refine acan1_n rfl rfl rfl rfl (n_indexAddr_arr1 rfl rfl rfl (by first | exact idx_succ _ | exact rfl) (by omega)) ?_ | refine acan1_n rfl rfl rfl rfl (n_indexAddr rfl rfl rfl (by omega) (map_get (by assumption)) (Enc.len _)) ?_
                      try dsimp only [St.put]
                      first | refine acan1_s rfl rfl rfl rfl (s_load rfl rfl) ?_ | refine acan1_s rfl rfl rfl rfl (s_load_agg' rfl rfl (Enc.len _)) ?_ | refine acan1_s rfl rfl rfl rfl (s_load_agg' rfl rfl rfl) ?_ | refine acan1_s rfl rfl rfl rfl (s_load_box rfl rfl (by (try dsimp only); repeat (first | exact setG_same _ _ _ | assumption | rw [setG_other (by omega)] | rw [delG_other (by omega)])) (by simp) (by first | rfl | assumption)) ?_ | refine acan1_s rfl rfl rfl rfl (s_load_box_all rfl rfl (by (try dsimp only); repeat (first | exact setG_same _ _ _ | assumption | rw [setG_other (by omega)] | rw [delG_other (by omega)])) (by simp) (by rfl)) ?_ | refine acan1_s rfl rfl rfl rfl (s_load_box_agg rfl rfl (by (try dsimp only); repeat (first | exact setG_same _ _ _ | assumption | rw [setG_other (by omega)] | rw [delG_other (by omega)])) (by simp) (by simp)) ?_
                      refine acan1_n rfl rfl rfl rfl (n_mv rfl (by constructor)) ?_
                      first | refine acan1_n rfl rfl rfl rfl (n_add rfl rfl rfl (by omega)) ?_ | refine acan1_n rfl rfl rfl rfl (n_addw rfl rfl rfl) ?_
                      first | refine acan1_n rfl rfl rfl rfl (n_indexAddr rfl rfl rfl rfl (map_get (by assumption)) (Enc.len _)) ?_ | refine acan1_n rfl rfl rfl rfl (n_indexAddr rfl rfl rfl rfl (by assumption) rfl) ?_ | refine acan1_n rfl rfl rfl rfl (n_indexAddr_arr1 rfl rfl rfl (by first | exact idx_succ _ | exact rfl) (by omega)) ?_ | refine acan1_n rfl rfl rfl rfl (n_indexAddr rfl rfl rfl (by omega) (map_get (by assumption)) (Enc.len _)) ?_
                      try dsimp only [St.put]
                      first | refine acan1_s rfl rfl rfl rfl (s_load rfl rfl) ?_ | refine acan1_s rfl rfl rfl rfl (s_load_agg' rfl rfl (Enc.len _)) ?_ | refine acan1_s rfl rfl rfl rfl (s_load_agg' rfl rfl rfl) ?_ | refine acan1_s rfl rfl rfl rfl (s_load_box rfl rfl (by (try dsimp only); repeat (first | exact setG_same _ _ _ | assumption | rw [setG_other (by omega)] | rw [delG_other (by omega)])) (by simp) (by first | rfl | assumption)) ?_ | refine acan1_s rfl rfl rfl rfl (s_load_box_all rfl rfl (by (try dsimp only); repeat (first | exact setG_same _ _ _ | assumption | rw [setG_other (by omega)] | rw [delG_other (by omega)])) (by simp) (by rfl)) ?_ | refine acan1_s rfl rfl rfl rfl (s_load_box_agg rfl rfl (by (try dsimp only); repeat (first | exact setG_same _ _ _ | assumption | rw [setG_other (by omega)] | rw [delG_other (by omega)])) (by simp) (by simp)) ?_
                      refine acan1_n rfl rfl rfl rfl (n_leq rfl rfl rfl) ?_
                      first | refine acan1_n rfl rfl rfl rfl (n_pt rfl rfl (by constructor)) ?_ | refine acan1_n rfl rfl rfl rfl (n_pf rfl rfl (by constructor)) ?_ | refine acan1_n rfl rfl rfl rfl (n_pick_and rfl rfl rfl rfl) ?_ | refine acan1_n rfl rfl rfl rfl (n_pick_or rfl rfl rfl rfl) ?_
                      first | refine acan1_n rfl rfl rfl rfl (n_pt rfl rfl (by constructor)) ?_ | refine acan1_n rfl rfl rfl rfl (n_pf rfl rfl (by constructor)) ?_ | refine acan1_n rfl rfl rfl rfl (n_pick_and rfl rfl rfl rfl) ?_ | refine acan1_n rfl rfl rfl rfl (n_pick_or rfl rfl rfl rfl) ?_
                      refine acan1_n rfl rfl rfl rfl (n_as rfl (by constructor)) ?_
                      refine acan1_nil ?_
                      dsimp only [St.put]
                      refine ⟨_, ?_, ⟨rfl, (by repeat' (first | exact trivial | refine ⟨?_, ?_⟩ | exact .inr rfl | exact .inl rfl | exact .inr (congrArg C.v (congrArg (Value.int _) (by simp; try omega))))), (by first | exact .inl rfl | (refine .inr ?_; repeat' (first | exact trivial | refine ⟨?_, ?_⟩ | exact .inr rfl | exact .inl rfl | exact .inr (congrArg C.v (congrArg (Value.int _) (by simp; try omega)))))), (by first | exact Nat.le_refl _ | omega | (simp; try omega)), (by (repeat' (refine subG_set (by (try dsimp only); repeat (first | exact setG_same _ _ _ | assumption | rw [setG_other (by omega)] | rw [delG_other (by omega)])) ?_)); exact (fun n o h => by first | exact h | (have := hlt n o h; (try dsimp only); repeat (first | exact h | rw [setG_other (by omega)] | rw [delG_other (by omega)]))))⟩⟩
                      first | exact del1_yes hs0 | exact del1_no hs0 hs | exact del1_ask hs0 hs
                    · try replace hs := of_decide_eq_false hs
                      refine acan1_skip rfl rfl rfl ?_
                      refine acan1_skip rfl rfl rfl ?_
                      refine acan1_skip rfl rfl rfl ?_
                      refine acan1_skip rfl rfl rfl ?_
                      refine acan1_skip rfl rfl rfl ?_
                      refine acan1_skip rfl rfl rfl ?_
                      refine acan1_skip rfl rfl rfl ?_
                      refine acan1_skip rfl rfl rfl ?_
                      refine acan1_skip rfl rfl rfl ?_
                      refine acan1_skip rfl rfl rfl ?_
                      refine acan1_skip rfl rfl rfl ?_
                      refine acan1_skip rfl rfl rfl ?_
                      refine acan1_skip rfl rfl rfl ?_
                      refine acan1_skip rfl rfl rfl ?_
                      refine acan1_skip rfl rfl rfl ?_
                      refine acan1_skip rfl rfl rfl ?_
                      refine acan1_skip rfl rfl rfl ?_
                      first | refine acan1_n rfl rfl rfl rfl (n_pt rfl rfl (by constructor)) ?_ | refine acan1_n rfl rfl rfl rfl (n_pf rfl rfl (by constructor)) ?_ | refine acan1_n rfl rfl rfl rfl (n_pick_and rfl rfl rfl rfl) ?_ | refine acan1_n rfl rfl rfl rfl (n_pick_or rfl rfl rfl rfl) ?_
                      first | refine acan1_n rfl rfl rfl rfl (n_pt rfl rfl (by constructor)) ?_ | refine acan1_n rfl rfl rfl rfl (n_pf rfl rfl (by constructor)) ?_ | refine acan1_n rfl rfl rfl rfl (n_pick_and rfl rfl rfl rfl) ?_ | refine acan1_n rfl rfl rfl rfl (n_pick_or rfl rfl rfl rfl) ?_
                      refine acan1_n rfl rfl rfl rfl (n_as rfl (by constructor)) ?_
                      refine acan1_nil ?_
                      dsimp only [St.put]
                      refine ⟨_, ?_, ⟨rfl, (by repeat' (first | exact trivial | refine ⟨?_, ?_⟩ | exact .inr rfl | exact .inl rfl | exact .inr (congrArg C.v (congrArg (Value.int _) (by simp; try omega))))), (by first | exact .inl rfl | (refine .inr ?_; repeat' (first | exact trivial | refine ⟨?_, ?_⟩ | exact .inr rfl | exact .inl rfl | exact .inr (congrArg C.v (congrArg (Value.int _) (by simp; try omega)))))), (by first | exact Nat.le_refl _ | omega | (simp; try omega)), (by (repeat' (refine subG_set (by (try dsimp only); repeat (first | exact setG_same _ _ _ | assumption | rw [setG_other (by omega)] | rw [delG_other (by omega)])) ?_)); exact (fun n o h => by first | exact h | (have := hlt n o h; (try dsimp only); repeat (first | exact h | rw [setG_other (by omega)] | rw [delG_other (by omega)]))))⟩⟩
                      first | exact del1_yes hs0 | exact del1_no hs0 hs | exact del1_ask hs0 hs
                · rintro t h2
                  dsimp only at h2 ⊢
                  refine aw_cond rfl (fun hc => ?_) (fun hc => ?_)
                  · have h2' : del1 a b i k = true := h2 ▸ hc
                    refine aw_seq_k fun K15 hK15 => ?_
                    refine aw_region ?_
                    refine aops_n rfl (n_mv rfl (by constructor)) ?_
                    try dsimp only [St.put]
                    first | refine aops_s rfl (s_load rfl rfl) ?_ | refine aops_s rfl (s_load_agg' rfl rfl (Enc.len _)) ?_ | refine aops_s rfl (s_load_agg' rfl rfl rfl) ?_ | refine aops_s rfl (s_load_box rfl rfl (by (try dsimp only); repeat (first | exact setG_same _ _ _ | assumption | rw [setG_other (by omega)] | rw [delG_other (by omega)])) trivial (by first | rfl | assumption)) ?_ | refine aops_s rfl (s_load_box_all rfl rfl (by (try dsimp only); repeat (first | exact setG_same _ _ _ | assumption | rw [setG_other (by omega)] | rw [delG_other (by omega)])) trivial (by rfl)) ?_ | refine aops_s rfl (s_load_box_agg rfl rfl (by (try dsimp only); repeat (first | exact setG_same _ _ _ | assumption | rw [setG_other (by omega)] | rw [delG_other (by omega)])) trivial (by simp)) ?_
                    refine aops_n rfl (n_build rfl rfl) ?_
                    try dsimp only [St.put]
                    refine aops_e rfl (e_buildSlice rfl rfl rfl (by decide) (by decide) (by first | (simp; done) | (intro r hr; simp only [List.mem_cons, List.not_mem_nil, or_false] at hr; first | (subst hr; rfl) | (rcases hr with hr | hr <;> (subst hr; rfl)) | (rcases hr with hr | hr | hr <;> (subst hr; rfl)) | (rcases hr with hr | hr | hr | hr <;> (subst hr; rfl)))) (by decide) ?_)
                    try dsimp only [St.put]
                    refine aops_e rfl (e_append ([(⟨⟨ch, ln, i⟩, 1, ByteArray.empty⟩ : ReadingD)]) rfl rfl (by (try dsimp only); repeat (first | exact setG_same _ _ _ | assumption | rw [setG_other (by omega)] | rw [delG_other (by omega)])) (by first | rfl | simp) rfl rfl (by first | omega | (simp only [List.length_take, List.length_cons, List.length_nil, List.length_append, List.length_map]; omega) | (simp; omega)) ?_ (by first | omega | (simp only [List.length_take, List.length_cons, List.length_nil, List.length_append, List.length_map]; omega) | (simp; omega)))
                    refine aops_n rfl (n_as rfl (by constructor)) ?_
                    refine aops_nil ?_
                    dsimp only [St.put]
                    refine hK15 _ ?_
                    refine aw_region ?_
                    refine aops_n rfl (n_mv rfl (by constructor)) ?_
                    first | refine aops_n rfl (n_add rfl rfl rfl (by omega)) ?_ | refine aops_n rfl (n_addw rfl rfl rfl) ?_
                    refine aops_n rfl (n_as rfl (by constructor)) ?_
                    refine aops_nil ?_
                    dsimp only [St.put]
                    have hn := foundI_del hI hs' hm' h1' h2'
                    have hlt1 := del1_one hm' hk0 h2'
                    exact ⟨(_, _, _), by (dsimp only; omega), hn, ⟨rfl, (by repeat' (first | exact trivial | refine ⟨?_, ?_⟩ | exact .inr rfl | exact .inl rfl | exact .inr (congrArg C.v (congrArg (Value.int _) (by simp; try omega))))), (by first | exact .inl rfl | (refine .inr ?_; repeat' (first | exact trivial | refine ⟨?_, ?_⟩ | exact .inr rfl | exact .inl rfl | exact .inr (congrArg C.v (congrArg (Value.int _) (by simp; try omega)))))), (by first | exact Nat.le_refl _ | omega | (simp; try omega)), (by (repeat' (refine subG_set (by (try dsimp only); repeat (first | exact setG_same _ _ _ | assumption | rw [setG_other (by omega)] | rw [delG_other (by omega)])) ?_)); exact (fun n o h => by first | exact h | (have := hlt n o h; (try dsimp only); repeat (first | exact h | rw [setG_other (by omega)] | rw [delG_other (by omega)]))))⟩⟩
                  · have h2' : del1 a b i k = false := h2 ▸ hc
                    obtain ⟨y, hy⟩ : ∃ y, b[k]? = some y := some_of_lt (del1_lt hm' hk0 h2')
                    refine aw_seq_k fun K16 hK16 => ?_
                    refine aw_draw [(0, none), (1, none), (2, none), (3, none), (4, none), (5, none), (6, none), (7, none), (8, none), (9, none)] (fun i => [7, 8].contains i) (fun i => [7, 8].contains i) (fun i => [0, 2, 3, 4, 6, 9].contains i) [nx + 1] (by kernel_rfl) (by kernel_rfl) ?_
                    refine acan1_n rfl rfl rfl rfl (n_mv rfl (by constructor)) ?_
                    try dsimp only [St.put]
                    first | refine acan1_s rfl rfl rfl rfl (s_load rfl rfl) ?_ | refine acan1_s rfl rfl rfl rfl (s_load_agg' rfl rfl (Enc.len _)) ?_ | refine acan1_s rfl rfl rfl rfl (s_load_agg' rfl rfl rfl) ?_ | refine acan1_s rfl rfl rfl rfl (s_load_box rfl rfl (by (try dsimp only); repeat (first | exact setG_same _ _ _ | assumption | rw [setG_other (by omega)] | rw [delG_other (by omega)])) (by simp) (by first | rfl | assumption)) ?_ | refine acan1_s rfl rfl rfl rfl (s_load_box_all rfl rfl (by (try dsimp only); repeat (first | exact setG_same _ _ _ | assumption | rw [setG_other (by omega)] | rw [delG_other (by omega)])) (by simp) (by rfl)) ?_ | refine acan1_s rfl rfl rfl rfl (s_load_box_agg rfl rfl (by (try dsimp only); repeat (first | exact setG_same _ _ _ | assumption | rw [setG_other (by omega)] | rw [delG_other (by omega)])) (by simp) (by simp)) ?_
                    refine acan1_n rfl rfl rfl rfl (n_mv rfl (by constructor)) ?_
                    refine acan1_n rfl rfl rfl rfl (n_mv rfl (by constructor)) ?_
                    first | refine acan1_n rfl rfl rfl rfl (n_indexAddr rfl rfl rfl rfl (map_get (by assumption)) (Enc.len _)) ?_ | refine acan1_n rfl rfl rfl rfl (n_indexAddr rfl rfl rfl rfl (by assumption) rfl) ?_ | refine acan1_n rfl rfl rfl rfl (n_indexAddr_arr1 rfl rfl rfl (by first | exact idx_succ _ | exact rfl) (by omega)) ?_ | refine acan1_n rfl rfl rfl rfl (n_indexAddr rfl rfl rfl (by omega) (map_get (by assumption)) (Enc.len _)) ?_
                    try dsimp only [St.put]
                    first | refine acan1_s rfl rfl rfl rfl (s_load rfl rfl) ?_ | refine acan1_s rfl rfl rfl rfl (s_load_agg' rfl rfl (Enc.len _)) ?_ | refine acan1_s rfl rfl rfl rfl (s_load_agg' rfl rfl rfl) ?_ | refine acan1_s rfl rfl rfl rfl (s_load_box rfl rfl (by (try dsimp only); repeat (first | exact setG_same _ _ _ | assumption | rw [setG_other (by omega)] | rw [delG_other (by omega)])) (by simp) (by first | rfl | assumption)) ?_ | refine acan1_s rfl rfl rfl rfl (s_load_box_all rfl rfl (by (try dsimp only); repeat (first | exact setG_same _ _ _ | assumption | rw [setG_other (by omega)] | rw [delG_other (by omega)])) (by simp) (by rfl)) ?_ | refine acan1_s rfl rfl rfl rfl (s_load_box_agg rfl rfl (by (try dsimp only); repeat (first | exact setG_same _ _ _ | assumption | rw [setG_other (by omega)] | rw [delG_other (by omega)])) (by simp) (by simp)) ?_
                    refine acan1_n rfl rfl rfl rfl (n_build rfl rfl) ?_
                    refine acan1_two ?_
                    try dsimp only [St.put]
                    refine acan2_late rfl rfl rfl rfl (e_buildSlice rfl rfl rfl (by decide) (by decide) (by first | (simp; done) | (intro r hr; simp only [List.mem_cons, List.not_mem_nil, or_false] at hr; first | (subst hr; rfl) | (rcases hr with hr | hr <;> (subst hr; rfl)) | (rcases hr with hr | hr | hr <;> (subst hr; rfl)) | (rcases hr with hr | hr | hr | hr <;> (subst hr; rfl)))) (by decide) ?_)
                    try dsimp only [St.put]
                    refine acan2_late rfl rfl rfl rfl (e_append ([(⟨⟨ch, ln, i⟩, 2, y⟩ : ReadingD)]) rfl rfl (by (try dsimp only); repeat (first | exact setG_same _ _ _ | assumption | rw [setG_other (by omega)] | rw [delG_other (by omega)])) (by first | rfl | simp) rfl rfl (by first | omega | (simp only [List.length_take, List.length_cons, List.length_nil, List.length_append, List.length_map]; omega) | (simp; omega)) ?_ (by first | omega | (simp only [List.length_take, List.length_cons, List.length_nil, List.length_append, List.length_map]; omega) | (simp; omega)))
                    refine acan2_n rfl rfl rfl rfl (n_as rfl (by constructor)) ?_
                    refine acan2_nil ?_
                    dsimp only [St.put]
                    refine hK16 _ ?_
                    refine aw_region ?_
                    refine aops_n rfl (n_mv rfl (by constructor)) ?_
                    first | refine aops_n rfl (n_add rfl rfl rfl (by omega)) ?_ | refine aops_n rfl (n_addw rfl rfl rfl) ?_
                    refine aops_n rfl (n_as rfl (by constructor)) ?_
                    refine aops_nil ?_
                    dsimp only [St.put]
                    have hn := foundI_ins hI hs' hm' h1' h2' hy
                    have hlt1 := del1_lt hm' hk0 h2'
                    exact ⟨(_, _, _), by (dsimp only; omega), hn, ⟨rfl, (by repeat' (first | exact trivial | refine ⟨?_, ?_⟩ | exact .inr rfl | exact .inl rfl | exact .inr (congrArg C.v (congrArg (Value.int _) (by simp; try omega))))), (by first | exact .inl rfl | (refine .inr ?_; repeat' (first | exact trivial | refine ⟨?_, ?_⟩ | exact .inr rfl | exact .inl rfl | exact .inr (congrArg C.v (congrArg (Value.int _) (by simp; try omega)))))), (by first | exact Nat.le_refl _ | omega | (simp; try omega)), (by (repeat' (refine subG_set (by (try dsimp only); repeat (first | exact setG_same _ _ _ | assumption | rw [setG_other (by omega)] | rw [delG_other (by omega)])) ?_)); exact (fun n o h => by first | exact h | (have := hlt n o h; (try dsimp only); repeat (first | exact h | rw [setG_other (by omega)] | rw [delG_other (by omega)]))))⟩⟩
      · have hm' : moreW a b i k = false := hm ▸ hc
        refine aw_exit ?_
        refine hK5 _ ?_
        refine aw_seq_k fun K17 hK17 => ?_
        refine aw_region ?_
        refine aops_n rfl (n_mv rfl (by constructor)) ?_
        refine aops_n rfl (n_as rfl (by constructor)) ?_
        refine aops_nil ?_
        dsimp only [St.put]
        rw [foundI_end hI hm']
        refine hK17 _ ?_
        refine aw_ret ?_
        refine ends_v1 rfl (rv_tmp (by constructor)) (by first | exact Nat.le_refl _ | omega | (simp; try omega)) (fun n o h => by first | exact h | (have := hlt n o h; (try dsimp only); repeat (first | exact h | rw [setG_other (by omega)] | rw [delG_other (by omega)]))) ?_
        exact (by repeat' (first | exact Wk.refl _ | exact Wk.tok | refine Wk.agg ?_ | refine ⟨?_, ?_⟩ | exact trivial))
end Go.Proofs.Ytalkonicppbgdaa
