/-
  Contracts of the reference's functions of charts: lines that lead from one edition to another one.
-/
import Derived.Test.YtjjklfgpffgnfaaDoorEbRef
import Derived.Test.YtjjklfgpffgnfaaDoorCyPlain
namespace Go.AB
open Go Go.RowKit
open Go.PB (Chap TextD PlaceD ReadingD CopyD WayD)
theorem drop_more {α : Type} {L : List α} {p : α → Prop} {k : Nat} {y : α} (h : ∀ z ∈ L.drop k, p z) (hy : L[k - 1]? = some y) (hk : 0 < k) (hp : p y) : ∀ z ∈ L.drop (k - 1), p z := by
  obtain ⟨h1, h2⟩ := List.getElem?_eq_some_iff.1 hy
  rw [List.drop_eq_getElem_cons h1]
  intro z hz
  rcases List.mem_cons.1 hz with rfl | hz
  · rw [h2]; exact hp
  · rw [show k - 1 + 1 = k by omega] at hz; exact h z hz
theorem crossI_bd {t : TextD} {es fs : List StretchD} (he : ∀ s ∈ es, SOk s) (hf : ∀ s ∈ fs, SOk s) {L : List PassD} {i : Nat} (h : CrossI (rowsT t es) (rowsT t fs) L i) : ∀ x ∈ L, PBd 1 x := fun x hx => by
  obtain ⟨j, a, b, _, q2, q3, q4, q5, rfl⟩ := (h.mem x).1 hx
  exact onePass_bd he hf (List.mem_of_getElem? q2) (List.mem_of_getElem? q3) q4 q5
end Go.AB
namespace Go.Proofs.YtjjklfgpffgnfaaDoor
set_option maxRecDepth 10000
open Go.RowKit Go.AB
open Go.AB.Enc (cells)
open Go.PB (Chap TextD PlaceD ReadingD CopyD WayD)
set_option maxHeartbeats 2000000 in
theorem Cross2_pure (t : TextD) (e f : EditionD) : Pure Tryd.prog 30 [textC t, val e, val f] (.tup [lst (crossL t e f), .v (.int .i64 (bothEr t e f))]) := by
  refine pure_of_body Tryd.func30 rfl (fun m => .tup (low_cons (lst_low _ _) (low_cons .v low_nil))) fun G nx => ?_
  simp only [Tryd.ntmps30, List.length_cons, List.length_nil, Nat.reduceAdd, Nat.reduceSub]
  refine aw_lt fun hlt => ?_
  dsimp only at hlt
  refine aw_seq_k fun K1 hK1 => ?_
  refine aw_region ?_
  try dsimp only [St.put]
  refine aops_e rfl (e_box rfl rfl (by simp) ?_)
  try dsimp only [St.put]
  refine aops_e rfl (e_box rfl rfl (by simp) ?_)
  try dsimp only [St.put]
  refine aops_e rfl (e_box rfl rfl (by simp) ?_)
  refine aops_n rfl (n_as rfl (by constructor)) ?_
  refine aops_n rfl (n_as rfl (by constructor)) ?_
  refine aops_nil ?_
  dsimp only [St.put]
  refine hK1 _ ?_
  refine aw_seq_k fun K2 hK2 => ?_
  refine aw_seq_k fun K3 hK3 => ?_
  refine aw_region ?_
  try dsimp only [St.put]
  refine aops_s rfl (s_load_agg' rfl rfl rfl) ?_
  try dsimp only [St.put]
  refine aops_s rfl (s_load_agg' rfl rfl (Enc.len _)) ?_
  try dsimp only [St.put]
  refine aops_s rfl (s_load_agg' rfl rfl (Enc.len _)) ?_
  try dsimp only [St.put]
  refine aops_e rfl (e_call_pure rfl rfl rfl (both_pure t e f) ?_)
  refine aops_n rfl (n_as rfl (by constructor)) ?_
  refine aops_nil ?_
  dsimp only [St.put]
  refine hK3 _ ?_
  refine aw_seq_k fun K4 hK4 => ?_
  refine aw_region ?_
  refine aops_n rfl (n_mv rfl (by constructor)) ?_
  refine aops_n rfl (n_neq rfl rfl rfl) ?_
  refine aops_nil ?_
  dsimp only [St.put]
  refine hK4 _ ?_
  refine aw_cond rfl (fun hc => ?_) (fun hc => ?_)
  · have h0 : ¬ bothEr t e f = 0 := nd_t hc
    have hV : crossL t e f = [] := by simp [crossL, h0]
    refine aw_seq_k fun K5 hK5 => ?_
    refine aw_region ?_
    refine aops_n rfl (n_mv rfl (by constructor)) ?_
    refine aops_n rfl (n_as rfl (by constructor)) ?_
    refine aops_n rfl (n_as rfl (by constructor)) ?_
    refine aops_nil ?_
    dsimp only [St.put]
    refine hK5 _ ?_
    refine aw_ret ?_
    refine ends_v2 rfl (rv_tmp (by constructor)) (rv_tmp (by constructor)) zN zS ?_ ?_
    · rw [hV]
      exact zW
    · exact Wk.refl _
  · have h0 : bothEr t e f = 0 := nd_f hc
    obtain ⟨h0e, h0f⟩ := bothEr_ok h0
    have hSe := soundEr_sound h0e
    have hSf := soundEr_sound h0f
    have hok := hSe.ok
    have hokf := hSf.ok
    have hll := rowsT_all hSe.tx e.ss
    have hle := rows_len t e.ss f.ss
    refine aw_skip ?_
    refine hK2 _ ?_
    refine aw_seq_k fun K6 hK6 => ?_
    refine aw_draw [(0, none), (1, none), (3, none), (4, none), (2, none), (5, none), (6, none), (7, none)] (fun i => [5].contains i) (fun i => [2, 5].contains i) (fun i => [6, 7].contains i) [] (by kernel_rfl) (by kernel_rfl) ?_
    try dsimp only [St.put]
    refine acan1_s rfl rfl rfl rfl (s_load_agg' rfl rfl rfl) ?_
    try dsimp only [St.put]
    refine acan1_s rfl rfl rfl rfl (s_load_agg' rfl rfl (Enc.len _)) ?_
    try dsimp only [St.put]
    refine acan1_s rfl rfl rfl rfl (s_load_agg' rfl rfl rfl) ?_
    try dsimp only [St.put]
    refine acan1_s rfl rfl rfl rfl (s_load_agg' rfl rfl (Enc.len _)) ?_
    refine acan1_two ?_
    try dsimp only [St.put]
    refine acan2_e rfl rfl rfl (e_call_pure rfl rfl rfl (rows_pure t e hSe.tx hSe.len hok) ⟨zD, ?_⟩)
    try dsimp only [St.put]
    refine acan2_late rfl rfl rfl rfl (e_call_pure rfl rfl rfl (rows_pure t f hSe.tx hSf.len hokf) ?_)
    refine acan2_n rfl rfl rfl rfl (n_as rfl (by constructor)) ?_
    refine acan2_n rfl rfl rfl rfl (n_as rfl (by constructor)) ?_
    refine acan2_nil ?_
    dsimp only [St.put]
    refine hK6 _ ?_
    refine aw_seq_k fun K7 hK7 => ?_
    refine aw_region ?_
    refine aops_n rfl (n_as rfl (by constructor)) ?_
    refine aops_nil ?_
    dsimp only [St.put]
    refine hK7 _ ?_
    refine aw_adopt_own 11 145 5 rfl (by decide) ?_
    dsimp only
    refine aw_seq_k fun K8 hK8 => ?_
    refine aw_seq_k fun K9 hK9 => ?_
    refine aw_region ?_
    refine aops_n rfl (n_as rfl (by constructor)) ?_
    refine aops_nil ?_
    dsimp only [St.put]
    refine hK9 _ ?_
    refine aw_block ?_
    refine aw_wipe 15 ?_
    simp only [firsts, getA, Nat.reduceAdd, List.getD_cons_zero, List.getD_cons_succ, List.getD_nil, natBeq, Nat.reduceBEq, cond_true, cond_false]
    refine aw_forget ((setG G nx (.arr (([] : List PassD)).length 0 145 5 (([] : List PassD)).length (flatC (([] : List PassD)))))) zX ?_
    dsimp only
    refine aw_loopD (X := Nat × Nat × List PassD) (fun x => x.1 ≤ (rowsT t e.ss).length ∧ CrossI (rowsT t e.ss) (rowsT t f.ss) x.2.2 x.1) (fun x => (rowsT t e.ss).length - x.1) (fun x => [(11, .own nx x.2.2.length x.2.2.length), (12, .v (.int .i64 (x.1 : Int))), (13, .any), (14, .any)]) (fun x G' => (setG G nx (.arr x.2.2.length x.2.1 145 5 x.2.2.length (flatC x.2.2)))) (0, 0, []) rfl ?_ ?_ ?_ ?_ ?_ ?_
    · exact ⟨Nat.zero_le _, crossI_start _ _⟩
    · exact zF
    · exact zX
    · rintro ⟨i, wv, L⟩ hI
      exact zL
    · rintro ⟨i, wv, L⟩ hI
      exact zH
    · rintro ⟨i, wv, L⟩ hI
      dsimp only at hI ⊢
      refine aw_seq_k fun K10 hK10 => ?_
      refine aw_seq_k fun K11 hK11 => ?_
      refine aw_region ?_
      refine aops_n rfl (n_mv rfl (by constructor)) ?_
      refine aops_n rfl (n_mv rfl (by constructor)) ?_
      refine aops_n rfl (n_len' rfl rfl (List.length_map _)) ?_
      refine aops_n rfl (n_lss rfl rfl rfl) ?_
      refine aops_nil ?_
      dsimp only [St.put]
      refine hK11 _ ?_
      refine aw_cond rfl (fun hc => ?_) (fun hc => ?_)
      · replace hc := of_decide_eq_true hc
        obtain ⟨r1, hr1⟩ : ∃ x, (rowsT t e.ss)[i]? = some x := some_of_lt (by omega)
        obtain ⟨r2, hr2⟩ : ∃ x, (rowsT t f.ss)[i]? = some x := some_of_lt (by omega)
        have hLl := hI.2.len
        refine aw_skip ?_
        refine hK10 _ ?_
        refine aw_seq_k fun K12 hK12 => ?_
        refine aw_block ?_
        refine aw_seq_k fun K13 hK13 => ?_
        refine aw_seq_k fun K14 hK14 => ?_
        refine aw_region ?_
        refine aops_n rfl (n_mv rfl (by constructor)) ?_
        refine aops_n rfl (n_mv rfl (by constructor)) ?_
        try dsimp only [St.put]
        refine aops_n rfl (n_indexAddr rfl rfl rfl rfl (map_get (by assumption)) (Enc.len _)) ?_
        refine aops_n rfl (n_fieldAddr' rfl rfl rfl) ?_
        try dsimp only [St.put]
        refine aops_s rfl (s_load rfl rfl) ?_
        refine aops_n rfl (n_eql rfl rfl rfl) ?_
        refine aops_n rfl (n_mv rfl (by constructor)) ?_
        refine aops_split (fun hs => ?_) (fun hs => ?_)
        · have h96 : r1.au = 0 := of_decide_eq_true hs
          refine aops_skip rfl ?_
          refine aops_skip rfl ?_
          refine aops_skip rfl ?_
          refine aops_skip rfl ?_
          refine aops_skip rfl ?_
          refine aops_skip rfl ?_
          refine aops_n rfl (n_pt rfl rfl (by constructor)) ?_
          refine aops_nil ?_
          dsimp only [St.put]
          refine hK14 _ ?_
          refine aw_cond rfl (fun _ => ?_) (fun h => by cases h)
          try have hn2 : r2.au = 0 := of_decide_eq_true hc
          refine aw_exit ?_
          refine hK12 _ ?_
          refine aw_region ?_
          refine aops_n rfl (n_mv rfl (by constructor)) ?_
          refine aops_n rfl (n_add rfl rfl rfl (by omega)) ?_
          refine aops_n rfl (n_as rfl (by constructor)) ?_
          refine aops_nil ?_
          dsimp only [St.put]
          first
            | exact ⟨(i + 1, wv, L), by (dsimp only; omega), ⟨by (dsimp only; omega), crossI_skip hI.2 hr1 hr2 (by first | exact .inl h96 | exact .inr hn2)⟩, ⟨⟨rfl, rfl⟩, zF, zB, zN, zX⟩⟩
            | (rw [show L.length + 1 = (L.take k ++ onePass r1 r2 :: L.drop k).length by rw [shift_len hJ.1]]
               exact ⟨(i + 1, wk + 1, L.take k ++ onePass r1 r2 :: L.drop k), by (dsimp only; omega), ⟨by (dsimp only; omega), crossI_put hSe hI.2 hr1 hr2 h96 hn2 hJ.1 hJ.2 hend⟩, ⟨⟨rfl, rfl⟩, zF, zB, zN, zX⟩⟩)
        · have h96 : r1.au ≠ 0 := of_decide_eq_false hs
          refine aops_n rfl (n_mv rfl (by constructor)) ?_
          refine aops_n rfl (n_mv rfl (by constructor)) ?_
          try dsimp only [St.put]
          refine aops_n rfl (n_indexAddr rfl rfl rfl rfl (map_get (by assumption)) (Enc.len _)) ?_
          refine aops_n rfl (n_fieldAddr' rfl rfl rfl) ?_
          try dsimp only [St.put]
          refine aops_s rfl (s_load rfl rfl) ?_
          refine aops_n rfl (n_eql rfl rfl rfl) ?_
          refine aops_n rfl (n_pf rfl rfl (by constructor)) ?_
          refine aops_nil ?_
          dsimp only [St.put]
          refine hK14 _ ?_
          refine aw_cond rfl (fun hc => ?_) (fun hc => ?_)
          · try have hn2 : r2.au = 0 := of_decide_eq_true hc
            refine aw_exit ?_
            refine hK12 _ ?_
            refine aw_region ?_
            refine aops_n rfl (n_mv rfl (by constructor)) ?_
            refine aops_n rfl (n_add rfl rfl rfl (by omega)) ?_
            refine aops_n rfl (n_as rfl (by constructor)) ?_
            refine aops_nil ?_
            dsimp only [St.put]
            first
              | exact ⟨(i + 1, wv, L), by (dsimp only; omega), ⟨by (dsimp only; omega), crossI_skip hI.2 hr1 hr2 (by first | exact .inl h96 | exact .inr hn2)⟩, ⟨⟨rfl, rfl⟩, zF, zB, zN, zX⟩⟩
              | (rw [show L.length + 1 = (L.take k ++ onePass r1 r2 :: L.drop k).length by rw [shift_len hJ.1]]
                 exact ⟨(i + 1, wk + 1, L.take k ++ onePass r1 r2 :: L.drop k), by (dsimp only; omega), ⟨by (dsimp only; omega), crossI_put hSe hI.2 hr1 hr2 h96 hn2 hJ.1 hJ.2 hend⟩, ⟨⟨rfl, rfl⟩, zF, zB, zN, zX⟩⟩)
          · have hn2 : r2.au ≠ 0 := of_decide_eq_false hc
            refine aw_skip ?_
            refine hK13 _ ?_
            refine aw_seq_k fun K15 hK15 => ?_
            refine aw_draw [(0, none), (1, none), (2, none), (3, none), (4, none), (5, none), (6, none), (7, none), (8, none), (9, none), (10, none), (11, none), (12, none), (13, none), (14, none), (15, none), (16, none), (17, none), (18, none), (19, none), (20, none), (21, none), (22, none)] (fun i => [22].contains i) (fun i => [21, 22].contains i) (fun i => [0, 1, 2, 3, 5, 6, 7, 8, 10, 11, 12, 13, 15, 16, 17, 18, 20].contains i) [] (by kernel_rfl) (by kernel_rfl) ?_
            refine acan1_n rfl rfl rfl rfl (n_mv rfl (by constructor)) ?_
            refine acan1_n rfl rfl rfl rfl (n_mv rfl (by constructor)) ?_
            try dsimp only [St.put]
            refine acan1_n rfl rfl rfl rfl (n_indexAddr rfl rfl rfl rfl (map_get (by assumption)) (Enc.len _)) ?_
            refine acan1_n rfl rfl rfl rfl (n_fieldAddr' rfl rfl rfl) ?_
            try dsimp only [St.put]
            refine acan1_s rfl rfl rfl rfl (s_load rfl rfl) ?_
            refine acan1_n rfl rfl rfl rfl (n_mv rfl (by constructor)) ?_
            refine acan1_n rfl rfl rfl rfl (n_mv rfl (by constructor)) ?_
            try dsimp only [St.put]
            refine acan1_n rfl rfl rfl rfl (n_indexAddr rfl rfl rfl rfl (map_get (by assumption)) (Enc.len _)) ?_
            refine acan1_n rfl rfl rfl rfl (n_fieldAddr' rfl rfl rfl) ?_
            try dsimp only [St.put]
            refine acan1_s rfl rfl rfl rfl (s_load rfl rfl) ?_
            refine acan1_n rfl rfl rfl rfl (n_mv rfl (by constructor)) ?_
            refine acan1_n rfl rfl rfl rfl (n_mv rfl (by constructor)) ?_
            try dsimp only [St.put]
            refine acan1_n rfl rfl rfl rfl (n_indexAddr rfl rfl rfl rfl (map_get (by assumption)) (Enc.len _)) ?_
            refine acan1_n rfl rfl rfl rfl (n_fieldAddr' rfl rfl rfl) ?_
            try dsimp only [St.put]
            refine acan1_s rfl rfl rfl rfl (s_load rfl rfl) ?_
            refine acan1_n rfl rfl rfl rfl (n_mv rfl (by constructor)) ?_
            refine acan1_n rfl rfl rfl rfl (n_mv rfl (by constructor)) ?_
            try dsimp only [St.put]
            refine acan1_n rfl rfl rfl rfl (n_indexAddr rfl rfl rfl rfl (map_get (by assumption)) (Enc.len _)) ?_
            refine acan1_n rfl rfl rfl rfl (n_fieldAddr' rfl rfl rfl) ?_
            try dsimp only [St.put]
            refine acan1_s rfl rfl rfl rfl (s_load rfl rfl) ?_
            refine acan1_n rfl rfl rfl rfl (n_build rfl rfl) ?_
            refine acan1_two ?_
            try dsimp only [St.put]
            refine acan2_e rfl rfl rfl (e_allocC rfl ⟨zD, ?_⟩)
            try dsimp only [St.put]
            refine acan2_late rfl rfl rfl rfl (e_store_all rfl rfl rfl zG rfl rfl (by rfl) ?_)
            refine acan2_nil ?_
            dsimp only [St.put]
            refine hK15 _ ?_
            refine aw_commitD (i := 13) rfl zG (by first | exact List.cons_ne_nil _ _ | (simp; done) | (simp [putAt]; done)) ?_
            dsimp only
            refine aw_seq_k fun K16 hK16 => ?_
            refine aw_region ?_
            refine aops_n rfl (n_mv rfl (by constructor)) ?_
            refine aops_n rfl (n_len_own rfl rfl) ?_
            refine aops_n rfl (n_as rfl (by constructor)) ?_
            refine aops_nil ?_
            dsimp only [St.put]
            refine hK16 _ ?_
            refine aw_seq_k fun K17 hK17 => ?_
            refine aw_region ?_
            refine aops_n rfl (n_mv rfl (by constructor)) ?_
            try dsimp only [St.put]
            refine aops_s rfl (s_load_agg' rfl rfl rfl) ?_
            try dsimp only [St.put]
            refine aops_e rfl (e_buildSlice rfl rfl rfl (by decide) (by decide) zR (by decide) ?_)
            try dsimp only [St.put]
            refine aops_e rfl (e_append_own (onePass r1 r2) rfl rfl zG rfl rfl rfl rfl zA ?_ zA)
            refine aops_n rfl (n_as rfl (by constructor)) ?_
            refine aops_nil ?_
            dsimp only [St.put]
            rw [shift_start L (onePass r1 r2), show L.length + 1 = (L.take L.length ++ onePass r1 r2 :: L.drop L.length).length by rw [shift_len (Nat.le_refl _)]]
            refine hK17 _ ?_
            refine aw_seq_k fun K18 hK18 => ?_
            refine aw_block ?_
            refine aw_wipe 15 ?_
            simp only [firsts, getA, Nat.reduceAdd, List.getD_cons_zero, List.getD_cons_succ, List.getD_nil, natBeq, Nat.reduceBEq, cond_true, cond_false]
            refine aw_forget ((setG G nx (.arr ((L.take L.length ++ onePass r1 r2 :: L.drop L.length)).length wv 145 5 ((L.take L.length ++ onePass r1 r2 :: L.drop L.length)).length (flatC ((L.take L.length ++ onePass r1 r2 :: L.drop L.length)))))) zX ?_
            dsimp only
            have hsl : ∀ (k : Nat) (z : PassD), k ≤ L.length → (L.take k ++ z :: L.drop k).length = L.length + 1 := fun k z h => shift_len h
            rw [hsl _ _ (Nat.le_refl _)]
            refine aw_loopD (X := Nat × Nat × PassD) (fun x => x.1 ≤ L.length ∧ ∀ y ∈ L.drop x.1, ltL (passK (onePass r1 r2)) (passK y)) (fun x => x.1) (fun x => [(14, .v (.int .i64 (x.1 : Int)))]) (fun x G' => setG G nx (.arr (L.length + 1) x.2.1 145 5 (L.length + 1) (flatC (L.take x.1 ++ x.2.2 :: L.drop x.1)))) (L.length, wv, onePass r1 r2) rfl ?_ ?_ ?_ ?_ ?_ ?_
            · exact ⟨Nat.le_refl _, fun y hy => by simp at hy⟩
            · exact zF
            · exact zX
            · rintro ⟨k, wk, z⟩ hI
              exact zL
            · rintro ⟨k, wk, z⟩ hI
              exact zH
            · rintro ⟨k, wk, z⟩ hJ
              dsimp only at hJ ⊢
              refine aw_seq_k fun K19 hK19 => ?_
              refine aw_wipe 15 ?_
              simp only [firsts, getA, Nat.reduceAdd, List.getD_cons_zero, List.getD_cons_succ, List.getD_nil, natBeq, Nat.reduceBEq, cond_true, cond_false]
              refine aw_cutD (X := Bool) (fun b => (b = true → 0 < k ∧ ∃ y, L[k - 1]? = some y ∧ ltL (passK (onePass r1 r2)) (passK y)) ∧ (b = false → k = 0 ∨ ∃ y, L[k - 1]? = some y ∧ ¬ ltL (passK (onePass r1 r2)) (passK y))) (fun b => [(114, .v (.bool b))]) (fun b G' => G') rfl ?_ (fun _ _ _ _ h => .inl h) ?_ ?_
              · rintro b hI
                exact zL
              · refine aw_draw [(0, none), (1, none), (2, none), (3, none), (4, none), (5, none), (6, none), (7, none), (8, none), (9, none), (10, none), (11, none), (12, none), (13, none), (14, none), (15, none), (16, none), (17, none), (18, none), (19, none), (20, none), (21, none), (22, none), (23, none), (24, none), (25, none), (26, none), (27, none), (28, none), (29, none), (30, none), (31, none), (32, none), (33, none), (34, none)] (fun i => [].contains i) (fun i => [].contains i) (fun i => [0, 1, 2, 3, 4, 5, 6, 7, 9, 11, 12, 13, 14, 15, 16, 17, 19, 21, 22, 23, 24, 25, 26, 27, 29, 31, 32, 33, 34].contains i) [nx] (by kernel_rfl) (by kernel_rfl) ?_
                refine acan1_n rfl rfl rfl rfl (n_mv rfl (by constructor)) ?_
                refine acan1_n rfl rfl rfl rfl (n_gtr rfl rfl rfl) ?_
                refine acan1_split (fun hs => ?_) (fun hs => ?_)
                · have h1 := of_decide_eq_true hs
                  obtain ⟨y, hy⟩ : ∃ x, L[k - 1]? = some x := some_of_lt (by omega)
                  have hz : (L.take k ++ z :: L.drop k)[k - 1]? = some y := (shift_get (by omega) hJ.1).trans hy
                  refine acan1_n rfl rfl rfl rfl (n_mv rfl (by constructor)) ?_
                  refine acan1_n rfl rfl rfl rfl (n_mv rfl (by constructor)) ?_
                  refine acan1_n rfl rfl rfl rfl (n_mv rfl (by constructor)) ?_
                  refine acan1_n rfl rfl rfl rfl (n_sub rfl rfl rfl (by omega)) ?_
                  try dsimp only [St.put]
                  refine acan1_n rfl rfl rfl rfl (n_indexAddr_own (k := (k - 1)) rfl rfl zG rfl (by first | exact rfl | omega) (by first | omega | (simp; omega))) ?_
                  refine acan1_n rfl rfl rfl rfl (n_fieldAddr_box rfl rfl) ?_
                  try dsimp only [St.put]
                  refine acan1_s rfl rfl rfl rfl (s_load_own rfl rfl zG (by simp) (flatC_get (by assumption) rfl)) ?_
                  refine acan1_n rfl rfl rfl rfl (n_fieldAddr' rfl rfl rfl) ?_
                  try dsimp only [St.put]
                  refine acan1_s rfl rfl rfl rfl (s_load rfl rfl) ?_
                  refine acan1_n rfl rfl rfl rfl (n_gtr rfl rfl rfl) ?_
                  refine acan1_split (fun hs => ?_) (fun hs => ?_)
                  · have h11 := of_decide_eq_true hs
                    refine acan1_n rfl rfl rfl rfl (n_mv rfl (by constructor)) ?_
                    refine acan1_skip rfl rfl rfl ?_
                    refine acan1_skip rfl rfl rfl ?_
                    refine acan1_skip rfl rfl rfl ?_
                    refine acan1_skip rfl rfl rfl ?_
                    refine acan1_skip rfl rfl rfl ?_
                    refine acan1_skip rfl rfl rfl ?_
                    refine acan1_skip rfl rfl rfl ?_
                    refine acan1_skip rfl rfl rfl ?_
                    refine acan1_skip rfl rfl rfl ?_
                    refine acan1_skip rfl rfl rfl ?_
                    refine acan1_skip rfl rfl rfl ?_
                    refine acan1_skip rfl rfl rfl ?_
                    refine acan1_skip rfl rfl rfl ?_
                    refine acan1_skip rfl rfl rfl ?_
                    refine acan1_skip rfl rfl rfl ?_
                    refine acan1_skip rfl rfl rfl ?_
                    refine acan1_skip rfl rfl rfl ?_
                    refine acan1_skip rfl rfl rfl ?_
                    refine acan1_skip rfl rfl rfl ?_
                    refine acan1_skip rfl rfl rfl ?_
                    refine acan1_n rfl rfl rfl rfl (n_pt rfl rfl (by constructor)) ?_
                    refine acan1_n rfl rfl rfl rfl (n_pt rfl rfl (by constructor)) ?_
                    refine acan1_nil ?_
                    dsimp only [St.put]
                    refine ⟨_, ?_, ⟨⟨rfl, rfl⟩, zF, zB, zN, zX⟩⟩
                    first
                      | exact ⟨fun h => (by cases h), fun _ => .inl (by omega)⟩
                      | exact ⟨fun _ => ⟨by omega, y, hy, by simp only [ltL, passK, onePass]; omega⟩, fun h => by cases h⟩
                      | exact ⟨fun h => ⟨by omega, y, hy, by have := of_decide_eq_true h; simp only [ltL, passK, onePass]; omega⟩, fun h => .inr ⟨y, hy, by have := of_decide_eq_false h; simp only [ltL, passK, onePass]; omega⟩⟩
                      | exact ⟨fun h => (by cases h), fun _ => .inr ⟨y, hy, by simp only [ltL, passK, onePass]; omega⟩⟩
                  · have h11 := of_decide_eq_false hs
                    refine acan1_n rfl rfl rfl rfl (n_mv rfl (by constructor)) ?_
                    refine acan1_n rfl rfl rfl rfl (n_mv rfl (by constructor)) ?_
                    refine acan1_n rfl rfl rfl rfl (n_mv rfl (by constructor)) ?_
                    refine acan1_n rfl rfl rfl rfl (n_sub rfl rfl rfl (by omega)) ?_
                    try dsimp only [St.put]
                    refine acan1_n rfl rfl rfl rfl (n_indexAddr_own (k := (k - 1)) rfl rfl zG rfl (by first | exact rfl | omega) (by first | omega | (simp; omega))) ?_
                    refine acan1_n rfl rfl rfl rfl (n_fieldAddr_box rfl rfl) ?_
                    try dsimp only [St.put]
                    refine acan1_s rfl rfl rfl rfl (s_load_own rfl rfl zG (by simp) (flatC_get (by assumption) rfl)) ?_
                    refine acan1_n rfl rfl rfl rfl (n_fieldAddr' rfl rfl rfl) ?_
                    try dsimp only [St.put]
                    refine acan1_s rfl rfl rfl rfl (s_load rfl rfl) ?_
                    refine acan1_n rfl rfl rfl rfl (n_eql rfl rfl rfl) ?_
                    refine acan1_split (fun hs => ?_) (fun hs => ?_)
                    · have h21 := of_decide_eq_true hs
                      refine acan1_n rfl rfl rfl rfl (n_mv rfl (by constructor)) ?_
                      refine acan1_n rfl rfl rfl rfl (n_mv rfl (by constructor)) ?_
                      refine acan1_n rfl rfl rfl rfl (n_mv rfl (by constructor)) ?_
                      refine acan1_n rfl rfl rfl rfl (n_sub rfl rfl rfl (by omega)) ?_
                      try dsimp only [St.put]
                      refine acan1_n rfl rfl rfl rfl (n_indexAddr_own (k := (k - 1)) rfl rfl zG rfl (by first | exact rfl | omega) (by first | omega | (simp; omega))) ?_
                      refine acan1_n rfl rfl rfl rfl (n_fieldAddr_box rfl rfl) ?_
                      try dsimp only [St.put]
                      refine acan1_s rfl rfl rfl rfl (s_load_own rfl rfl zG (by simp) (flatC_get (by assumption) rfl)) ?_
                      refine acan1_n rfl rfl rfl rfl (n_fieldAddr' rfl rfl rfl) ?_
                      try dsimp only [St.put]
                      refine acan1_s rfl rfl rfl rfl (s_load rfl rfl) ?_
                      refine acan1_n rfl rfl rfl rfl (n_gtr rfl rfl rfl) ?_
                      refine acan1_n rfl rfl rfl rfl (n_pt rfl rfl (by constructor)) ?_
                      refine acan1_n rfl rfl rfl rfl (n_pf rfl rfl (by constructor)) ?_
                      refine acan1_n rfl rfl rfl rfl (n_pt rfl rfl (by constructor)) ?_
                      refine acan1_nil ?_
                      dsimp only [St.put]
                      refine ⟨_, ?_, ⟨⟨rfl, rfl⟩, zF, zB, zN, zX⟩⟩
                      first
                        | exact ⟨fun h => (by cases h), fun _ => .inl (by omega)⟩
                        | exact ⟨fun _ => ⟨by omega, y, hy, by simp only [ltL, passK, onePass]; omega⟩, fun h => by cases h⟩
                        | exact ⟨fun h => ⟨by omega, y, hy, by have := of_decide_eq_true h; simp only [ltL, passK, onePass]; omega⟩, fun h => .inr ⟨y, hy, by have := of_decide_eq_false h; simp only [ltL, passK, onePass]; omega⟩⟩
                        | exact ⟨fun h => (by cases h), fun _ => .inr ⟨y, hy, by simp only [ltL, passK, onePass]; omega⟩⟩
                    · have h21 := of_decide_eq_false hs
                      refine acan1_n rfl rfl rfl rfl (n_mv rfl (by constructor)) ?_
                      refine acan1_skip rfl rfl rfl ?_
                      refine acan1_skip rfl rfl rfl ?_
                      refine acan1_skip rfl rfl rfl ?_
                      refine acan1_skip rfl rfl rfl ?_
                      refine acan1_skip rfl rfl rfl ?_
                      refine acan1_skip rfl rfl rfl ?_
                      refine acan1_skip rfl rfl rfl ?_
                      refine acan1_skip rfl rfl rfl ?_
                      refine acan1_skip rfl rfl rfl ?_
                      refine acan1_n rfl rfl rfl rfl (n_pf rfl rfl (by constructor)) ?_
                      refine acan1_n rfl rfl rfl rfl (n_pf rfl rfl (by constructor)) ?_
                      refine acan1_n rfl rfl rfl rfl (n_pt rfl rfl (by constructor)) ?_
                      refine acan1_nil ?_
                      dsimp only [St.put]
                      refine ⟨_, ?_, ⟨⟨rfl, rfl⟩, zF, zB, zN, zX⟩⟩
                      first
                        | exact ⟨fun h => (by cases h), fun _ => .inl (by omega)⟩
                        | exact ⟨fun _ => ⟨by omega, y, hy, by simp only [ltL, passK, onePass]; omega⟩, fun h => by cases h⟩
                        | exact ⟨fun h => ⟨by omega, y, hy, by have := of_decide_eq_true h; simp only [ltL, passK, onePass]; omega⟩, fun h => .inr ⟨y, hy, by have := of_decide_eq_false h; simp only [ltL, passK, onePass]; omega⟩⟩
                        | exact ⟨fun h => (by cases h), fun _ => .inr ⟨y, hy, by simp only [ltL, passK, onePass]; omega⟩⟩
                · have h1 := of_decide_eq_false hs
                  refine acan1_n rfl rfl rfl rfl (n_mv rfl (by constructor)) ?_
                  refine acan1_skip rfl rfl rfl ?_
                  refine acan1_skip rfl rfl rfl ?_
                  refine acan1_skip rfl rfl rfl ?_
                  refine acan1_skip rfl rfl rfl ?_
                  refine acan1_skip rfl rfl rfl ?_
                  refine acan1_skip rfl rfl rfl ?_
                  refine acan1_skip rfl rfl rfl ?_
                  refine acan1_skip rfl rfl rfl ?_
                  refine acan1_skip rfl rfl rfl ?_
                  refine acan1_skip rfl rfl rfl ?_
                  refine acan1_skip rfl rfl rfl ?_
                  refine acan1_skip rfl rfl rfl ?_
                  refine acan1_skip rfl rfl rfl ?_
                  refine acan1_skip rfl rfl rfl ?_
                  refine acan1_skip rfl rfl rfl ?_
                  refine acan1_skip rfl rfl rfl ?_
                  refine acan1_skip rfl rfl rfl ?_
                  refine acan1_skip rfl rfl rfl ?_
                  refine acan1_skip rfl rfl rfl ?_
                  refine acan1_skip rfl rfl rfl ?_
                  refine acan1_skip rfl rfl rfl ?_
                  refine acan1_skip rfl rfl rfl ?_
                  refine acan1_skip rfl rfl rfl ?_
                  refine acan1_skip rfl rfl rfl ?_
                  refine acan1_skip rfl rfl rfl ?_
                  refine acan1_skip rfl rfl rfl ?_
                  refine acan1_skip rfl rfl rfl ?_
                  refine acan1_skip rfl rfl rfl ?_
                  refine acan1_skip rfl rfl rfl ?_
                  refine acan1_skip rfl rfl rfl ?_
                  refine acan1_skip rfl rfl rfl ?_
                  refine acan1_n rfl rfl rfl rfl (n_pf rfl rfl (by constructor)) ?_
                  refine acan1_nil ?_
                  dsimp only [St.put]
                  refine ⟨_, ?_, ⟨⟨rfl, rfl⟩, zF, zB, zN, zX⟩⟩
                  first
                    | exact ⟨fun h => (by cases h), fun _ => .inl (by omega)⟩
                    | exact ⟨fun _ => ⟨by omega, y, hy, by simp only [ltL, passK, onePass]; omega⟩, fun h => by cases h⟩
                    | exact ⟨fun h => ⟨by omega, y, hy, by have := of_decide_eq_true h; simp only [ltL, passK, onePass]; omega⟩, fun h => .inr ⟨y, hy, by have := of_decide_eq_false h; simp only [ltL, passK, onePass]; omega⟩⟩
                    | exact ⟨fun h => (by cases h), fun _ => .inr ⟨y, hy, by simp only [ltL, passK, onePass]; omega⟩⟩
              · rintro b hst
                dsimp only at hst ⊢
                refine aw_cond rfl (fun hc => ?_) (fun hc => ?_)
                · obtain ⟨hk0, y, hyL, hlt2⟩ := hst.1 hc
                  have hz : (L.take k ++ z :: L.drop k)[k - 1]? = some y := (shift_get (by omega) hJ.1).trans hyL
                  have hz2 : (L.take k ++ z :: L.drop k)[k]? = some z := shift_at hJ.1
                  refine aw_skip ?_
                  refine hK19 _ ?_
                  refine aw_block ?_
                  refine aw_seq_k fun K21 hK21 => ?_
                  refine aw_region ?_
                  refine aops_n rfl (n_mv rfl (by constructor)) ?_
                  refine aops_n rfl (n_mv rfl (by constructor)) ?_
                  refine aops_n rfl (n_mv rfl (by constructor)) ?_
                  refine aops_n rfl (n_mv rfl (by constructor)) ?_
                  refine aops_n rfl (n_sub rfl rfl rfl (by omega)) ?_
                  try dsimp only [St.put]
                  refine aops_n rfl (n_indexAddr_own (k := (k - 1)) rfl rfl zG rfl (by first | exact rfl | omega) (by first | omega | (simp; omega))) ?_
                  try dsimp only [St.put]
                  refine aops_s rfl (s_load_own_row (α := PassD) (k := k - 1) (y := y) rfl rfl zG trivial rfl hz rfl (by decide)) ?_
                  try dsimp only [St.put]
                  refine aops_n rfl (n_indexAddr_own (k := k) rfl rfl zG rfl (by first | exact rfl | omega) (by first | omega | (simp; omega))) ?_
                  try dsimp only [St.put]
                  refine aops_e rfl (e_store_ownrow (k := k) (z := z) (z' := y) rfl rfl rfl zG rfl rfl hz2 rfl (by decide) ?_)
                  refine aops_nil ?_
                  dsimp only [St.put]
                  refine hK21 _ ?_
                  refine aw_region ?_
                  refine aops_n rfl (n_mv rfl (by constructor)) ?_
                  refine aops_n rfl (n_sub rfl rfl rfl (by omega)) ?_
                  refine aops_n rfl (n_as rfl (by constructor)) ?_
                  refine aops_nil ?_
                  dsimp only [St.put]
                  have hss := shift_step (z := z) (k := k - 1) (by omega) hyL
                  rw [show k - 1 + 1 = k by omega] at hss
                  rw [hss]
                  exact ⟨(k - 1, wk + 1, y), by (dsimp only; omega), ⟨by (dsimp only; omega), drop_more hJ.2 hyL (by omega) hlt2⟩, ⟨⟨rfl, rfl⟩, zF, zB, zN, zX⟩⟩
                · have hend := hst.2 hc
                  have hz2 : (L.take k ++ z :: L.drop k)[k]? = some z := shift_at hJ.1
                  refine aw_exit ?_
                  refine hK18 _ ?_
                  refine aw_region ?_
                  refine aops_n rfl (n_mv rfl (by constructor)) ?_
                  refine aops_n rfl (n_mv rfl (by constructor)) ?_
                  try dsimp only [St.put]
                  refine aops_s rfl (s_load_agg' rfl rfl rfl) ?_
                  try dsimp only [St.put]
                  refine aops_n rfl (n_indexAddr_own (k := k) rfl rfl zG rfl (by first | exact rfl | omega) (by first | omega | (simp; omega))) ?_
                  try dsimp only [St.put]
                  refine aops_e rfl (e_store_ownrow (k := k) (z := z) (z' := onePass r1 r2) rfl rfl rfl zG rfl rfl hz2 rfl (by decide) ?_)
                  refine aops_nil ?_
                  dsimp only [St.put]
                  rw [shift_set hJ.1]
                  refine hK12 _ ?_
                  refine aw_region ?_
                  refine aops_n rfl (n_mv rfl (by constructor)) ?_
                  refine aops_n rfl (n_add rfl rfl rfl (by omega)) ?_
                  refine aops_n rfl (n_as rfl (by constructor)) ?_
                  refine aops_nil ?_
                  dsimp only [St.put]
                  first
                    | exact ⟨(i + 1, wv, L), by (dsimp only; omega), ⟨by (dsimp only; omega), crossI_skip hI.2 hr1 hr2 (by first | exact .inl h96 | exact .inr hn2)⟩, ⟨⟨rfl, rfl⟩, zF, zB, zN, zX⟩⟩
                    | (rw [show L.length + 1 = (L.take k ++ onePass r1 r2 :: L.drop k).length by rw [shift_len hJ.1]]
                       exact ⟨(i + 1, wk + 1, L.take k ++ onePass r1 r2 :: L.drop k), by (dsimp only; omega), ⟨by (dsimp only; omega), crossI_put hSe hI.2 hr1 hr2 h96 hn2 hJ.1 hJ.2 hend⟩, ⟨⟨rfl, rfl⟩, zF, zB, zN, zX⟩⟩)
      · replace hc := of_decide_eq_false hc
        have hcr := crossI_end hSe hSf hI.2 (by omega)
        have hcl : crossL t e f = mergeQ L := by simp [crossL, h0, crossS_eq hcr]
        have hLl := hI.2.len
        have hLb := crossI_bd hok hokf hI.2
        refine aw_exit ?_
        refine hK8 _ ?_
        refine aw_seq_k fun K22 hK22 => ?_
        refine aw_region ?_
        refine aops_n rfl (n_as rfl (by constructor)) ?_
        refine aops_nil ?_
        dsimp only [St.put]
        refine hK22 _ ?_
        refine aw_adopt_own 15 145 5 rfl (by decide) ?_
        dsimp only
        refine aw_seq_k fun K23 hK23 => ?_
        refine aw_seq_k fun K24 hK24 => ?_
        refine aw_region ?_
        refine aops_n rfl (n_as rfl (by constructor)) ?_
        refine aops_nil ?_
        dsimp only [St.put]
        refine hK24 _ ?_
        refine aw_block ?_
        refine aw_wipe 20 ?_
        simp only [firsts, getA, Nat.reduceAdd, List.getD_cons_zero, List.getD_cons_succ, List.getD_nil, natBeq, Nat.reduceBEq, cond_true, cond_false]
        refine aw_forget ((setG (setG G nx (.arr L.length wv 145 5 L.length (flatC L))) (nx + 1) (.arr (([] : List PassD)).length 0 145 5 (([] : List PassD)).length (flatC (([] : List PassD)))))) zX ?_
        dsimp only
        refine aw_loopD (X := Nat × Nat) (fun x => x.1 ≤ L.length) (fun x => L.length - x.1) (fun x => [(15, .own (nx + 1) (mergeQ (L.take x.1)).length (mergeQ (L.take x.1)).length), (16, .v (.int .i64 (x.1 : Int))), (17, .any), (18, .any), (19, .any)]) (fun x G' => (setG (setG G nx (.arr L.length wv 145 5 L.length (flatC L))) (nx + 1) (.arr ((mergeQ (L.take x.1))).length x.2 145 5 ((mergeQ (L.take x.1))).length (flatC ((mergeQ (L.take x.1))))))) (0, 0) rfl ?_ ?_ ?_ ?_ ?_ ?_
        · exact Nat.zero_le _
        · exact zF
        · exact zX
        · rintro ⟨j, wm⟩ hI
          exact zL
        · rintro ⟨j, wm⟩ hI
          exact zH
        · rintro ⟨j, wm⟩ hK
          dsimp only at hK ⊢
          obtain ⟨out, hout⟩ : ∃ out, mergeQ (L.take j) = out := ⟨_, rfl⟩
          rw [hout]
          have hol : out.length ≤ 60 := by
            have := mergeQ_len (L.take j)
            rw [hout, List.length_take] at this
            omega
          have hob : ∀ s ∈ out, PBd ((L.take j).length + 1) s := hout ▸ mergeQ_bd fun r hr => hLb r (List.mem_of_mem_take hr)
          rw [List.length_take] at hob
          refine aw_seq_k fun K25 hK25 => ?_
          refine aw_seq_k fun K26 hK26 => ?_
          refine aw_region ?_
          refine aops_n rfl (n_mv rfl (by constructor)) ?_
          refine aops_n rfl (n_mv rfl (by constructor)) ?_
          refine aops_n rfl (n_len_own rfl rfl) ?_
          refine aops_n rfl (n_lss rfl rfl rfl) ?_
          refine aops_nil ?_
          dsimp only [St.put]
          refine hK26 _ ?_
          refine aw_cond rfl (fun hc => ?_) (fun hc => ?_)
          · replace hc := of_decide_eq_true hc
            obtain ⟨x, hx⟩ : ∃ x, L[j]? = some x := some_of_lt (by omega)
            obtain ⟨x1, x2, x3, x4, x5⟩ := hLb x (mem_of_get hx)
            refine aw_skip ?_
            refine hK25 _ ?_
            refine aw_seq_k fun K27 hK27 => ?_
            refine aw_block ?_
            refine aw_seq_k fun K28 hK28 => ?_
            refine aw_region ?_
            refine aops_n rfl (n_mv rfl (by constructor)) ?_
            refine aops_n rfl (n_mv rfl (by constructor)) ?_
            try dsimp only [St.put]
            refine aops_n rfl (n_indexAddr_own (k := j) rfl rfl zG rfl (by first | exact rfl | omega) (by first | omega | (simp; omega))) ?_
            try dsimp only [St.put]
            refine aops_s rfl (s_load_own_row (α := PassD) (k := j) (y := x) rfl rfl zG trivial rfl hx rfl (by decide)) ?_
            try dsimp only [St.put]
            refine aops_e rfl (e_allocC rfl ?_)
            try dsimp only [St.put]
            refine aops_e rfl (e_store_all rfl rfl rfl zG rfl rfl (by rfl) ?_)
            refine aops_nil ?_
            dsimp only [St.put]
            refine hK28 _ ?_
            refine aw_commitD (i := 17) rfl zG (by first | exact List.cons_ne_nil _ _ | (simp; done) | (simp [putAt]; done)) ?_
            dsimp only
            refine aw_seq_k fun K29 hK29 => ?_
            refine aw_seq_k fun K30 hK30 => ?_
            refine aw_region ?_
            refine aops_n rfl (n_mv rfl (by constructor)) ?_
            refine aops_n rfl (n_len_own rfl rfl) ?_
            refine aops_n rfl (n_as rfl (by constructor)) ?_
            refine aops_nil ?_
            dsimp only [St.put]
            refine hK30 _ ?_
            refine aw_seq_k fun K31 hK31 => ?_
            refine aw_region ?_
            refine aops_n rfl (n_mv rfl (by constructor)) ?_
            refine aops_n rfl (n_gtr rfl rfl rfl) ?_
            refine aops_nil ?_
            dsimp only [St.put]
            refine hK31 _ ?_
            refine aw_cond rfl (fun hc => ?_) (fun hc => ?_)
            · replace hc := of_decide_eq_true hc
              obtain ⟨s, hz⟩ : ∃ x, out[out.length - 1]? = some x := some_of_lt (by omega)
              obtain ⟨b1, b2, b3, b4, b5⟩ := hob s (mem_of_get hz)
              refine aw_seq_k fun K32 hK32 => ?_
              refine aw_region ?_
              refine aops_n rfl (n_mv rfl (by constructor)) ?_
              refine aops_n rfl (n_mv rfl (by constructor)) ?_
              refine aops_n rfl (n_sub rfl rfl rfl (by omega)) ?_
              try dsimp only [St.put]
              refine aops_n rfl (n_indexAddr_own (k := (out.length - 1)) rfl rfl zG rfl (by first | exact rfl | omega) (by first | omega | (simp; omega))) ?_
              refine aops_n rfl (n_as rfl (by constructor)) ?_
              refine aops_nil ?_
              dsimp only [St.put]
              refine hK32 _ ?_
              refine aw_wipe 20 ?_
              simp only [firsts, getA, Nat.reduceAdd, List.getD_cons_zero, List.getD_cons_succ, List.getD_nil, natBeq, Nat.reduceBEq, cond_true, cond_false]
              refine aw_cutD (X := Bool) (fun b => onP s x = b) (fun b => [(190, .v (.bool b))]) (fun b G' => G') rfl ?_ (fun _ _ _ _ h => .inl h) ?_ ?_
              · rintro b hI
                exact zL
              · refine aw_draw [(0, none), (1, none), (2, none), (3, none), (4, none), (5, none), (6, none), (7, none), (8, none), (9, none), (10, none), (11, none), (12, none), (13, none), (14, none), (15, none), (16, none), (17, none), (18, none), (19, none), (20, none), (21, none), (22, none), (23, none), (24, none), (25, none), (26, none), (27, none), (28, none), (29, none), (30, none), (31, none), (32, none), (33, none), (34, none), (35, none), (36, none), (37, none), (38, none), (39, none), (40, none), (41, none), (42, none), (43, none)] (fun i => [].contains i) (fun i => [].contains i) (fun i => [0, 1, 2, 4, 6, 7, 8, 9, 10, 12, 13, 14, 16, 17, 19, 20, 21, 22, 23, 24, 26, 28, 29, 30, 31, 32, 33, 35, 36, 37, 39, 40, 42, 43].contains i) [nx, nx + 1] (by kernel_rfl) (by kernel_rfl) ?_
                refine acan1_n rfl rfl rfl rfl (n_mv rfl (by constructor)) ?_
                refine acan1_n rfl rfl rfl rfl (n_nilCheck_box rfl rfl) ?_
                refine acan1_n rfl rfl rfl rfl (n_fieldAddr_box rfl rfl) ?_
                try dsimp only [St.put]
                refine acan1_s rfl rfl rfl rfl (s_load_own rfl rfl zG (by simp) (flatC_get (by assumption) rfl)) ?_
                refine acan1_n rfl rfl rfl rfl (n_fieldAddr' rfl rfl rfl) ?_
                try dsimp only [St.put]
                refine acan1_s rfl rfl rfl rfl (s_load rfl rfl) ?_
                refine acan1_n rfl rfl rfl rfl (n_eql rfl rfl rfl) ?_
                refine acan1_split (fun hs => ?_) (fun hs => ?_)
                · have q1 := of_decide_eq_true hs
                  refine acan1_n rfl rfl rfl rfl (n_mv rfl (by constructor)) ?_
                  refine acan1_n rfl rfl rfl rfl (n_mv rfl (by constructor)) ?_
                  refine acan1_n rfl rfl rfl rfl (n_nilCheck_box rfl rfl) ?_
                  refine acan1_n rfl rfl rfl rfl (n_fieldAddr_box rfl rfl) ?_
                  try dsimp only [St.put]
                  refine acan1_s rfl rfl rfl rfl (s_load_own rfl rfl zG (by simp) (flatC_get (by assumption) rfl)) ?_
                  refine acan1_n rfl rfl rfl rfl (n_mv rfl (by constructor)) ?_
                  refine acan1_n rfl rfl rfl rfl (n_nilCheck_box rfl rfl) ?_
                  refine acan1_n rfl rfl rfl rfl (n_fieldAddr_box rfl rfl) ?_
                  try dsimp only [St.put]
                  refine acan1_s rfl rfl rfl rfl (s_load_own rfl rfl zG (by simp) (flatC_get (by assumption) rfl)) ?_
                  refine acan1_n rfl rfl rfl rfl (n_add rfl rfl rfl (by omega)) ?_
                  refine acan1_n rfl rfl rfl rfl (n_fieldAddr' rfl rfl rfl) ?_
                  try dsimp only [St.put]
                  refine acan1_s rfl rfl rfl rfl (s_load rfl rfl) ?_
                  refine acan1_n rfl rfl rfl rfl (n_eql rfl rfl rfl) ?_
                  refine acan1_split (fun hs => ?_) (fun hs => ?_)
                  · have q2 := of_decide_eq_true hs
                    refine acan1_n rfl rfl rfl rfl (n_pt rfl rfl (by constructor)) ?_
                    refine acan1_n rfl rfl rfl rfl (n_mv rfl (by constructor)) ?_
                    refine acan1_n rfl rfl rfl rfl (n_mv rfl (by constructor)) ?_
                    refine acan1_n rfl rfl rfl rfl (n_nilCheck_box rfl rfl) ?_
                    refine acan1_n rfl rfl rfl rfl (n_fieldAddr_box rfl rfl) ?_
                    try dsimp only [St.put]
                    refine acan1_s rfl rfl rfl rfl (s_load_own rfl rfl zG (by simp) (flatC_get (by assumption) rfl)) ?_
                    refine acan1_n rfl rfl rfl rfl (n_fieldAddr' rfl rfl rfl) ?_
                    try dsimp only [St.put]
                    refine acan1_s rfl rfl rfl rfl (s_load rfl rfl) ?_
                    refine acan1_n rfl rfl rfl rfl (n_eql rfl rfl rfl) ?_
                    refine acan1_split (fun hs => ?_) (fun hs => ?_)
                    · have q3 := of_decide_eq_true hs
                      refine acan1_n rfl rfl rfl rfl (n_pt rfl rfl (by constructor)) ?_
                      refine acan1_n rfl rfl rfl rfl (n_mv rfl (by constructor)) ?_
                      refine acan1_n rfl rfl rfl rfl (n_mv rfl (by constructor)) ?_
                      refine acan1_n rfl rfl rfl rfl (n_nilCheck_box rfl rfl) ?_
                      refine acan1_n rfl rfl rfl rfl (n_fieldAddr_box rfl rfl) ?_
                      try dsimp only [St.put]
                      refine acan1_s rfl rfl rfl rfl (s_load_own rfl rfl zG (by simp) (flatC_get (by assumption) rfl)) ?_
                      refine acan1_n rfl rfl rfl rfl (n_mv rfl (by constructor)) ?_
                      refine acan1_n rfl rfl rfl rfl (n_nilCheck_box rfl rfl) ?_
                      refine acan1_n rfl rfl rfl rfl (n_fieldAddr_box rfl rfl) ?_
                      try dsimp only [St.put]
                      refine acan1_s rfl rfl rfl rfl (s_load_own rfl rfl zG (by simp) (flatC_get (by assumption) rfl)) ?_
                      refine acan1_n rfl rfl rfl rfl (n_add rfl rfl rfl (by omega)) ?_
                      refine acan1_n rfl rfl rfl rfl (n_fieldAddr' rfl rfl rfl) ?_
                      try dsimp only [St.put]
                      refine acan1_s rfl rfl rfl rfl (s_load rfl rfl) ?_
                      refine acan1_n rfl rfl rfl rfl (n_eql rfl rfl rfl) ?_
                      refine acan1_n rfl rfl rfl rfl (n_pt rfl rfl (by constructor)) ?_
                      refine acan1_nil ?_
                      dsimp only [St.put]
                      refine ⟨_, ?_, ⟨⟨rfl, rfl⟩, zF, zB, zN, zX⟩⟩
                      (simp [onP, q1, q2, q3]; done)
                    · have q3 := of_decide_eq_false hs
                      refine acan1_n rfl rfl rfl rfl (n_pt rfl rfl (by constructor)) ?_
                      refine acan1_n rfl rfl rfl rfl (n_mv rfl (by constructor)) ?_
                      refine acan1_skip rfl rfl rfl ?_
                      refine acan1_skip rfl rfl rfl ?_
                      refine acan1_skip rfl rfl rfl ?_
                      refine acan1_skip rfl rfl rfl ?_
                      refine acan1_skip rfl rfl rfl ?_
                      refine acan1_skip rfl rfl rfl ?_
                      refine acan1_skip rfl rfl rfl ?_
                      refine acan1_skip rfl rfl rfl ?_
                      refine acan1_skip rfl rfl rfl ?_
                      refine acan1_skip rfl rfl rfl ?_
                      refine acan1_skip rfl rfl rfl ?_
                      refine acan1_skip rfl rfl rfl ?_
                      refine acan1_n rfl rfl rfl rfl (n_pf rfl rfl (by constructor)) ?_
                      refine acan1_nil ?_
                      dsimp only [St.put]
                      refine ⟨_, ?_, ⟨⟨rfl, rfl⟩, zF, zB, zN, zX⟩⟩
                      (simp [onP, q1, q2, q3]; done)
                  · have q2 := of_decide_eq_false hs
                    refine acan1_n rfl rfl rfl rfl (n_pt rfl rfl (by constructor)) ?_
                    refine acan1_n rfl rfl rfl rfl (n_mv rfl (by constructor)) ?_
                    refine acan1_skip rfl rfl rfl ?_
                    refine acan1_skip rfl rfl rfl ?_
                    refine acan1_skip rfl rfl rfl ?_
                    refine acan1_skip rfl rfl rfl ?_
                    refine acan1_skip rfl rfl rfl ?_
                    refine acan1_skip rfl rfl rfl ?_
                    refine acan1_skip rfl rfl rfl ?_
                    refine acan1_n rfl rfl rfl rfl (n_pf rfl rfl (by constructor)) ?_
                    refine acan1_n rfl rfl rfl rfl (n_mv rfl (by constructor)) ?_
                    refine acan1_skip rfl rfl rfl ?_
                    refine acan1_skip rfl rfl rfl ?_
                    refine acan1_skip rfl rfl rfl ?_
                    refine acan1_skip rfl rfl rfl ?_
                    refine acan1_skip rfl rfl rfl ?_
                    refine acan1_skip rfl rfl rfl ?_
                    refine acan1_skip rfl rfl rfl ?_
                    refine acan1_skip rfl rfl rfl ?_
                    refine acan1_skip rfl rfl rfl ?_
                    refine acan1_skip rfl rfl rfl ?_
                    refine acan1_skip rfl rfl rfl ?_
                    refine acan1_skip rfl rfl rfl ?_
                    refine acan1_n rfl rfl rfl rfl (n_pf rfl rfl (by constructor)) ?_
                    refine acan1_nil ?_
                    dsimp only [St.put]
                    refine ⟨_, ?_, ⟨⟨rfl, rfl⟩, zF, zB, zN, zX⟩⟩
                    (simp [onP, q1, q2]; done)
                · have q1 := of_decide_eq_false hs
                  refine acan1_n rfl rfl rfl rfl (n_mv rfl (by constructor)) ?_
                  refine acan1_skip rfl rfl rfl ?_
                  refine acan1_skip rfl rfl rfl ?_
                  refine acan1_skip rfl rfl rfl ?_
                  refine acan1_skip rfl rfl rfl ?_
                  refine acan1_skip rfl rfl rfl ?_
                  refine acan1_skip rfl rfl rfl ?_
                  refine acan1_skip rfl rfl rfl ?_
                  refine acan1_skip rfl rfl rfl ?_
                  refine acan1_skip rfl rfl rfl ?_
                  refine acan1_skip rfl rfl rfl ?_
                  refine acan1_skip rfl rfl rfl ?_
                  refine acan1_skip rfl rfl rfl ?_
                  refine acan1_n rfl rfl rfl rfl (n_pf rfl rfl (by constructor)) ?_
                  refine acan1_n rfl rfl rfl rfl (n_mv rfl (by constructor)) ?_
                  refine acan1_skip rfl rfl rfl ?_
                  refine acan1_skip rfl rfl rfl ?_
                  refine acan1_skip rfl rfl rfl ?_
                  refine acan1_skip rfl rfl rfl ?_
                  refine acan1_skip rfl rfl rfl ?_
                  refine acan1_skip rfl rfl rfl ?_
                  refine acan1_skip rfl rfl rfl ?_
                  refine acan1_n rfl rfl rfl rfl (n_pf rfl rfl (by constructor)) ?_
                  refine acan1_n rfl rfl rfl rfl (n_mv rfl (by constructor)) ?_
                  refine acan1_skip rfl rfl rfl ?_
                  refine acan1_skip rfl rfl rfl ?_
                  refine acan1_skip rfl rfl rfl ?_
                  refine acan1_skip rfl rfl rfl ?_
                  refine acan1_skip rfl rfl rfl ?_
                  refine acan1_skip rfl rfl rfl ?_
                  refine acan1_skip rfl rfl rfl ?_
                  refine acan1_skip rfl rfl rfl ?_
                  refine acan1_skip rfl rfl rfl ?_
                  refine acan1_skip rfl rfl rfl ?_
                  refine acan1_skip rfl rfl rfl ?_
                  refine acan1_skip rfl rfl rfl ?_
                  refine acan1_n rfl rfl rfl rfl (n_pf rfl rfl (by constructor)) ?_
                  refine acan1_nil ?_
                  dsimp only [St.put]
                  refine ⟨_, ?_, ⟨⟨rfl, rfl⟩, zF, zB, zN, zX⟩⟩
                  (simp [onP, q1]; done)
              · rintro b hst
                dsimp only at hst ⊢
                refine aw_cond rfl (fun hc => ?_) (fun hc => ?_)
                · have ho := stepQ_on hz (hst.trans hc)
                  refine aw_seq_k fun K34 hK34 => ?_
                  refine aw_region ?_
                  refine aops_n rfl (n_mv rfl (by constructor)) ?_
                  refine aops_n rfl (n_nilCheck_box rfl rfl) ?_
                  refine aops_n rfl (n_fieldAddr_box rfl rfl) ?_
                  try dsimp only [St.put]
                  refine aops_s rfl (s_load_own rfl rfl zG trivial (flatC_get (by assumption) rfl)) ?_
                  refine aops_n rfl (n_add rfl rfl rfl (by omega)) ?_
                  refine aops_n rfl (n_nilCheck_box rfl rfl) ?_
                  refine aops_n rfl (n_fieldAddr_box rfl rfl) ?_
                  try dsimp only [St.put]
                  refine aops_e rfl (e_store_own1 (k := out.length - 1) (j := 4) (z := s) (z' := { s with n := s.n + 1 }) rfl rfl rfl zG rfl rfl hz rfl (by decide) rfl ?_)
                  refine aops_nil ?_
                  dsimp only [St.put]
                  refine hK34 _ ?_
                  refine aw_exit ?_
                  refine hK27 _ ?_
                  refine aw_region ?_
                  refine aops_n rfl (n_mv rfl (by constructor)) ?_
                  refine aops_n rfl (n_add rfl rfl rfl (by omega)) ?_
                  refine aops_n rfl (n_as rfl (by constructor)) ?_
                  refine aops_nil ?_
                  dsimp only [St.put]
                  have e2 := mergeQ_succ hx
                  rw [hout] at e2
                  first
                  | (rw [hm] at e2
                     have e3 : out.length + 1 = (mergeQ (L.take (j + 1))).length := by rw [e2]; simp
                     rw [← e2, e3]
                     exact ⟨(j + 1, wm), by (dsimp only; omega), by (dsimp only; omega), ⟨⟨rfl, rfl⟩, zF, zB, zN, zX⟩⟩)
                  | (rw [ho] at e2
                     have e3 : out.length = (mergeQ (L.take (j + 1))).length := by rw [e2]; simp
                     rw [← e2, e3]
                     exact ⟨(j + 1, wm + 1), by (dsimp only; omega), by (dsimp only; omega), ⟨⟨rfl, rfl⟩, zF, zB, zN, zX⟩⟩)
                · have hm := stepQ_new hz (hst.trans hc)
                  refine aw_skip ?_
                  refine hK29 _ ?_
                  refine aw_region ?_
                  refine aops_n rfl (n_mv rfl (by constructor)) ?_
                  try dsimp only [St.put]
                  refine aops_s rfl (s_load_agg' rfl rfl (Enc.len _)) ?_
                  try dsimp only [St.put]
                  refine aops_e rfl (e_buildSlice rfl rfl rfl (by decide) (by decide) zR (by decide) ?_)
                  try dsimp only [St.put]
                  refine aops_e rfl (e_append_own x rfl rfl zG rfl rfl rfl rfl zA ?_ zA)
                  refine aops_n rfl (n_as rfl (by constructor)) ?_
                  refine aops_nil ?_
                  dsimp only [St.put]
                  refine hK27 _ ?_
                  refine aw_region ?_
                  refine aops_n rfl (n_mv rfl (by constructor)) ?_
                  refine aops_n rfl (n_add rfl rfl rfl (by omega)) ?_
                  refine aops_n rfl (n_as rfl (by constructor)) ?_
                  refine aops_nil ?_
                  dsimp only [St.put]
                  have e2 := mergeQ_succ hx
                  rw [hout] at e2
                  first
                  | (rw [hm] at e2
                     have e3 : out.length + 1 = (mergeQ (L.take (j + 1))).length := by rw [e2]; simp
                     rw [← e2, e3]
                     exact ⟨(j + 1, wm), by (dsimp only; omega), by (dsimp only; omega), ⟨⟨rfl, rfl⟩, zF, zB, zN, zX⟩⟩)
                  | (rw [ho] at e2
                     have e3 : out.length = (mergeQ (L.take (j + 1))).length := by rw [e2]; simp
                     rw [← e2, e3]
                     exact ⟨(j + 1, wm + 1), by (dsimp only; omega), by (dsimp only; omega), ⟨⟨rfl, rfl⟩, zF, zB, zN, zX⟩⟩)
            · replace hc := of_decide_eq_false hc
              have hm : stepQ out x = out ++ [x] := stepQ_nil (List.eq_nil_of_length_eq_zero (by omega))
              refine aw_skip ?_
              refine hK29 _ ?_
              refine aw_region ?_
              refine aops_n rfl (n_mv rfl (by constructor)) ?_
              try dsimp only [St.put]
              refine aops_s rfl (s_load_agg' rfl rfl (Enc.len _)) ?_
              try dsimp only [St.put]
              refine aops_e rfl (e_buildSlice rfl rfl rfl (by decide) (by decide) zR (by decide) ?_)
              try dsimp only [St.put]
              refine aops_e rfl (e_append_own x rfl rfl zG rfl rfl rfl rfl zA ?_ zA)
              refine aops_n rfl (n_as rfl (by constructor)) ?_
              refine aops_nil ?_
              dsimp only [St.put]
              refine hK27 _ ?_
              refine aw_region ?_
              refine aops_n rfl (n_mv rfl (by constructor)) ?_
              refine aops_n rfl (n_add rfl rfl rfl (by omega)) ?_
              refine aops_n rfl (n_as rfl (by constructor)) ?_
              refine aops_nil ?_
              dsimp only [St.put]
              have e2 := mergeQ_succ hx
              rw [hout] at e2
              first
              | (rw [hm] at e2
                 have e3 : out.length + 1 = (mergeQ (L.take (j + 1))).length := by rw [e2]; simp
                 rw [← e2, e3]
                 exact ⟨(j + 1, wm), by (dsimp only; omega), by (dsimp only; omega), ⟨⟨rfl, rfl⟩, zF, zB, zN, zX⟩⟩)
              | (rw [ho] at e2
                 have e3 : out.length = (mergeQ (L.take (j + 1))).length := by rw [e2]; simp
                 rw [← e2, e3]
                 exact ⟨(j + 1, wm + 1), by (dsimp only; omega), by (dsimp only; omega), ⟨⟨rfl, rfl⟩, zF, zB, zN, zX⟩⟩)
          · replace hc := of_decide_eq_false hc
            refine aw_exit ?_
            refine hK23 _ ?_
            refine aw_seq_k fun K35 hK35 => ?_
            refine aw_region ?_
            refine aops_n rfl (n_mv rfl (by constructor)) ?_
            refine aops_n rfl (n_as rfl (by constructor)) ?_
            refine aops_n rfl (n_as rfl (by constructor)) ?_
            refine aops_nil ?_
            dsimp only [St.put]
            have hf : out = mergeQ L := by rw [← hout, take_all (show L.length ≤ j by omega)]
            subst hf
            refine hK35 _ ?_
            refine aw_commit_own 6 (mergeQ L) rfl zG rfl rfl rfl ?_
            dsimp only
            refine aw_ret ?_
            refine ends_2 rfl (by constructor) (by constructor) zN zS ?_ ?_
            · rw [hcl]
              rfl
            · exact vi h0.symm
end Go.Proofs.YtjjklfgpffgnfaaDoor
