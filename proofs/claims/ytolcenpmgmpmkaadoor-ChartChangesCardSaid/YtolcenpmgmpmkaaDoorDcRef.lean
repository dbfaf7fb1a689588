/-
  Contracts of the reference's functions of charts: the last line of a chapter; editions whose chapters are split and joined.
-/
import Derived.Test.YtolcenpmgmpmkaaDoorDaPlain
namespace Go.AB
open Go Go.RowKit
open Go.AB.Enc (cells)
open Go.PB (Chap TextD PlaceD ReadingD CopyD WayD)
theorem inAll_three {lo hi n m k : Int} : inAll lo hi [n, m, k] = (inB n lo hi && (inB m lo hi && inB k lo hi)) := by rw [← outB_inB, ← outB_inB, ← outB_inB]; simp [inAll]
theorem mv_get {α : Type} {f : α → α} {R : List α} {k : Nat} {z : α} (h : R[k]? = some z) : ((R.take k).map f ++ R.drop k)[k]? = some z := by
  have hk := (List.getElem?_eq_some_iff.1 h).1
  have hl : ((R.take k).map f).length = k := by rw [List.length_map, List.length_take]; omega
  rw [List.getElem?_append_right (by omega), hl, Nat.sub_self, List.getElem?_drop]
  exact h
theorem mv_step {α : Type} {f : α → α} {R : List α} {k : Nat} {z : α} (h : R[k]? = some z) : ((R.take k).map f ++ R.drop k).set k (f z) = (R.take (k + 1)).map f ++ R.drop (k + 1) := by
  have hk := (List.getElem?_eq_some_iff.1 h).1
  have hl : ((R.take k).map f).length = k := by rw [List.length_map, List.length_take]; omega
  rw [List.set_append_right _ _ (by omega), hl, Nat.sub_self]
  have hd : R.drop k = z :: R.drop (k + 1) := by
    rw [List.drop_eq_getElem_cons hk]
    congr 1
    rw [List.getElem?_eq_getElem hk] at h
    exact Option.some.inj h
  rw [hd, List.take_add_one, h]
  simp
theorem mv_same {α : Type} {f : α → α} {R : List α} {k : Nat} {z : α} (h : R[k]? = some z) (hf : f z = z) : (R.take k).map f ++ R.drop k = (R.take (k + 1)).map f ++ R.drop (k + 1) := by
  rw [← mv_step h, hf]
  have h1 := mv_get (f := f) h
  apply List.ext_getElem?
  intro i
  rw [List.getElem?_set]
  split
  · rename_i e
    subst e
    rw [h1]
    split
    · rfl
    · rename_i hn; exact absurd (List.getElem?_eq_some_iff.1 h1).1 hn
  · rfl
theorem mv_end {α : Type} {f : α → α} {R : List α} {k : Nat} (h : R.length ≤ k) : (R.take k).map f ++ R.drop k = R.map f := by
  rw [List.take_of_length_le h, List.drop_of_length_le h, List.append_nil]
theorem mv_len {α : Type} (f : α → α) (R : List α) (k : Nat) : ((R.take k).map f ++ R.drop k).length = R.length := by
  rw [List.length_append, List.length_map, ← List.length_append, List.take_append_drop]
theorem move_bd {t : TextD} (ht : textB t = true) {ss : List StretchD} (he : ∀ s ∈ ss, SOk s) {c l to mo : Int} (h1 : 1 ≤ to ∧ to ≤ 999) (hm : -2000 ≤ mo ∧ mo ≤ 2000) : ∀ r ∈ (rowsT t ss).map (moveR c l to mo), RBd r := by
  intro r hr
  obtain ⟨r', hr', rfl⟩ := List.mem_map.1 hr
  have hb := rowsT_bd ht he r' hr'
  obtain ⟨q1, q2⟩ := rows_spec hr'
  have hn : 0 ≤ r'.nu ∧ r'.nu ≤ 999 := by
    cases hv : asOf ss (r'.ch, r'.ln) with
    | none => rw [hv] at q2; simp only [Option.getD_none] at q2; omega
    | some v =>
      have := asOf_pos he hv
      rw [hv] at q2
      simp only [Option.getD_some] at q2
      omega
  unfold moveR
  cases decide (r'.au = c) && decide (l ≤ r'.nu)
  · exact hb
  · exact ⟨hb.ch, hb.ln, by show -100000 ≤ to ∧ to ≤ 100000; omega, by show -100000 ≤ r'.nu + mo ∧ r'.nu + mo ≤ 100000; omega⟩
end Go.AB
namespace Go.Proofs.YtolcenpmgmpmkaaDoor
set_option maxRecDepth 10000
open Go.RowKit Go.AB
open Go.AB.Enc (cells)
open Go.PB (Chap TextD PlaceD ReadingD CopyD WayD)
/-- rows, as the call that asks for them owns them -/
theorem rows_own (t : TextD) (e : EditionD) (ht : textB t = true) (hl : e.ss.length ≤ 12) (he : ∀ s ∈ e.ss, SOk s) (G : Nat → Option GObj) (nx : Nat) : PC Tryd.prog 75 [textC t, val e] G nx fun r' G' nx' => r' = .own nx (rowsT t e.ss).length (rowsT t e.ss).length ∧ G' = (setG G nx (.arr ((rowsT t e.ss)).length 0 159 5 ((rowsT t e.ss)).length (flatC ((rowsT t e.ss))))) ∧ nx' = nx + 1 := by
  refine pc_named_of_body ((setG G nx (.arr ((rowsT t e.ss)).length 0 159 5 ((rowsT t e.ss)).length (flatC ((rowsT t e.ss)))))) (nx + 1) Tryd.func75 rfl (.own (Nat.lt_succ_self _)) zN (fun hlt => zH) ?_
  simp only [Tryd.ntmps75, List.length_cons, List.length_nil, Nat.reduceAdd, Nat.reduceSub]
  refine aw_lt fun hlt => ?_
  dsimp only at hlt
  obtain ⟨hl1, hl2, hl3⟩ := text_ok ht
  have hall := rowsT_len ht e.ss
  refine aw_seq_k fun K1 hK1 => ?_
  refine aw_region ?_
  try dsimp only [St.put]
  refine aops_e rfl (e_box rfl rfl (by simp) ?_)
  try dsimp only [St.put]
  refine aops_e rfl (e_box rfl rfl (by simp) ?_)
  refine aops_n rfl (n_as rfl (by constructor)) ?_
  refine aops_nil ?_
  dsimp only [St.put]
  refine hK1 _ ?_
  refine aw_seq_k fun K2 hK2 => ?_
  refine aw_region ?_
  refine aops_n rfl (n_as rfl (by constructor)) ?_
  refine aops_nil ?_
  dsimp only [St.put]
  refine hK2 _ ?_
  refine aw_adopt_own 5 159 5 rfl (by decide) ?_
  dsimp only
  refine aw_seq_k fun K3 hK3 => ?_
  refine aw_seq_k fun K4 hK4 => ?_
  refine aw_region ?_
  refine aops_n rfl (n_as rfl (by constructor)) ?_
  refine aops_nil ?_
  dsimp only [St.put]
  refine hK4 _ ?_
  refine aw_block ?_
  refine aw_wipe 11 ?_
  simp only [firsts, getA, Nat.reduceAdd, List.getD_cons_zero, List.getD_cons_succ, List.getD_nil, natBeq, Nat.reduceBEq, cond_true, cond_false]
  refine aw_forget ((setG G nx (.arr (([] : List RowD)).length 0 159 5 (([] : List RowD)).length (flatC (([] : List RowD)))))) zX ?_
  dsimp only
  refine aw_loopD (X := Nat) (fun k => k ≤ t.length) (fun k => t.length - k) (fun k => [(5, .own nx (rowsT (t.take k) e.ss).length (rowsT (t.take k) e.ss).length), (6, .v (.int .i64 (k : Int))), (7, .any), (8, .any), (9, .any), (10, .any)]) (fun k G' => (setG G nx (.arr ((rowsT (t.take k) e.ss)).length 0 159 5 ((rowsT (t.take k) e.ss)).length (flatC ((rowsT (t.take k) e.ss)))))) 0 rfl ?_ ?_ ?_ ?_ ?_ ?_
  · exact Nat.zero_le _
  · exact zF
  · exact zX
  · rintro k hI
    exact zL
  · rintro k hI
    exact zH
  · rintro k hI
    dsimp only at hI ⊢
    refine aw_seq_k fun K5 hK5 => ?_
    refine aw_seq_k fun K6 hK6 => ?_
    refine aw_region ?_
    refine aops_n rfl (n_mv rfl (by constructor)) ?_
    refine aops_n rfl (n_fieldAddr' rfl rfl rfl) ?_
    try dsimp only [St.put]
    refine aops_s rfl (s_load rfl rfl) ?_
    refine aops_n rfl (n_len' rfl rfl (List.length_map _)) ?_
    refine aops_n rfl (n_lss rfl rfl rfl) ?_
    refine aops_nil ?_
    dsimp only [St.put]
    refine hK6 _ ?_
    refine aw_cond rfl (fun hc => ?_) (fun hc => ?_)
    · replace hc := of_decide_eq_true hc
      obtain ⟨c, hk⟩ : ∃ x, t[k]? = some x := some_of_lt (by omega)
      have hcl := hl3 c (mem_of_get hk)
      refine aw_skip ?_
      refine hK5 _ ?_
      refine aw_seq_k fun K7 hK7 => ?_
      refine aw_block ?_
      refine aw_seq_k fun K8 hK8 => ?_
      refine aw_region ?_
      refine aops_n rfl (n_as rfl (by constructor)) ?_
      refine aops_nil ?_
      dsimp only [St.put]
      rw [show rowsT (t.take k) e.ss = rowsT (t.take k) e.ss ++ rowL e.ss k (c.lines.take 0) from (List.append_nil _).symm]
      refine hK8 _ ?_
      refine aw_block ?_
      refine aw_wipe 11 ?_
      simp only [firsts, getA, Nat.reduceAdd, List.getD_cons_zero, List.getD_cons_succ, List.getD_nil, natBeq, Nat.reduceBEq, cond_true, cond_false]
      refine aw_forget ((setG G nx (.arr ((rowsT (t.take k) e.ss ++ rowL e.ss k (c.lines.take 0))).length 0 159 5 ((rowsT (t.take k) e.ss ++ rowL e.ss k (c.lines.take 0))).length (flatC ((rowsT (t.take k) e.ss ++ rowL e.ss k (c.lines.take 0))))))) zX ?_
      dsimp only
      refine aw_loopD (X := Nat) (fun n => n ≤ c.lines.length) (fun n => c.lines.length - n) (fun n => [(5, .own nx (rowsT (t.take k) e.ss ++ rowL e.ss k (c.lines.take n)).length (rowsT (t.take k) e.ss ++ rowL e.ss k (c.lines.take n)).length), (7, .v (.int .i64 (n : Int))), (8, .any), (9, .any), (10, .any)]) (fun n G' => (setG G nx (.arr ((rowsT (t.take k) e.ss ++ rowL e.ss k (c.lines.take n))).length 0 159 5 ((rowsT (t.take k) e.ss ++ rowL e.ss k (c.lines.take n))).length (flatC ((rowsT (t.take k) e.ss ++ rowL e.ss k (c.lines.take n))))))) 0 rfl ?_ ?_ ?_ ?_ ?_ ?_
      · exact Nat.zero_le _
      · exact zF
      · exact zX
      · rintro n hI
        exact zL
      · rintro n hI
        exact zH
      · rintro n hJ
        dsimp only at hJ ⊢
        refine aw_seq_k fun K9 hK9 => ?_
        refine aw_seq_k fun K10 hK10 => ?_
        refine aw_region ?_
        refine aops_n rfl (n_mv rfl (by constructor)) ?_
        refine aops_n rfl (n_fieldAddr' rfl rfl rfl) ?_
        try dsimp only [St.put]
        refine aops_s rfl (s_load rfl rfl) ?_
        refine aops_n rfl (n_mv rfl (by constructor)) ?_
        try dsimp only [St.put]
        refine aops_n rfl (n_indexAddr rfl rfl rfl rfl (map_get (by assumption)) (Enc.len _)) ?_
        refine aops_n rfl (n_fieldAddr' rfl rfl rfl) ?_
        try dsimp only [St.put]
        refine aops_s rfl (s_load rfl rfl) ?_
        refine aops_n rfl (n_len' rfl rfl (List.length_map _)) ?_
        refine aops_n rfl (n_lss rfl rfl rfl) ?_
        refine aops_nil ?_
        dsimp only [St.put]
        refine hK10 _ ?_
        refine aw_cond rfl (fun hc => ?_) (fun hc => ?_)
        · replace hc := of_decide_eq_true hc
          obtain ⟨l, hn⟩ : ∃ x, c.lines[n]? = some x := some_of_lt (by omega)
          have hll := hcl.2.2 l (mem_of_get hn)
          have hr1 := hall k
          have hr2 : (rowL e.ss k (c.lines.take n)).length ≤ n := by rw [rowL_len, List.length_take]; omega
          refine aw_skip ?_
          refine hK9 _ ?_
          refine aw_seq_k fun K11 hK11 => ?_
          refine aw_block ?_
          refine aw_seq_k fun K12 hK12 => ?_
          refine aw_region ?_
          refine aops_n rfl (n_mv rfl (by constructor)) ?_
          refine aops_n rfl (n_mv rfl (by constructor)) ?_
          refine aops_n rfl (n_fieldAddr' rfl rfl rfl) ?_
          try dsimp only [St.put]
          refine aops_s rfl (s_load rfl rfl) ?_
          refine aops_n rfl (n_mv rfl (by constructor)) ?_
          try dsimp only [St.put]
          refine aops_n rfl (n_indexAddr rfl rfl rfl rfl (map_get (by assumption)) (Enc.len _)) ?_
          refine aops_n rfl (n_fieldAddr' rfl rfl rfl) ?_
          try dsimp only [St.put]
          refine aops_s rfl (s_load rfl rfl) ?_
          refine aops_n rfl (n_mv rfl (by constructor)) ?_
          try dsimp only [St.put]
          refine aops_n rfl (n_indexAddr rfl rfl rfl rfl (map_get (by assumption)) (Enc.len _)) ?_
          try dsimp only [St.put]
          refine aops_s rfl (s_load rfl rfl) ?_
          refine aops_n rfl (n_len' rfl rfl (List.length_map _)) ?_
          refine aops_n rfl (n_build rfl rfl) ?_
          try dsimp only [St.put]
          refine aops_e rfl (e_allocC rfl ?_)
          try dsimp only [St.put]
          refine aops_e rfl (e_store_all rfl rfl rfl zG rfl rfl (by rfl) ?_)
          refine aops_nil ?_
          dsimp only [St.put]
          refine hK12 _ ?_
          refine aw_seq_k fun K13 hK13 => ?_
          refine aw_seq_k fun K14 hK14 => ?_
          refine aw_region ?_
          refine aops_n rfl (n_as rfl (by constructor)) ?_
          refine aops_nil ?_
          dsimp only [St.put]
          refine hK14 _ ?_
          refine aw_block ?_
          refine aw_wipe 11 ?_
          simp only [firsts, getA, Nat.reduceAdd, List.getD_cons_zero, List.getD_cons_succ, List.getD_nil, natBeq, Nat.reduceBEq, cond_true, cond_false]
          refine aw_forget (setG (setG G nx (.arr ((rowsT (t.take k) e.ss ++ rowL e.ss k (c.lines.take n))).length 0 159 5 ((rowsT (t.take k) e.ss ++ rowL e.ss k (c.lines.take n))).length (flatC ((rowsT (t.take k) e.ss ++ rowL e.ss k (c.lines.take n)))))) (nx + 1) (.box 1 [.v (.int .i64 (k : Int)), .v (.int .i64 (n : Int)), .v (.int .i64 0), .v (.int .i64 0), .v (.int .i64 (l.length : Int))])) zX ?_
          dsimp only
          refine aw_loopD (X := Nat × Nat × Int × Int) (fun x => x.1 ≤ e.ss.length ∧ rowI e.ss ((k : Int), (n : Int)) x.1 x.2.2.1 x.2.2.2) (fun x => e.ss.length - x.1) (fun x => [(9, .v (.int .i64 (x.1 : Int))), (10, .any)]) (fun x G' => setG (setG G nx (.arr ((rowsT (t.take k) e.ss ++ rowL e.ss k (c.lines.take n))).length 0 159 5 ((rowsT (t.take k) e.ss ++ rowL e.ss k (c.lines.take n))).length (flatC ((rowsT (t.take k) e.ss ++ rowL e.ss k (c.lines.take n)))))) (nx + 1) (.box x.2.1 [.v (.int .i64 (k : Int)), .v (.int .i64 (n : Int)), .v (.int .i64 x.2.2.1), .v (.int .i64 x.2.2.2), .v (.int .i64 (l.length : Int))])) (0, 1, 0, 0) rfl ?_ ?_ ?_ ?_ ?_ ?_
          · exact ⟨Nat.zero_le _, rowI_start _ _⟩
          · exact zF
          · exact zX
          · rintro ⟨i, v, au, nu⟩ hI
            exact zL
          · rintro ⟨i, v, au, nu⟩ hI
            exact zH
          · rintro ⟨i, v, au, nu⟩ hK
            dsimp only at hK ⊢
            refine aw_seq_k fun K15 hK15 => ?_
            refine aw_seq_k fun K16 hK16 => ?_
            refine aw_region ?_
            refine aops_n rfl (n_mv rfl (by constructor)) ?_
            refine aops_n rfl (n_fieldAddr' rfl rfl rfl) ?_
            try dsimp only [St.put]
            refine aops_s rfl (s_load rfl rfl) ?_
            refine aops_n rfl (n_len' rfl rfl (List.length_map _)) ?_
            refine aops_n rfl (n_lss rfl rfl rfl) ?_
            refine aops_nil ?_
            dsimp only [St.put]
            refine hK16 _ ?_
            refine aw_cond rfl (fun hc => ?_) (fun hc => ?_)
            · replace hc := of_decide_eq_true hc
              obtain ⟨s, hs⟩ : ∃ x, e.ss[i]? = some x := some_of_lt (by omega)
              have hso := he s (mem_of_get hs)
              obtain ⟨o1, o2, o3, o4, o5, o6⟩ := hso
              refine aw_skip ?_
              refine hK15 _ ?_
              refine aw_seq_k fun K17 hK17 => ?_
              refine aw_block ?_
              refine aw_seq_k fun K18 hK18 => ?_
              refine aw_region ?_
              refine aops_n rfl (n_fieldAddr' rfl rfl rfl) ?_
              try dsimp only [St.put]
              refine aops_s rfl (s_load rfl rfl) ?_
              refine aops_n rfl (n_mv rfl (by constructor)) ?_
              try dsimp only [St.put]
              refine aops_n rfl (n_indexAddr rfl rfl rfl rfl (map_get (by assumption)) (Enc.len _)) ?_
              try dsimp only [St.put]
              refine aops_s rfl (s_load_agg' rfl rfl (Enc.len _)) ?_
              try dsimp only [St.put]
              refine aops_e rfl (e_allocC rfl ?_)
              try dsimp only [St.put]
              refine aops_e rfl (e_store_all rfl rfl rfl zG rfl rfl (by rfl) ?_)
              refine aops_nil ?_
              dsimp only [St.put]
              refine hK18 _ ?_
              refine aw_commitD (i := 10) rfl zG (by first | exact List.cons_ne_nil _ _ | (simp; done) | (simp [putAt]; done)) ?_
              dsimp only
              refine aw_wipe 11 ?_
              simp only [firsts, getA, Nat.reduceAdd, List.getD_cons_zero, List.getD_cons_succ, List.getD_nil, natBeq, Nat.reduceBEq, cond_true, cond_false]
              refine aw_cutD (X := Bool) (fun b => (decide (au = 0) && hasB s ((k : Int), (n : Int))) = b) (fun b => [(71, .v (.bool b))]) (fun b G' => G') rfl ?_ (fun _ _ _ _ h => .inl h) ?_ ?_
              · rintro b hI
                exact zL
              · refine aw_region ?_
                refine aops_n rfl (n_fieldAddr_box rfl rfl) ?_
                try dsimp only [St.put]
                refine aops_s rfl (s_load_box rfl rfl zG trivial (by first | rfl | assumption)) ?_
                refine aops_n rfl (n_eql rfl rfl rfl) ?_
                refine aops_n rfl (n_mv rfl (by constructor)) ?_
                refine aops_split (fun hs => ?_) (fun hs => ?_)
                · have hs3 := of_decide_eq_true hs
                  refine aops_n rfl (n_fieldAddr' rfl rfl rfl) ?_
                  try dsimp only [St.put]
                  refine aops_s rfl (s_load rfl rfl) ?_
                  refine aops_n rfl (n_mv rfl (by constructor)) ?_
                  refine aops_n rfl (n_eql rfl rfl rfl) ?_
                  refine aops_n rfl (n_pt rfl rfl (by constructor)) ?_
                  refine aops_n rfl (n_mv rfl (by constructor)) ?_
                  refine aops_split (fun hs => ?_) (fun hs => ?_)
                  · have hs9 := of_decide_eq_true hs
                    refine aops_n rfl (n_mv rfl (by constructor)) ?_
                    refine aops_n rfl (n_fieldAddr' rfl rfl rfl) ?_
                    try dsimp only [St.put]
                    refine aops_s rfl (s_load rfl rfl) ?_
                    refine aops_n rfl (n_fieldAddr' rfl rfl rfl) ?_
                    try dsimp only [St.put]
                    refine aops_s rfl (s_load rfl rfl) ?_
                    refine aops_n rfl (n_sub rfl rfl rfl (by omega)) ?_
                    try dsimp only [St.put]
                    refine aops_e rfl (e_call_pure rfl rfl rfl (within2_pure _ _ _) ?_)
                    refine aops_n rfl (n_pt rfl rfl (by constructor)) ?_
                    refine aops_nil ?_
                    dsimp only [St.put]
                    refine ⟨_, ?_, ⟨⟨rfl, rfl⟩, zF, zB, zN, zX⟩⟩
                    (rw [← hasB_in]; simp [hs3, hs9])
                  · have hs9 := of_decide_eq_false hs
                    refine aops_skip rfl ?_
                    refine aops_skip rfl ?_
                    refine aops_skip rfl ?_
                    refine aops_skip rfl ?_
                    refine aops_skip rfl ?_
                    refine aops_skip rfl ?_
                    refine aops_skip rfl ?_
                    refine aops_n rfl (n_pf rfl rfl (by constructor)) ?_
                    refine aops_nil ?_
                    dsimp only [St.put]
                    refine ⟨_, ?_, ⟨⟨rfl, rfl⟩, zF, zB, zN, zX⟩⟩
                    (simp [hs3, hasB, hs9]; done)
                · have hs3 := of_decide_eq_false hs
                  refine aops_skip rfl ?_
                  refine aops_skip rfl ?_
                  refine aops_skip rfl ?_
                  refine aops_skip rfl ?_
                  refine aops_n rfl (n_pf rfl rfl (by constructor)) ?_
                  refine aops_n rfl (n_mv rfl (by constructor)) ?_
                  refine aops_skip rfl ?_
                  refine aops_skip rfl ?_
                  refine aops_skip rfl ?_
                  refine aops_skip rfl ?_
                  refine aops_skip rfl ?_
                  refine aops_skip rfl ?_
                  refine aops_skip rfl ?_
                  refine aops_n rfl (n_pf rfl rfl (by constructor)) ?_
                  refine aops_nil ?_
                  dsimp only [St.put]
                  refine ⟨_, ?_, ⟨⟨rfl, rfl⟩, zF, zB, zN, zX⟩⟩
                  (simp [hs3]; done)
              · rintro b hst
                dsimp only at hst ⊢
                refine aw_cond rfl (fun hc => ?_) (fun hc => ?_)
                · rw [hc] at hst
                  refine aw_draw [(0, none), (1, none), (2, none), (3, none), (4, none), (5, none), (6, none), (7, none), (8, none), (9, none), (10, none), (11, none), (12, none)] (fun i => [12].contains i) (fun i => [10, 12].contains i) (fun i => [0, 2, 4, 5, 6, 8, 9, 11].contains i) [] (by kernel_rfl) (by kernel_rfl) ?_
                  refine acan1_n rfl rfl rfl rfl (n_fieldAddr' rfl rfl rfl) ?_
                  try dsimp only [St.put]
                  refine acan1_s rfl rfl rfl rfl (s_load rfl rfl) ?_
                  refine acan1_n rfl rfl rfl rfl (n_fieldAddr' rfl rfl rfl) ?_
                  try dsimp only [St.put]
                  refine acan1_s rfl rfl rfl rfl (s_load rfl rfl) ?_
                  refine acan1_n rfl rfl rfl rfl (n_mv rfl (by constructor)) ?_
                  refine acan1_n rfl rfl rfl rfl (n_add rfl rfl rfl (by omega)) ?_
                  refine acan1_n rfl rfl rfl rfl (n_fieldAddr' rfl rfl rfl) ?_
                  try dsimp only [St.put]
                  refine acan1_s rfl rfl rfl rfl (s_load rfl rfl) ?_
                  refine acan1_n rfl rfl rfl rfl (n_sub rfl rfl rfl (by omega)) ?_
                  refine acan1_n rfl rfl rfl rfl (n_fieldAddr_box rfl rfl) ?_
                  refine acan1_two ?_
                  try dsimp only [St.put]
                  refine acan2_e rfl rfl rfl (e_store_one rfl rfl rfl zG (by constructor) rfl (by first | (simp; done) | (simp; omega) | exact Nat.lt_of_lt_of_eq (by decide) (Enc.len _).symm) ⟨zD, ?_⟩)
                  refine acan2_n rfl rfl rfl rfl (n_fieldAddr_box rfl rfl) ?_
                  try dsimp only [St.put]
                  refine acan2_late rfl rfl rfl rfl (e_store_one rfl rfl rfl zG (by constructor) rfl (by first | (simp; done) | (simp; omega) | exact Nat.lt_of_lt_of_eq (by decide) (Enc.len _).symm) ?_)
                  refine acan2_nil ?_
                  dsimp only [St.put]
                  refine hK17 _ ?_
                  refine aw_region ?_
                  refine aops_n rfl (n_mv rfl (by constructor)) ?_
                  refine aops_n rfl (n_add rfl rfl rfl (by omega)) ?_
                  refine aops_n rfl (n_as rfl (by constructor)) ?_
                  refine aops_nil ?_
                  dsimp only [St.put]
                  first
                    | exact ⟨(i + 1, v + 1 + 1, s.au, s.fi + n - s.fr), by (dsimp only; omega), ⟨by (dsimp only; omega), rowI_yes he hK.2 hs hst⟩, ⟨⟨rfl, rfl⟩, zF, zB, zN, zX⟩⟩
                    | exact ⟨(i + 1, v, au, nu), by (dsimp only; omega), ⟨by (dsimp only; omega), rowI_no he hK.2 hs hst⟩, ⟨⟨rfl, rfl⟩, zF, zB, zN, zX⟩⟩
                · rw [hc] at hst
                  refine aw_skip ?_
                  refine hK17 _ ?_
                  refine aw_region ?_
                  refine aops_n rfl (n_mv rfl (by constructor)) ?_
                  refine aops_n rfl (n_add rfl rfl rfl (by omega)) ?_
                  refine aops_n rfl (n_as rfl (by constructor)) ?_
                  refine aops_nil ?_
                  dsimp only [St.put]
                  first
                    | exact ⟨(i + 1, v + 1 + 1, s.au, s.fi + n - s.fr), by (dsimp only; omega), ⟨by (dsimp only; omega), rowI_yes he hK.2 hs hst⟩, ⟨⟨rfl, rfl⟩, zF, zB, zN, zX⟩⟩
                    | exact ⟨(i + 1, v, au, nu), by (dsimp only; omega), ⟨by (dsimp only; omega), rowI_no he hK.2 hs hst⟩, ⟨⟨rfl, rfl⟩, zF, zB, zN, zX⟩⟩
            · try replace hc := of_decide_eq_false hc
              refine aw_exit ?_
              refine hK13 _ ?_
              refine aw_region ?_
              refine aops_n rfl (n_mv rfl (by constructor)) ?_
              try dsimp only [St.put]
              refine aops_s rfl (s_load_box_all rfl rfl zG trivial (by rfl)) ?_
              try dsimp only [St.put]
              refine aops_e rfl (e_buildSlice rfl rfl rfl (by decide) (by decide) zR (by decide) ?_)
              try dsimp only [St.put]
              refine aops_e rfl (e_append_own (⟨k, n, au, nu, l.length⟩ : RowD) rfl rfl zG rfl rfl rfl rfl zA ?_ zA)
              refine aops_n rfl (n_as rfl (by constructor)) ?_
              refine aops_nil ?_
              dsimp only [St.put]
              refine hK11 _ ?_
              refine aw_region ?_
              refine aops_n rfl (n_mv rfl (by constructor)) ?_
              refine aops_n rfl (n_add rfl rfl rfl (by omega)) ?_
              refine aops_n rfl (n_as rfl (by constructor)) ?_
              refine aops_nil ?_
              dsimp only [St.put]
              have e4 : rowsT (t.take k) e.ss ++ rowL e.ss k (c.lines.take n) ++ [(⟨k, n, au, nu, l.length⟩ : RowD)] = rowsT (t.take k) e.ss ++ rowL e.ss k (c.lines.take (n + 1)) := by
                rw [rowI_end (w := (l.length : Int)) hK.2 (by omega), List.append_assoc, ← rowL_succ e.ss k hn]
              rw [e4, show (rowsT (t.take k) e.ss ++ rowL e.ss k (c.lines.take n)).length + 1 = (rowsT (t.take k) e.ss ++ rowL e.ss k (c.lines.take (n + 1))).length by rw [← e4]; simp [Nat.add_assoc]]
              exact ⟨n + 1, by omega, by omega, ⟨⟨rfl, rfl⟩, zF, zB, zN, zX⟩⟩
        · try replace hc := of_decide_eq_false hc
          refine aw_exit ?_
          refine hK7 _ ?_
          refine aw_region ?_
          refine aops_n rfl (n_mv rfl (by constructor)) ?_
          refine aops_n rfl (n_add rfl rfl rfl (by omega)) ?_
          refine aops_n rfl (n_as rfl (by constructor)) ?_
          refine aops_nil ?_
          dsimp only [St.put]
          rw [take_all (show c.lines.length ≤ n by omega), ← rowsT_succ e.ss hk]
          exact ⟨k + 1, by omega, by omega, ⟨⟨rfl, rfl⟩, zF, zB, zN, zX⟩⟩
    · try replace hc := of_decide_eq_false hc
      refine aw_exit ?_
      refine hK3 _ ?_
      refine aw_seq_k fun K20 hK20 => ?_
      refine aw_region ?_
      refine aops_n rfl (n_mv rfl (by constructor)) ?_
      refine aops_n rfl (n_as rfl (by constructor)) ?_
      refine aops_nil ?_
      dsimp only [St.put]
      rw [take_all (show t.length ≤ k by omega)]
      refine hK20 _ ?_
      refine aw_ret ?_
      refine ends_1 rfl (by constructor) zN zS ?_
      rfl
theorem refLast_pure (l : List RowD) (cp : Int) (hll : l.length ≤ 60) : Pure Tryd.prog 92 [lst l, .v (.int .i64 cp)] (.v (.int .i64 (maxF (gRow cp) l))) := by
  refine pure_of_body Tryd.func92 rfl (fun m => .v) fun G nx => ?_
  simp only [Tryd.ntmps92, List.length_cons, List.length_nil, Nat.reduceAdd, Nat.reduceSub]
  refine aw_lt fun hlt => ?_
  dsimp only at hlt
  refine aw_seq_k fun K1 hK1 => ?_
  refine aw_region ?_
  refine aops_n rfl (n_as rfl (by constructor)) ?_
  refine aops_nil ?_
  dsimp only [St.put]
  refine hK1 _ ?_
  refine aw_seq_k fun K2 hK2 => ?_
  refine aw_region ?_
  refine aops_n rfl (n_as rfl (by constructor)) ?_
  refine aops_nil ?_
  dsimp only [St.put]
  refine hK2 _ ?_
  refine aw_seq_k fun K3 hK3 => ?_
  refine aw_seq_k fun K4 hK4 => ?_
  refine aw_region ?_
  refine aops_n rfl (n_as rfl (by constructor)) ?_
  refine aops_nil ?_
  dsimp only [St.put]
  refine hK4 _ ?_
  refine aw_block ?_
  refine aw_wipe 7 ?_
  simp only [firsts, getA, Nat.reduceAdd, List.getD_cons_zero, List.getD_cons_succ, List.getD_nil, natBeq, Nat.reduceBEq, cond_true, cond_false]
  refine aw_forget (G) zX ?_
  dsimp only
  refine aw_loopD (X := Nat) (fun k => k ≤ l.length) (fun k => l.length - k) (fun k => [(5, .v (.int .i64 (maxF (gRow cp) (l.take k)))), (6, .v (.int .i64 (k : Int)))]) (fun k G' => G') 0 rfl ?_ ?_ (fun _ _ h => h) ?_ ?_ ?_
  · exact Nat.zero_le _
  · exact zF
  · rintro k hI
    exact zL
  · exact fun _ _ _ _ h => .inl h
  · rintro k hI
    dsimp only at hI ⊢
    refine aw_seq_k fun K5 hK5 => ?_
    refine aw_seq_k fun K6 hK6 => ?_
    refine aw_region ?_
    refine aops_n rfl (n_mv rfl (by constructor)) ?_
    refine aops_n rfl (n_mv rfl (by constructor)) ?_
    refine aops_n rfl (n_len' rfl rfl (List.length_map _)) ?_
    refine aops_n rfl (n_lss rfl rfl rfl) ?_
    refine aops_nil ?_
    dsimp only [St.put]
    refine hK6 _ ?_
    refine aw_cond rfl (fun hc => ?_) (fun hc => ?_)
    · replace hc := of_decide_eq_true hc
      obtain ⟨r, hr⟩ : ∃ x, l[k]? = some x := some_of_lt (by omega)
      refine aw_skip ?_
      refine hK5 _ ?_
      refine aw_seq_k fun K7 hK7 => ?_
      refine aw_block ?_
      refine aw_seq_k fun K8 hK8 => ?_
      refine aw_region ?_
      refine aops_n rfl (n_mv rfl (by constructor)) ?_
      refine aops_n rfl (n_mv rfl (by constructor)) ?_
      try dsimp only [St.put]
      refine aops_n rfl (n_indexAddr rfl rfl rfl rfl (map_get (by assumption)) (Enc.len _)) ?_
      refine aops_n rfl (n_fieldAddr' rfl rfl rfl) ?_
      try dsimp only [St.put]
      refine aops_s rfl (s_load rfl rfl) ?_
      refine aops_n rfl (n_mv rfl (by constructor)) ?_
      refine aops_n rfl (n_eql rfl rfl rfl) ?_
      refine aops_split (fun hs => ?_) (fun hs => ?_)
      · have h6 := of_decide_eq_true hs
        refine aops_n rfl (n_mv rfl (by constructor)) ?_
        refine aops_n rfl (n_mv rfl (by constructor)) ?_
        refine aops_n rfl (n_gtr rfl rfl rfl) ?_
        refine aops_n rfl (n_pt rfl rfl (by constructor)) ?_
        refine aops_nil ?_
        dsimp only [St.put]
        refine hK8 _ ?_
        refine aw_cond rfl (fun hc => ?_) (fun hc => ?_)
        · have e1 : maxF (gRow cp) (l.take (k + 1)) = max (maxF (gRow cp) (l.take k)) r.nu := by
            have := of_decide_eq_true hc
            rw [List.take_add_one, hr, Option.toList_some, maxF_snoc]
            simp [stepM, gRow, h6, this]
          refine aw_region ?_
          refine aops_n rfl (n_mv rfl (by constructor)) ?_
          refine aops_n rfl (n_mv rfl (by constructor)) ?_
          refine aops_n rfl (n_mv rfl (by constructor)) ?_
          try dsimp only [St.put]
          refine aops_n rfl (n_indexAddr rfl rfl rfl rfl (map_get (by assumption)) (Enc.len _)) ?_
          refine aops_n rfl (n_fieldAddr' rfl rfl rfl) ?_
          try dsimp only [St.put]
          refine aops_s rfl (s_load rfl rfl) ?_
          refine aops_n rfl (n_max rfl rfl rfl rfl) ?_
          refine aops_n rfl (n_as rfl (by constructor)) ?_
          refine aops_nil ?_
          dsimp only [St.put]
          refine hK7 _ ?_
          refine aw_region ?_
          refine aops_n rfl (n_mv rfl (by constructor)) ?_
          refine aops_n rfl (n_add rfl rfl rfl (by omega)) ?_
          refine aops_n rfl (n_as rfl (by constructor)) ?_
          refine aops_nil ?_
          dsimp only [St.put]
          rw [← e1]
          exact ⟨k + 1, by omega, by omega, ⟨⟨rfl, rfl⟩, zF, zB, zN, zX⟩⟩
        · have e1 : maxF (gRow cp) (l.take (k + 1)) = maxF (gRow cp) (l.take k) := by
            rw [List.take_add_one, hr, Option.toList_some, maxF_snoc]
            first
            | (have := of_decide_eq_false hc; simp [stepM, gRow, this]; done)
            | (simp [stepM, gRow, h6]; done)
          refine aw_skip ?_
          refine hK7 _ ?_
          refine aw_region ?_
          refine aops_n rfl (n_mv rfl (by constructor)) ?_
          refine aops_n rfl (n_add rfl rfl rfl (by omega)) ?_
          refine aops_n rfl (n_as rfl (by constructor)) ?_
          refine aops_nil ?_
          dsimp only [St.put]
          rw [← e1]
          exact ⟨k + 1, by omega, by omega, ⟨⟨rfl, rfl⟩, zF, zB, zN, zX⟩⟩
      · have h6 := of_decide_eq_false hs
        refine aops_n rfl (n_mv rfl (by constructor)) ?_
        refine aops_skip rfl ?_
        refine aops_skip rfl ?_
        refine aops_n rfl (n_pf rfl rfl (by constructor)) ?_
        refine aops_nil ?_
        dsimp only [St.put]
        refine hK8 _ ?_
        refine aw_cond rfl (fun h => by cases h) (fun _ => ?_)
        have e1 : maxF (gRow cp) (l.take (k + 1)) = maxF (gRow cp) (l.take k) := by
          rw [List.take_add_one, hr, Option.toList_some, maxF_snoc]
          first
          | (have := of_decide_eq_false hc; simp [stepM, gRow, this]; done)
          | (simp [stepM, gRow, h6]; done)
        refine aw_skip ?_
        refine hK7 _ ?_
        refine aw_region ?_
        refine aops_n rfl (n_mv rfl (by constructor)) ?_
        refine aops_n rfl (n_add rfl rfl rfl (by omega)) ?_
        refine aops_n rfl (n_as rfl (by constructor)) ?_
        refine aops_nil ?_
        dsimp only [St.put]
        rw [← e1]
        exact ⟨k + 1, by omega, by omega, ⟨⟨rfl, rfl⟩, zF, zB, zN, zX⟩⟩
    · replace hc := of_decide_eq_false hc
      refine aw_exit ?_
      refine hK3 _ ?_
      refine aw_seq_k fun K9 hK9 => ?_
      refine aw_region ?_
      refine aops_n rfl (n_mv rfl (by constructor)) ?_
      refine aops_n rfl (n_as rfl (by constructor)) ?_
      refine aops_nil ?_
      dsimp only [St.put]
      refine hK9 _ ?_
      refine aw_ret ?_
      refine ends_1 rfl (by constructor) zN zS ?_
      exact vi (by rw [take_all (show l.length ≤ k by omega)])
theorem made_pure (e : EditionD) (l : List RowD) (hll : l.length ≤ 60) (hbd : ∀ r ∈ l, RBd r) : Pure Tryd.prog 93 [val e, lst l] (.tup [val (edIf e (madeEr (plainR l)) (plainR l)), .v (.int .i64 (madeEr (plainR l)))]) := by
  refine pure_of_body Tryd.func93 rfl (fun m => .tup (low_cons (val_low _ _) (low_cons .v low_nil))) fun G nx => ?_
  simp only [Tryd.ntmps93, List.length_cons, List.length_nil, Nat.reduceAdd, Nat.reduceSub]
  refine aw_lt fun hlt => ?_
  dsimp only at hlt
  have hpl := plainR_len l
  refine aw_seq_k fun K1 hK1 => ?_
  refine aw_region ?_
  try dsimp only [St.put]
  refine aops_e rfl (e_box rfl rfl (by simp) ?_)
  try dsimp only [St.put]
  refine aops_e rfl (e_allocC rfl ?_)
  refine aops_n rfl (n_as rfl (by constructor)) ?_
  refine aops_nil ?_
  dsimp only [St.put]
  refine hK1 _ ?_
  refine aw_seq_k fun K2 hK2 => ?_
  refine aw_drawT [(0, none), (1, none), (2, none)] (fun _ => false) (fun i => [0, 2].contains i) 4 [true, true, true, false, false, false, false] (by kernel_rfl) (by kernel_rfl) ?_
  refine acan1_n rfl rfl rfl rfl (n_fieldAddr' rfl rfl rfl) ?_
  try dsimp only [St.put]
  refine acan1_s rfl rfl rfl rfl (s_load rfl rfl) ?_
  refine acan1_n rfl rfl rfl rfl (n_mv rfl (by constructor)) ?_
  refine acan1_nil ?_
  refine aany_step [3, 5] (by kernel_rfl) (by simp) ?_
  refine aeach_cons ?_ ?_
  · try dsimp only [St.put]
    refine aone_e rfl rfl rfl (e_call_pure rfl rfl rfl (plain_pure l hll hbd) ?_)
    refine aany_quiet [(4, none)] (fun i => [4].contains i) 2 [true, true, true, true, true, false, false] (by kernel_rfl) ?_
    refine acan1_n rfl rfl rfl rfl (n_build rfl rfl) ?_
    refine acan1_nil ?_
    refine aany_step [5] (by kernel_rfl) (by simp) ?_
    refine aeach_cons ?_ ?_
    · try dsimp only [St.put]
      refine aone_e rfl rfl rfl (e_allocC rfl ?_)
      refine aany_step [6] (by kernel_rfl) (by simp) ?_
      refine aeach_cons ?_ ?_
      · try dsimp only [St.put]
        refine aone_e rfl rfl rfl (e_store_all rfl rfl rfl zG rfl rfl (by rfl) ?_)
        dsimp only [St.put]
        refine aany_of_tr (tr_commit (i := 6) rfl zG (by first | exact List.cons_ne_nil _ _ | (simp; done) | (simp [putAt]; done))) ?_
        dsimp only
        refine aany_nil (by kernel_rfl) ?_
        refine hK2 _ ?_
        refine aw_seq_k fun K3 hK3 => ?_
        refine aw_seq_k fun K4 hK4 => ?_
        refine aw_region ?_
        refine aops_n rfl (n_fieldAddr' rfl rfl rfl) ?_
        try dsimp only [St.put]
        refine aops_s rfl (s_load rfl rfl) ?_
        refine aops_n rfl (n_len' rfl rfl (List.length_map _)) ?_
        refine aops_n rfl (n_gtr rfl rfl rfl) ?_
        refine aops_nil ?_
        dsimp only [St.put]
        refine hK4 _ ?_
        refine aw_cond rfl (fun hc => ?_) (fun hc => ?_)
        · have hE : madeEr (plainR l) = 9 := by
            have : 12 < (plainR l).length := by have := of_decide_eq_true hc; omega
            simp [madeEr, this]
          refine aw_seq_k fun K5 hK5 => ?_
          refine aw_region ?_
          refine aops_n rfl (n_build rfl rfl) ?_
          try dsimp only [St.put]
          refine aops_e rfl (e_store_all rfl rfl rfl zG rfl rfl (by rfl) ?_)
          refine aops_n rfl (n_as rfl (by constructor)) ?_
          refine aops_nil ?_
          dsimp only [St.put]
          refine hK5 _ ?_
          refine aw_ret ?_
          refine ends_v2 rfl (rv_box rfl zG (by rfl) (by first | exact List.cons_ne_nil _ _ | (simp; done) | (simp [putAt]; done)) rfl) (rv_tmp (by constructor)) zN zS ?_ ?_
          · rw [hE, show edIf e 9 (plainR l) = ⟨0, []⟩ from rfl]
            exact zW
          · exact Wk.of_eq (vi hE.symm)
        · have hE : madeEr (plainR l) = 0 := by
            have : ¬ 12 < (plainR l).length := by have := of_decide_eq_false hc; omega
            simp [madeEr, this]
          refine aw_skip ?_
          refine hK3 _ ?_
          refine aw_seq_k fun K6 hK6 => ?_
          refine aw_region ?_
          try dsimp only [St.put]
          refine aops_s rfl (s_load_agg' rfl rfl rfl) ?_
          try dsimp only [St.put]
          refine aops_e rfl (e_store_all rfl rfl rfl zG rfl rfl (by rfl) ?_)
          refine aops_n rfl (n_as rfl (by constructor)) ?_
          refine aops_nil ?_
          dsimp only [St.put]
          refine hK6 _ ?_
          refine aw_ret ?_
          refine ends_v2 rfl (rv_box rfl zG (by rfl) (by first | exact List.cons_ne_nil _ _ | (simp; done) | (simp [putAt]; done)) rfl) (rv_tmp (by constructor)) zN zS ?_ ?_
          · rw [hE, show edIf e 0 (plainR l) = ⟨e.id, plainR l⟩ from rfl]
            exact zW
          · exact Wk.of_eq (vi hE.symm)
      exact aeach_nil
    exact aeach_nil
  refine aeach_cons ?_ ?_
  · try dsimp only [St.put]
    refine aone_e rfl rfl rfl (e_allocC rfl ?_)
    refine aany_step [3] (by kernel_rfl) (by simp) ?_
    refine aeach_cons ?_ ?_
    · try dsimp only [St.put]
      refine aone_e rfl rfl rfl (e_call_pure rfl rfl rfl (plain_pure l hll hbd) ?_)
      refine aany_quiet [(4, none)] (fun i => [4].contains i) 1 [true, true, true, true, true, true, false] (by kernel_rfl) ?_
      refine acan1_n rfl rfl rfl rfl (n_build rfl rfl) ?_
      refine acan1_nil ?_
      refine aany_step [6] (by kernel_rfl) (by simp) ?_
      refine aeach_cons ?_ ?_
      · try dsimp only [St.put]
        refine aone_e rfl rfl rfl (e_store_all rfl rfl rfl zG rfl rfl (by rfl) ?_)
        dsimp only [St.put]
        refine aany_of_tr (tr_commit (i := 6) rfl zG (by first | exact List.cons_ne_nil _ _ | (simp; done) | (simp [putAt]; done))) ?_
        dsimp only
        refine aany_nil (by kernel_rfl) ?_
        refine hK2 _ ?_
        refine aw_seq_k fun K7 hK7 => ?_
        refine aw_seq_k fun K8 hK8 => ?_
        refine aw_region ?_
        refine aops_n rfl (n_fieldAddr' rfl rfl rfl) ?_
        try dsimp only [St.put]
        refine aops_s rfl (s_load rfl rfl) ?_
        refine aops_n rfl (n_len' rfl rfl (List.length_map _)) ?_
        refine aops_n rfl (n_gtr rfl rfl rfl) ?_
        refine aops_nil ?_
        dsimp only [St.put]
        refine hK8 _ ?_
        refine aw_cond rfl (fun hc => ?_) (fun hc => ?_)
        · have hE : madeEr (plainR l) = 9 := by
            have : 12 < (plainR l).length := by have := of_decide_eq_true hc; omega
            simp [madeEr, this]
          refine aw_seq_k fun K9 hK9 => ?_
          refine aw_region ?_
          refine aops_n rfl (n_build rfl rfl) ?_
          try dsimp only [St.put]
          refine aops_e rfl (e_store_all rfl rfl rfl zG rfl rfl (by rfl) ?_)
          refine aops_n rfl (n_as rfl (by constructor)) ?_
          refine aops_nil ?_
          dsimp only [St.put]
          refine hK9 _ ?_
          refine aw_ret ?_
          refine ends_v2 rfl (rv_box rfl zG (by rfl) (by first | exact List.cons_ne_nil _ _ | (simp; done) | (simp [putAt]; done)) rfl) (rv_tmp (by constructor)) zN zS ?_ ?_
          · rw [hE, show edIf e 9 (plainR l) = ⟨0, []⟩ from rfl]
            exact zW
          · exact Wk.of_eq (vi hE.symm)
        · have hE : madeEr (plainR l) = 0 := by
            have : ¬ 12 < (plainR l).length := by have := of_decide_eq_false hc; omega
            simp [madeEr, this]
          refine aw_skip ?_
          refine hK7 _ ?_
          refine aw_seq_k fun K10 hK10 => ?_
          refine aw_region ?_
          try dsimp only [St.put]
          refine aops_s rfl (s_load_agg' rfl rfl rfl) ?_
          try dsimp only [St.put]
          refine aops_e rfl (e_store_all rfl rfl rfl zG rfl rfl (by rfl) ?_)
          refine aops_n rfl (n_as rfl (by constructor)) ?_
          refine aops_nil ?_
          dsimp only [St.put]
          refine hK10 _ ?_
          refine aw_ret ?_
          refine ends_v2 rfl (rv_box rfl zG (by rfl) (by first | exact List.cons_ne_nil _ _ | (simp; done) | (simp [putAt]; done)) rfl) (rv_tmp (by constructor)) zN zS ?_ ?_
          · rw [hE, show edIf e 0 (plainR l) = ⟨e.id, plainR l⟩ from rfl]
            exact zW
          · exact Wk.of_eq (vi hE.symm)
      exact aeach_nil
    exact aeach_nil
  exact aeach_nil
theorem Split_pure (t : TextD) (e : EditionD) (cp l to : Int) : Pure Tryd.prog 25 [textC t, val e, .v (.int .i64 cp), .v (.int .i64 l), .v (.int .i64 to)] (.tup [val (edIf e (splitEr t e cp l to) (splitL t e cp l to)), .v (.int .i64 (splitEr t e cp l to))]) := by
  refine pure_of_body Tryd.func25 rfl (fun m => .tup (low_cons (val_low _ _) (low_cons .v low_nil))) fun G nx => ?_
  simp only [Tryd.ntmps25, List.length_cons, List.length_nil, Nat.reduceAdd, Nat.reduceSub]
  refine aw_lt fun hlt => ?_
  dsimp only at hlt
  refine aw_seq_k fun K1 hK1 => ?_
  refine aw_region ?_
  try dsimp only [St.put]
  refine aops_e rfl (e_box rfl rfl (by simp) ?_)
  try dsimp only [St.put]
  refine aops_e rfl (e_box rfl rfl (by simp) ?_)
  try dsimp only [St.put]
  refine aops_e rfl (e_allocC rfl ?_)
  refine aops_n rfl (n_as rfl (by constructor)) ?_
  refine aops_nil ?_
  dsimp only [St.put]
  refine hK1 _ ?_
  refine aw_seq_k fun K2 hK2 => ?_
  refine aw_seq_k fun K3 hK3 => ?_
  refine aw_region ?_
  try dsimp only [St.put]
  refine aops_s rfl (s_load_agg' rfl rfl rfl) ?_
  try dsimp only [St.put]
  refine aops_s rfl (s_load_agg' rfl rfl (Enc.len _)) ?_
  try dsimp only [St.put]
  refine aops_e rfl (e_call_pure rfl rfl rfl (sound2_pure t e) ?_)
  refine aops_n rfl (n_as rfl (by constructor)) ?_
  refine aops_nil ?_
  dsimp only [St.put]
  refine hK3 _ ?_
  refine aw_seq_k fun K4 hK4 => ?_
  refine aw_region ?_
  refine aops_n rfl (n_mv rfl (by constructor)) ?_
  refine aops_n rfl (n_neq rfl rfl rfl) ?_
  refine aops_nil ?_
  dsimp only [St.put]
  refine hK4 _ ?_
  refine aw_cond rfl (fun hc => ?_) (fun hc => ?_)
  · have h0 : ¬ soundEr t e = 0 := nd_t hc
    have hE : splitEr t e cp l to = soundEr t e := by simp [splitEr, h0]
    have hD : edIf e (soundEr t e) (splitL t e cp l to) = ⟨0, []⟩ := by simp [edIf, h0]
    refine aw_seq_k fun K5 hK5 => ?_
    refine aw_region ?_
    refine aops_n rfl (n_build rfl rfl) ?_
    refine aops_n rfl (n_mv rfl (by constructor)) ?_
    try dsimp only [St.put]
    refine aops_e rfl (e_store_all rfl rfl rfl zG rfl rfl (by rfl) ?_)
    refine aops_n rfl (n_as rfl (by constructor)) ?_
    refine aops_nil ?_
    dsimp only [St.put]
    refine hK5 _ ?_
    refine aw_ret ?_
    refine ends_v2 rfl (rv_box rfl zG (by rfl) (by first | exact List.cons_ne_nil _ _ | (simp; done) | (simp [putAt]; done)) rfl) (rv_tmp (by constructor)) zN zS ?_ ?_
    · rw [hE, hD]
      exact zW
    · exact Wk.of_eq (vi hE.symm)
  · have h0 : soundEr t e = 0 := nd_f hc
    have hS := soundEr_sound h0
    obtain ⟨ht, hl, he⟩ := checkEr_text (soundEr_check h0).1
    refine aw_skip ?_
    refine hK2 _ ?_
    refine aw_seq_k fun K6 hK6 => ?_
    refine aw_seq_k fun K7 hK7 => ?_
    refine aw_region ?_
    refine aops_n rfl (n_mv rfl (by constructor)) ?_
    try dsimp only [St.put]
    refine aops_e rfl (e_call_pure rfl rfl rfl (within2_pure _ _ _) ?_)
    refine aops_n rfl (n_not rfl rfl) ?_
    refine aops_split (fun hs => ?_) (fun hs => ?_)
    · have q1 : inB cp 1 999 = false := by simpa using hs
      refine aops_n rfl (n_mv rfl (by constructor)) ?_
      refine aops_skip rfl ?_
      refine aops_skip rfl ?_
      refine aops_skip rfl ?_
      refine aops_n rfl (n_pt rfl rfl (by constructor)) ?_
      refine aops_n rfl (n_mv rfl (by constructor)) ?_
      refine aops_skip rfl ?_
      refine aops_skip rfl ?_
      refine aops_skip rfl ?_
      refine aops_n rfl (n_pt rfl rfl (by constructor)) ?_
      refine aops_nil ?_
      dsimp only [St.put]
      refine hK7 _ ?_
      refine aw_cond rfl (fun _ => ?_) (fun h => by cases h)
      have hin : inAll 1 999 [cp, l, to] = false := by
        rw [inAll_three]
        (simp [q1]; done)
      have hE : splitEr t e cp l to = 2 := by simp [splitEr, h0, hin]
      refine aw_seq_k fun K8 hK8 => ?_
      refine aw_region ?_
      refine aops_n rfl (n_build rfl rfl) ?_
      try dsimp only [St.put]
      refine aops_e rfl (e_store_all rfl rfl rfl zG rfl rfl (by rfl) ?_)
      refine aops_n rfl (n_as rfl (by constructor)) ?_
      refine aops_nil ?_
      dsimp only [St.put]
      refine hK8 _ ?_
      refine aw_ret ?_
      refine ends_v2 rfl (rv_box rfl zG (by rfl) (by first | exact List.cons_ne_nil _ _ | (simp; done) | (simp [putAt]; done)) rfl) (rv_tmp (by constructor)) zN zS ?_ ?_
      · rw [hE, show edIf e 2 (splitL t e cp l to) = ⟨0, []⟩ from rfl]
        exact zW
      · exact Wk.of_eq (vi hE.symm)
    · have q1 : inB cp 1 999 = true := by simpa using hs
      refine aops_n rfl (n_mv rfl (by constructor)) ?_
      refine aops_n rfl (n_mv rfl (by constructor)) ?_
      try dsimp only [St.put]
      refine aops_e rfl (e_call_pure rfl rfl rfl (within2_pure _ _ _) ?_)
      refine aops_n rfl (n_not rfl rfl) ?_
      refine aops_split (fun hs => ?_) (fun hs => ?_)
      · have q2 : inB l 1 999 = false := by simpa using hs
        refine aops_n rfl (n_pf rfl rfl (by constructor)) ?_
        refine aops_n rfl (n_mv rfl (by constructor)) ?_
        refine aops_skip rfl ?_
        refine aops_skip rfl ?_
        refine aops_skip rfl ?_
        refine aops_n rfl (n_pt rfl rfl (by constructor)) ?_
        refine aops_nil ?_
        dsimp only [St.put]
        refine hK7 _ ?_
        refine aw_cond rfl (fun _ => ?_) (fun h => by cases h)
        have hin : inAll 1 999 [cp, l, to] = false := by
          rw [inAll_three]
          (simp [q1, q2]; done)
        have hE : splitEr t e cp l to = 2 := by simp [splitEr, h0, hin]
        refine aw_seq_k fun K9 hK9 => ?_
        refine aw_region ?_
        refine aops_n rfl (n_build rfl rfl) ?_
        try dsimp only [St.put]
        refine aops_e rfl (e_store_all rfl rfl rfl zG rfl rfl (by rfl) ?_)
        refine aops_n rfl (n_as rfl (by constructor)) ?_
        refine aops_nil ?_
        dsimp only [St.put]
        refine hK9 _ ?_
        refine aw_ret ?_
        refine ends_v2 rfl (rv_box rfl zG (by rfl) (by first | exact List.cons_ne_nil _ _ | (simp; done) | (simp [putAt]; done)) rfl) (rv_tmp (by constructor)) zN zS ?_ ?_
        · rw [hE, show edIf e 2 (splitL t e cp l to) = ⟨0, []⟩ from rfl]
          exact zW
        · exact Wk.of_eq (vi hE.symm)
      · have q2 : inB l 1 999 = true := by simpa using hs
        refine aops_n rfl (n_pf rfl rfl (by constructor)) ?_
        refine aops_n rfl (n_mv rfl (by constructor)) ?_
        refine aops_n rfl (n_mv rfl (by constructor)) ?_
        try dsimp only [St.put]
        refine aops_e rfl (e_call_pure rfl rfl rfl (within2_pure _ _ _) ?_)
        refine aops_n rfl (n_not rfl rfl) ?_
        refine aops_split (fun hs => ?_) (fun hs => ?_)
        · have q3 : inB to 1 999 = false := by simpa using hs
          refine aops_n rfl (n_pf rfl rfl (by constructor)) ?_
          refine aops_nil ?_
          dsimp only [St.put]
          refine hK7 _ ?_
          refine aw_cond rfl (fun _ => ?_) (fun h => by cases h)
          have hin : inAll 1 999 [cp, l, to] = false := by
            rw [inAll_three]
            (simp [q1, q2, q3]; done)
          have hE : splitEr t e cp l to = 2 := by simp [splitEr, h0, hin]
          refine aw_seq_k fun K10 hK10 => ?_
          refine aw_region ?_
          refine aops_n rfl (n_build rfl rfl) ?_
          try dsimp only [St.put]
          refine aops_e rfl (e_store_all rfl rfl rfl zG rfl rfl (by rfl) ?_)
          refine aops_n rfl (n_as rfl (by constructor)) ?_
          refine aops_nil ?_
          dsimp only [St.put]
          refine hK10 _ ?_
          refine aw_ret ?_
          refine ends_v2 rfl (rv_box rfl zG (by rfl) (by first | exact List.cons_ne_nil _ _ | (simp; done) | (simp [putAt]; done)) rfl) (rv_tmp (by constructor)) zN zS ?_ ?_
          · rw [hE, show edIf e 2 (splitL t e cp l to) = ⟨0, []⟩ from rfl]
            exact zW
          · exact Wk.of_eq (vi hE.symm)
        · have q3 : inB to 1 999 = true := by simpa using hs
          refine aops_n rfl (n_pf rfl rfl (by constructor)) ?_
          refine aops_nil ?_
          dsimp only [St.put]
          refine hK7 _ ?_
          refine aw_cond rfl (fun h => by cases h) (fun _ => ?_)
          have hin : inAll 1 999 [cp, l, to] = true := by rw [inAll_three, q1, q2, q3]; rfl
          rw [inB_true] at q1 q2 q3
          obtain ⟨R, hR⟩ : ∃ R, rowsT t e.ss = R := ⟨_, rfl⟩
          have hRl : R.length ≤ 60 := hR ▸ rowsT_all ht e.ss
          have hlast : ∀ c, Pure Tryd.prog 92 [lst R, .v (.int .i64 c)] (.v (.int .i64 (lastC t e.ss c))) := fun c => by rw [lastC, hR]; exact refLast_pure R c hRl
          have hbd0 := rowsT_bd ht he
          have hmb := move_bd ht he (c := cp) (l := l) (to := to) (mo := 1 - l) (by omega) (by omega)
          have hms := move_same (t := t) he (c := cp) (l := l) (to := to) (mo := 1 - l) (by omega) (by omega)
          rw [hR] at hbd0 hmb hms
          refine aw_skip ?_
          refine hK6 _ ?_
          refine aw_seq_k fun K11 hK11 => ?_
          refine aw_region ?_
          try dsimp only [St.put]
          refine aops_s rfl (s_load_agg' rfl rfl rfl) ?_
          try dsimp only [St.put]
          refine aops_s rfl (s_load_agg' rfl rfl (Enc.len _)) ?_
          try dsimp only [St.put]
          refine aops_e rfl (e_call_named rfl rfl rfl (rows_own t e ht hl he _ _) ?_)
          refine aops_n rfl (n_as rfl (by constructor)) ?_
          refine aops_nil ?_
          dsimp only [St.put]
          rw [hR]
          refine hK11 _ ?_
          refine aw_seq_k fun K12 hK12 => ?_
          refine aw_seq_k fun K13 hK13 => ?_
          refine aw_region ?_
          refine aops_n rfl (n_mv rfl (by constructor)) ?_
          refine aops_n rfl (n_mv rfl (by constructor)) ?_
          try dsimp only [St.put]
          refine aops_e rfl (e_call_read (as' := [lst R, .v (.int .i64 cp)]) rfl rfl rfl (hlast cp) ⟨.own R zG rfl rfl rfl, .low .v, trivial⟩ (flat_v _) ?_)
          refine aops_n rfl (n_mv rfl (by constructor)) ?_
          refine aops_n rfl (n_lss rfl rfl rfl) ?_
          refine aops_nil ?_
          dsimp only [St.put]
          refine hK13 _ ?_
          refine aw_cond rfl (fun hc => ?_) (fun hc => ?_)
          · have hE : splitEr t e cp l to = 6 := by
              have := of_decide_eq_true hc
              simp [splitEr, h0, hin, this]
            refine aw_seq_k fun K14 hK14 => ?_
            refine aw_region ?_
            refine aops_n rfl (n_build rfl rfl) ?_
            try dsimp only [St.put]
            refine aops_e rfl (e_store_all rfl rfl rfl zG rfl rfl (by rfl) ?_)
            refine aops_n rfl (n_as rfl (by constructor)) ?_
            refine aops_nil ?_
            dsimp only [St.put]
            refine hK14 _ ?_
            refine aw_ret ?_
            refine ends_v2 rfl (rv_box rfl zG (by rfl) (by first | exact List.cons_ne_nil _ _ | (simp; done) | (simp [putAt]; done)) rfl) (rv_tmp (by constructor)) zN zS ?_ ?_
            · rw [hE, show edIf e 6 (splitL t e cp l to) = ⟨0, []⟩ from rfl]
              exact zW
            · exact Wk.of_eq (vi hE.symm)
          · have hlt6 := of_decide_eq_false hc
            refine aw_skip ?_
            refine hK12 _ ?_
            refine aw_seq_k fun K15 hK15 => ?_
            refine aw_seq_k fun K16 hK16 => ?_
            refine aw_region ?_
            refine aops_n rfl (n_mv rfl (by constructor)) ?_
            refine aops_n rfl (n_mv rfl (by constructor)) ?_
            refine aops_n rfl (n_eql rfl rfl rfl) ?_
            refine aops_split (fun hs => ?_) (fun hs => ?_)
            · have h92 := of_decide_eq_true hs
              refine aops_n rfl (n_mv rfl (by constructor)) ?_
              refine aops_skip rfl ?_
              refine aops_skip rfl ?_
              refine aops_skip rfl ?_
              refine aops_skip rfl ?_
              refine aops_n rfl (n_pt rfl rfl (by constructor)) ?_
              refine aops_nil ?_
              dsimp only [St.put]
              refine hK16 _ ?_
              refine aw_cond rfl (fun _ => ?_) (fun h => by cases h)
              have hfull : (decide (cp = to) || decide (0 < lastC t e.ss to)) = true := by
                (simp [h92]; done)
              have hE : splitEr t e cp l to = 9 := by simp only [splitEr, h0, hin, hlt6, hfull, decide_true, decide_false, cond_true, cond_false]
              refine aw_seq_k fun K17 hK17 => ?_
              refine aw_region ?_
              refine aops_n rfl (n_build rfl rfl) ?_
              try dsimp only [St.put]
              refine aops_e rfl (e_store_all rfl rfl rfl zG rfl rfl (by rfl) ?_)
              refine aops_n rfl (n_as rfl (by constructor)) ?_
              refine aops_nil ?_
              dsimp only [St.put]
              refine hK17 _ ?_
              refine aw_ret ?_
              refine ends_v2 rfl (rv_box rfl zG (by rfl) (by first | exact List.cons_ne_nil _ _ | (simp; done) | (simp [putAt]; done)) rfl) (rv_tmp (by constructor)) zN zS ?_ ?_
              · rw [hE, show edIf e 9 (splitL t e cp l to) = ⟨0, []⟩ from rfl]
                exact zW
              · exact Wk.of_eq (vi hE.symm)
            · have h92 := of_decide_eq_false hs
              refine aops_n rfl (n_mv rfl (by constructor)) ?_
              refine aops_n rfl (n_mv rfl (by constructor)) ?_
              refine aops_n rfl (n_mv rfl (by constructor)) ?_
              try dsimp only [St.put]
              refine aops_e rfl (e_call_read (as' := [lst R, .v (.int .i64 to)]) rfl rfl rfl (hlast to) ⟨.own R zG rfl rfl rfl, .low .v, trivial⟩ (flat_v _) ?_)
              refine aops_n rfl (n_gtr rfl rfl rfl) ?_
              refine aops_n rfl (n_pf rfl rfl (by constructor)) ?_
              refine aops_nil ?_
              dsimp only [St.put]
              refine hK16 _ ?_
              refine aw_cond rfl (fun hc => ?_) (fun hc => ?_)
              · have hfull : (decide (cp = to) || decide (0 < lastC t e.ss to)) = true := by
                  (have := of_decide_eq_true hc; simp [this]; done)
                have hE : splitEr t e cp l to = 9 := by simp only [splitEr, h0, hin, hlt6, hfull, decide_true, decide_false, cond_true, cond_false]
                refine aw_seq_k fun K18 hK18 => ?_
                refine aw_region ?_
                refine aops_n rfl (n_build rfl rfl) ?_
                try dsimp only [St.put]
                refine aops_e rfl (e_store_all rfl rfl rfl zG rfl rfl (by rfl) ?_)
                refine aops_n rfl (n_as rfl (by constructor)) ?_
                refine aops_nil ?_
                dsimp only [St.put]
                refine hK18 _ ?_
                refine aw_ret ?_
                refine ends_v2 rfl (rv_box rfl zG (by rfl) (by first | exact List.cons_ne_nil _ _ | (simp; done) | (simp [putAt]; done)) rfl) (rv_tmp (by constructor)) zN zS ?_ ?_
                · rw [hE, show edIf e 9 (splitL t e cp l to) = ⟨0, []⟩ from rfl]
                  exact zW
                · exact Wk.of_eq (vi hE.symm)
              · have hfull : (decide (cp = to) || decide (0 < lastC t e.ss to)) = false := by
                  have := of_decide_eq_false hc
                  simp [Ne.symm h92, this]
                have hE : splitEr t e cp l to = madeEr (plainR (R.map (moveR cp l to (1 - l)))) := by
                  simp only [splitEr, h0, hin, hlt6, hfull, decide_true, decide_false, cond_true, cond_false, splitL, hms]
                have hL : splitL t e cp l to = plainR (R.map (moveR cp l to (1 - l))) := hms
                refine aw_skip ?_
                refine hK15 _ ?_
                refine aw_seq_k fun K19 hK19 => ?_
                refine aw_seq_k fun K20 hK20 => ?_
                refine aw_region ?_
                refine aops_n rfl (n_as rfl (by constructor)) ?_
                refine aops_nil ?_
                dsimp only [St.put]
                refine hK20 _ ?_
                refine aw_block ?_
                refine aw_wipe 16 ?_
                simp only [firsts, getA, Nat.reduceAdd, List.getD_cons_zero, List.getD_cons_succ, List.getD_nil, natBeq, Nat.reduceBEq, cond_true, cond_false]
                refine aw_forget ((setG (setG G nx (.box 0 [.v (.int .i64 0), .list [] .nil])) (nx + 1) (.arr R.length 0 159 5 R.length (flatC (((R.take 0).map (moveR cp l to (1 - l)) ++ R.drop 0)))))) zX ?_
                dsimp only
                refine aw_loopD (X := Nat × Nat) (fun x => x.1 ≤ R.length) (fun x => R.length - x.1) (fun x => [(14, .v (.int .i64 (x.1 : Int))), (15, .any)]) (fun x G' => (setG (setG G nx (.box 0 [.v (.int .i64 0), .list [] .nil])) (nx + 1) (.arr R.length x.2 159 5 R.length (flatC (((R.take x.1).map (moveR cp l to (1 - l)) ++ R.drop x.1)))))) (0, 0) rfl ?_ ?_ ?_ ?_ ?_ ?_
                · exact Nat.zero_le _
                · exact zF
                · exact zX
                · rintro ⟨k, wi⟩ hI
                  exact zL
                · rintro ⟨k, wi⟩ hI
                  exact zH
                · rintro ⟨k, wi⟩ hI
                  dsimp only at hI ⊢
                  refine aw_seq_k fun K21 hK21 => ?_
                  refine aw_seq_k fun K22 hK22 => ?_
                  refine aw_region ?_
                  refine aops_n rfl (n_mv rfl (by constructor)) ?_
                  refine aops_n rfl (n_mv rfl (by constructor)) ?_
                  refine aops_n rfl (n_len_own rfl rfl) ?_
                  refine aops_n rfl (n_lss rfl rfl rfl) ?_
                  refine aops_nil ?_
                  dsimp only [St.put]
                  refine hK22 _ ?_
                  refine aw_cond rfl (fun hc => ?_) (fun hc => ?_)
                  · replace hc := of_decide_eq_true hc
                    obtain ⟨r, hr⟩ : ∃ x, R[k]? = some x := some_of_lt (by omega)
                    have hz := mv_get (f := moveR cp l to (1 - l)) hr
                    obtain ⟨b1, b2, b3, b4⟩ := hbd0 r (mem_of_get hr)
                    refine aw_skip ?_
                    refine hK21 _ ?_
                    refine aw_seq_k fun K23 hK23 => ?_
                    refine aw_block ?_
                    refine aw_seq_k fun K24 hK24 => ?_
                    refine aw_region ?_
                    refine aops_n rfl (n_mv rfl (by constructor)) ?_
                    refine aops_n rfl (n_mv rfl (by constructor)) ?_
                    try dsimp only [St.put]
                    refine aops_n rfl (n_indexAddr_own (k := k) rfl rfl zG rfl (by first | exact rfl | omega) (by first | omega | (simp; omega))) ?_
                    refine aops_n rfl (n_as rfl (by constructor)) ?_
                    refine aops_nil ?_
                    dsimp only [St.put]
                    refine hK24 _ ?_
                    refine aw_seq_k fun K25 hK25 => ?_
                    refine aw_region ?_
                    refine aops_n rfl (n_mv rfl (by constructor)) ?_
                    refine aops_n rfl (n_nilCheck_box rfl rfl) ?_
                    refine aops_n rfl (n_fieldAddr_box rfl rfl) ?_
                    try dsimp only [St.put]
                    refine aops_s rfl (s_load_own rfl rfl zG trivial (flatC_get (by assumption) rfl)) ?_
                    refine aops_n rfl (n_mv rfl (by constructor)) ?_
                    refine aops_n rfl (n_eql rfl rfl rfl) ?_
                    refine aops_split (fun hs => ?_) (fun hs => ?_)
                    · have h5 := of_decide_eq_true hs
                      refine aops_n rfl (n_mv rfl (by constructor)) ?_
                      refine aops_n rfl (n_mv rfl (by constructor)) ?_
                      refine aops_n rfl (n_nilCheck_box rfl rfl) ?_
                      refine aops_n rfl (n_fieldAddr_box rfl rfl) ?_
                      try dsimp only [St.put]
                      refine aops_s rfl (s_load_own rfl rfl zG trivial (flatC_get (by assumption) rfl)) ?_
                      refine aops_n rfl (n_mv rfl (by constructor)) ?_
                      refine aops_n rfl (n_geq rfl rfl rfl) ?_
                      refine aops_n rfl (n_pt rfl rfl (by constructor)) ?_
                      refine aops_nil ?_
                      dsimp only [St.put]
                      refine hK25 _ ?_
                      refine aw_cond rfl (fun hc => ?_) (fun hc => ?_)
                      · have hge := of_decide_eq_true hc
                        have e5 : ((((R.take k).map (moveR cp l to (1 - l)) ++ R.drop k).set k { r with au := to }).set k { r with au := to, nu := r.nu - l + 1 }) = (R.take (k + 1)).map (moveR cp l to (1 - l)) ++ R.drop (k + 1) := by
                          rw [List.set_set, ← mv_step hr]
                          congr 1
                          simp only [moveR, h5, hge, decide_true, Bool.and_self, cond_true]
                          congr 1
                          omega
                        refine aw_region ?_
                        refine aops_n rfl (n_mv rfl (by constructor)) ?_
                        refine aops_n rfl (n_mv rfl (by constructor)) ?_
                        refine aops_n rfl (n_mv rfl (by constructor)) ?_
                        refine aops_n rfl (n_mv rfl (by constructor)) ?_
                        refine aops_n rfl (n_nilCheck_box rfl rfl) ?_
                        refine aops_n rfl (n_fieldAddr_box rfl rfl) ?_
                        try dsimp only [St.put]
                        refine aops_s rfl (s_load_own rfl rfl zG trivial (flatC_get (by assumption) rfl)) ?_
                        refine aops_n rfl (n_mv rfl (by constructor)) ?_
                        refine aops_n rfl (n_sub rfl rfl rfl (by omega)) ?_
                        refine aops_n rfl (n_add rfl rfl rfl (by omega)) ?_
                        refine aops_n rfl (n_nilCheck_box rfl rfl) ?_
                        refine aops_n rfl (n_fieldAddr_box rfl rfl) ?_
                        try dsimp only [St.put]
                        refine aops_e rfl (e_store_own1 (k := k) (j := 2) (z := r) (z' := { r with au := to }) rfl rfl rfl zG rfl rfl hz rfl (by decide) rfl ?_)
                        refine aops_n rfl (n_nilCheck_box rfl rfl) ?_
                        refine aops_n rfl (n_fieldAddr_box rfl rfl) ?_
                        try dsimp only [St.put]
                        refine aops_e rfl (e_store_own1 (k := k) (j := 3) (z := { r with au := to }) (z' := { r with au := to, nu := r.nu - l + 1 }) rfl rfl rfl zG rfl rfl (by rw [List.getElem?_set, if_pos rfl, if_pos (by rw [mv_len]; omega)]) rfl (by decide) rfl ?_)
                        refine aops_nil ?_
                        dsimp only [St.put]
                        refine hK23 _ ?_
                        refine aw_region ?_
                        refine aops_n rfl (n_mv rfl (by constructor)) ?_
                        refine aops_n rfl (n_add rfl rfl rfl (by omega)) ?_
                        refine aops_n rfl (n_as rfl (by constructor)) ?_
                        refine aops_nil ?_
                        dsimp only [St.put]
                        first
                          | (rw [e5]; exact ⟨(k + 1, wi + 1 + 1), by (dsimp only; omega), by (dsimp only; omega), ⟨⟨rfl, rfl⟩, zF, zB, zN, zX⟩⟩)
                          | (rw [mv_same hr hmv0]; exact ⟨(k + 1, wi), by (dsimp only; omega), by (dsimp only; omega), ⟨⟨rfl, rfl⟩, zF, zB, zN, zX⟩⟩)
                      · have hmv0 : moveR cp l to (1 - l) r = r := by
                          first
                          | (have := of_decide_eq_false hc; simp [moveR, this]; done)
                          | (simp [moveR, h5]; done)
                        refine aw_skip ?_
                        refine hK23 _ ?_
                        refine aw_region ?_
                        refine aops_n rfl (n_mv rfl (by constructor)) ?_
                        refine aops_n rfl (n_add rfl rfl rfl (by omega)) ?_
                        refine aops_n rfl (n_as rfl (by constructor)) ?_
                        refine aops_nil ?_
                        dsimp only [St.put]
                        first
                          | (rw [e5]; exact ⟨(k + 1, wi + 1 + 1), by (dsimp only; omega), by (dsimp only; omega), ⟨⟨rfl, rfl⟩, zF, zB, zN, zX⟩⟩)
                          | (rw [mv_same hr hmv0]; exact ⟨(k + 1, wi), by (dsimp only; omega), by (dsimp only; omega), ⟨⟨rfl, rfl⟩, zF, zB, zN, zX⟩⟩)
                    · have h5 := of_decide_eq_false hs
                      refine aops_n rfl (n_mv rfl (by constructor)) ?_
                      refine aops_skip rfl ?_
                      refine aops_skip rfl ?_
                      refine aops_skip rfl ?_
                      refine aops_skip rfl ?_
                      refine aops_skip rfl ?_
                      refine aops_skip rfl ?_
                      refine aops_n rfl (n_pf rfl rfl (by constructor)) ?_
                      refine aops_nil ?_
                      dsimp only [St.put]
                      refine hK25 _ ?_
                      refine aw_cond rfl (fun h => by cases h) (fun _ => ?_)
                      have hmv0 : moveR cp l to (1 - l) r = r := by
                        first
                        | (have := of_decide_eq_false hc; simp [moveR, this]; done)
                        | (simp [moveR, h5]; done)
                      refine aw_skip ?_
                      refine hK23 _ ?_
                      refine aw_region ?_
                      refine aops_n rfl (n_mv rfl (by constructor)) ?_
                      refine aops_n rfl (n_add rfl rfl rfl (by omega)) ?_
                      refine aops_n rfl (n_as rfl (by constructor)) ?_
                      refine aops_nil ?_
                      dsimp only [St.put]
                      first
                        | (rw [e5]; exact ⟨(k + 1, wi + 1 + 1), by (dsimp only; omega), by (dsimp only; omega), ⟨⟨rfl, rfl⟩, zF, zB, zN, zX⟩⟩)
                        | (rw [mv_same hr hmv0]; exact ⟨(k + 1, wi), by (dsimp only; omega), by (dsimp only; omega), ⟨⟨rfl, rfl⟩, zF, zB, zN, zX⟩⟩)
                  · replace hc := of_decide_eq_false hc
                    rw [mv_end (show R.length ≤ k by omega)]
                    refine aw_exit ?_
                    refine hK19 _ ?_
                    refine aw_seq_k fun K26 hK26 => ?_
                    refine aw_commit_own 13 (R.map (moveR cp l to (1 - l))) rfl zG rfl rfl (by simp) ?_
                    dsimp only
                    refine aw_region ?_
                    try dsimp only [St.put]
                    refine aops_s rfl (s_load_agg' rfl rfl (Enc.len _)) ?_
                    refine aops_n rfl (n_mv rfl (by constructor)) ?_
                    try dsimp only [St.put]
                    refine aops_e rfl (e_call_pure rfl rfl rfl (made_pure e (R.map (moveR cp l to (1 - l))) (by simpa using hRl) hmb) ?_)
                    refine aops_n rfl (n_extract rfl rfl rfl) ?_
                    refine aops_n rfl (n_extract rfl rfl rfl) ?_
                    try dsimp only [St.put]
                    refine aops_e rfl (e_store_all rfl rfl rfl zG rfl rfl (by rfl) ?_)
                    refine aops_n rfl (n_as rfl (by constructor)) ?_
                    refine aops_nil ?_
                    dsimp only [St.put]
                    refine hK26 _ ?_
                    refine aw_ret ?_
                    refine ends_v2 rfl (rv_box rfl zG (by rfl) (by first | exact List.cons_ne_nil _ _ | (simp; done) | (simp [putAt]; done)) rfl) (rv_tmp (by constructor)) zN zS ?_ ?_
                    · rw [hE, hL]
                      exact zW
                    · exact Wk.of_eq (vi hE.symm)
theorem Join_pure (t : TextD) (e : EditionD) (cp to : Int) : Pure Tryd.prog 27 [textC t, val e, .v (.int .i64 cp), .v (.int .i64 to)] (.tup [val (edIf e (joinEr t e cp to) (joinL t e cp to)), .v (.int .i64 (joinEr t e cp to))]) := by
  refine pure_of_body Tryd.func27 rfl (fun m => .tup (low_cons (val_low _ _) (low_cons .v low_nil))) fun G nx => ?_
  simp only [Tryd.ntmps27, List.length_cons, List.length_nil, Nat.reduceAdd, Nat.reduceSub]
  refine aw_lt fun hlt => ?_
  dsimp only at hlt
  refine aw_seq_k fun K1 hK1 => ?_
  refine aw_region ?_
  try dsimp only [St.put]
  refine aops_e rfl (e_box rfl rfl (by simp) ?_)
  try dsimp only [St.put]
  refine aops_e rfl (e_box rfl rfl (by simp) ?_)
  try dsimp only [St.put]
  refine aops_e rfl (e_allocC rfl ?_)
  refine aops_n rfl (n_as rfl (by constructor)) ?_
  refine aops_nil ?_
  dsimp only [St.put]
  refine hK1 _ ?_
  refine aw_seq_k fun K2 hK2 => ?_
  refine aw_seq_k fun K3 hK3 => ?_
  refine aw_region ?_
  try dsimp only [St.put]
  refine aops_s rfl (s_load_agg' rfl rfl rfl) ?_
  try dsimp only [St.put]
  refine aops_s rfl (s_load_agg' rfl rfl (Enc.len _)) ?_
  try dsimp only [St.put]
  refine aops_e rfl (e_call_pure rfl rfl rfl (sound2_pure t e) ?_)
  refine aops_n rfl (n_as rfl (by constructor)) ?_
  refine aops_nil ?_
  dsimp only [St.put]
  refine hK3 _ ?_
  refine aw_seq_k fun K4 hK4 => ?_
  refine aw_region ?_
  refine aops_n rfl (n_mv rfl (by constructor)) ?_
  refine aops_n rfl (n_neq rfl rfl rfl) ?_
  refine aops_nil ?_
  dsimp only [St.put]
  refine hK4 _ ?_
  refine aw_cond rfl (fun hc => ?_) (fun hc => ?_)
  · have h0 : ¬ soundEr t e = 0 := nd_t hc
    have hE : joinEr t e cp to = soundEr t e := by simp [joinEr, h0]
    have hD : edIf e (soundEr t e) (joinL t e cp to) = ⟨0, []⟩ := by simp [edIf, h0]
    refine aw_seq_k fun K5 hK5 => ?_
    refine aw_region ?_
    refine aops_n rfl (n_build rfl rfl) ?_
    refine aops_n rfl (n_mv rfl (by constructor)) ?_
    try dsimp only [St.put]
    refine aops_e rfl (e_store_all rfl rfl rfl zG rfl rfl (by rfl) ?_)
    refine aops_n rfl (n_as rfl (by constructor)) ?_
    refine aops_nil ?_
    dsimp only [St.put]
    refine hK5 _ ?_
    refine aw_ret ?_
    refine ends_v2 rfl (rv_box rfl zG (by rfl) (by first | exact List.cons_ne_nil _ _ | (simp; done) | (simp [putAt]; done)) rfl) (rv_tmp (by constructor)) zN zS ?_ ?_
    · rw [hE, hD]
      exact zW
    · exact Wk.of_eq (vi hE.symm)
  · have h0 : soundEr t e = 0 := nd_f hc
    have hS := soundEr_sound h0
    obtain ⟨ht, hl, he⟩ := checkEr_text (soundEr_check h0).1
    refine aw_skip ?_
    refine hK2 _ ?_
    refine aw_seq_k fun K6 hK6 => ?_
    refine aw_seq_k fun K7 hK7 => ?_
    refine aw_region ?_
    refine aops_n rfl (n_mv rfl (by constructor)) ?_
    try dsimp only [St.put]
    refine aops_e rfl (e_call_pure rfl rfl rfl (within2_pure _ _ _) ?_)
    refine aops_n rfl (n_not rfl rfl) ?_
    refine aops_split (fun hs => ?_) (fun hs => ?_)
    · have q1 : inB cp 1 999 = false := by simpa using hs
      refine aops_n rfl (n_mv rfl (by constructor)) ?_
      refine aops_skip rfl ?_
      refine aops_skip rfl ?_
      refine aops_skip rfl ?_
      refine aops_n rfl (n_pt rfl rfl (by constructor)) ?_
      refine aops_nil ?_
      dsimp only [St.put]
      refine hK7 _ ?_
      refine aw_cond rfl (fun _ => ?_) (fun h => by cases h)
      have hin : inAll 1 999 [cp, to] = false := by
        rw [inAll_two]
        (simp [q1]; done)
      have hE : joinEr t e cp to = 2 := by simp [joinEr, h0, hin]
      refine aw_seq_k fun K8 hK8 => ?_
      refine aw_region ?_
      refine aops_n rfl (n_build rfl rfl) ?_
      try dsimp only [St.put]
      refine aops_e rfl (e_store_all rfl rfl rfl zG rfl rfl (by rfl) ?_)
      refine aops_n rfl (n_as rfl (by constructor)) ?_
      refine aops_nil ?_
      dsimp only [St.put]
      refine hK8 _ ?_
      refine aw_ret ?_
      refine ends_v2 rfl (rv_box rfl zG (by rfl) (by first | exact List.cons_ne_nil _ _ | (simp; done) | (simp [putAt]; done)) rfl) (rv_tmp (by constructor)) zN zS ?_ ?_
      · rw [hE, show edIf e 2 (joinL t e cp to) = ⟨0, []⟩ from rfl]
        exact zW
      · exact Wk.of_eq (vi hE.symm)
    · have q1 : inB cp 1 999 = true := by simpa using hs
      refine aops_n rfl (n_mv rfl (by constructor)) ?_
      refine aops_n rfl (n_mv rfl (by constructor)) ?_
      try dsimp only [St.put]
      refine aops_e rfl (e_call_pure rfl rfl rfl (within2_pure _ _ _) ?_)
      refine aops_n rfl (n_not rfl rfl) ?_
      refine aops_split (fun hs => ?_) (fun hs => ?_)
      · have q3 : inB to 1 999 = false := by simpa using hs
        refine aops_n rfl (n_pf rfl rfl (by constructor)) ?_
        refine aops_nil ?_
        dsimp only [St.put]
        refine hK7 _ ?_
        refine aw_cond rfl (fun _ => ?_) (fun h => by cases h)
        have hin : inAll 1 999 [cp, to] = false := by
          rw [inAll_two]
          (simp [q1, q3]; done)
        have hE : joinEr t e cp to = 2 := by simp [joinEr, h0, hin]
        refine aw_seq_k fun K9 hK9 => ?_
        refine aw_region ?_
        refine aops_n rfl (n_build rfl rfl) ?_
        try dsimp only [St.put]
        refine aops_e rfl (e_store_all rfl rfl rfl zG rfl rfl (by rfl) ?_)
        refine aops_n rfl (n_as rfl (by constructor)) ?_
        refine aops_nil ?_
        dsimp only [St.put]
        refine hK9 _ ?_
        refine aw_ret ?_
        refine ends_v2 rfl (rv_box rfl zG (by rfl) (by first | exact List.cons_ne_nil _ _ | (simp; done) | (simp [putAt]; done)) rfl) (rv_tmp (by constructor)) zN zS ?_ ?_
        · rw [hE, show edIf e 2 (joinL t e cp to) = ⟨0, []⟩ from rfl]
          exact zW
        · exact Wk.of_eq (vi hE.symm)
      · have q3 : inB to 1 999 = true := by simpa using hs
        refine aops_n rfl (n_pf rfl rfl (by constructor)) ?_
        refine aops_nil ?_
        dsimp only [St.put]
        refine hK7 _ ?_
        refine aw_cond rfl (fun h => by cases h) (fun _ => ?_)
        have hin : inAll 1 999 [cp, to] = true := by rw [inAll_two, q1, q3]; rfl
        rw [inB_true] at q1 q3
        obtain ⟨R, hR⟩ : ∃ R, rowsT t e.ss = R := ⟨_, rfl⟩
        have hRl : R.length ≤ 60 := hR ▸ rowsT_all ht e.ss
        have hlast : ∀ c, Pure Tryd.prog 92 [lst R, .v (.int .i64 c)] (.v (.int .i64 (lastC t e.ss c))) := fun c => by rw [lastC, hR]; exact refLast_pure R c hRl
        have hbd0 := rowsT_bd ht he
        have hl1 := lastC_bd (t := t) he cp
        have hl2 := lastC_bd (t := t) he to
        have hnu : ∀ r ∈ R, r.au = cp → 1 ≤ r.nu := by
          rw [← hR]
          intro r hr hau
          obtain ⟨r1, r2⟩ := rows_spec hr
          cases hv : asOf e.ss (r.ch, r.ln) with
          | none => rw [hv] at r1; simp only [Option.getD_none] at r1; omega
          | some v => rw [hv] at r2; have := asOf_pos he hv; simp only [Option.getD_some] at r2; omega
        have hmb := move_bd ht he (c := cp) (l := 1) (to := to) (mo := lastC t e.ss to) (by omega) (by omega)
        have hms := move_same (t := t) he (c := cp) (l := 1) (to := to) (mo := lastC t e.ss to) (by omega) (by omega)
        rw [hR] at hbd0 hmb hms
        refine aw_skip ?_
        refine hK6 _ ?_
        refine aw_seq_k fun K10 hK10 => ?_
        refine aw_region ?_
        try dsimp only [St.put]
        refine aops_s rfl (s_load_agg' rfl rfl rfl) ?_
        try dsimp only [St.put]
        refine aops_s rfl (s_load_agg' rfl rfl (Enc.len _)) ?_
        try dsimp only [St.put]
        refine aops_e rfl (e_call_named rfl rfl rfl (rows_own t e ht hl he _ _) ?_)
        refine aops_n rfl (n_as rfl (by constructor)) ?_
        refine aops_nil ?_
        dsimp only [St.put]
        rw [hR]
        refine hK10 _ ?_
        refine aw_seq_k fun K11 hK11 => ?_
        refine aw_region ?_
        refine aops_n rfl (n_mv rfl (by constructor)) ?_
        refine aops_n rfl (n_mv rfl (by constructor)) ?_
        try dsimp only [St.put]
        refine aops_e rfl (e_call_read (as' := [lst R, .v (.int .i64 to)]) rfl rfl rfl (hlast to) ⟨.own R zG rfl rfl rfl, .low .v, trivial⟩ (flat_v _) ?_)
        refine aops_n rfl (n_as rfl (by constructor)) ?_
        refine aops_nil ?_
        dsimp only [St.put]
        refine hK11 _ ?_
        refine aw_seq_k fun K12 hK12 => ?_
        refine aw_seq_k fun K13 hK13 => ?_
        refine aw_region ?_
        refine aops_n rfl (n_mv rfl (by constructor)) ?_
        refine aops_n rfl (n_mv rfl (by constructor)) ?_
        try dsimp only [St.put]
        refine aops_e rfl (e_call_read (as' := [lst R, .v (.int .i64 cp)]) rfl rfl rfl (hlast cp) ⟨.own R zG rfl rfl rfl, .low .v, trivial⟩ (flat_v _) ?_)
        refine aops_n rfl (n_eql rfl rfl rfl) ?_
        refine aops_nil ?_
        dsimp only [St.put]
        refine hK13 _ ?_
        refine aw_cond rfl (fun hc => ?_) (fun hc => ?_)
        · have hE : joinEr t e cp to = 6 := by
            have := of_decide_eq_true hc
            simp [joinEr, h0, hin, this]
          refine aw_seq_k fun K14 hK14 => ?_
          refine aw_region ?_
          refine aops_n rfl (n_build rfl rfl) ?_
          try dsimp only [St.put]
          refine aops_e rfl (e_store_all rfl rfl rfl zG rfl rfl (by rfl) ?_)
          refine aops_n rfl (n_as rfl (by constructor)) ?_
          refine aops_nil ?_
          dsimp only [St.put]
          refine hK14 _ ?_
          refine aw_ret ?_
          refine ends_v2 rfl (rv_box rfl zG (by rfl) (by first | exact List.cons_ne_nil _ _ | (simp; done) | (simp [putAt]; done)) rfl) (rv_tmp (by constructor)) zN zS ?_ ?_
          · rw [hE, show edIf e 6 (joinL t e cp to) = ⟨0, []⟩ from rfl]
            exact zW
          · exact Wk.of_eq (vi hE.symm)
        · have hlt6 := of_decide_eq_false hc
          refine aw_skip ?_
          refine hK12 _ ?_
          refine aw_seq_k fun K15 hK15 => ?_
          refine aw_seq_k fun K16 hK16 => ?_
          refine aw_region ?_
          refine aops_n rfl (n_mv rfl (by constructor)) ?_
          refine aops_n rfl (n_mv rfl (by constructor)) ?_
          refine aops_n rfl (n_eql rfl rfl rfl) ?_
          refine aops_split (fun hs => ?_) (fun hs => ?_)
          · have h92 := of_decide_eq_true hs
            refine aops_n rfl (n_mv rfl (by constructor)) ?_
            refine aops_skip rfl ?_
            refine aops_skip rfl ?_
            refine aops_skip rfl ?_
            refine aops_skip rfl ?_
            refine aops_skip rfl ?_
            refine aops_skip rfl ?_
            refine aops_n rfl (n_pt rfl rfl (by constructor)) ?_
            refine aops_nil ?_
            dsimp only [St.put]
            refine hK16 _ ?_
            refine aw_cond rfl (fun _ => ?_) (fun h => by cases h)
            have hfull : (decide (cp = to) || decide (999 < lastC t e.ss cp + lastC t e.ss to)) = true := by
              (simp [h92]; done)
            have hE : joinEr t e cp to = 9 := by simp only [joinEr, h0, hin, hlt6, hfull, decide_true, decide_false, cond_true, cond_false]
            refine aw_seq_k fun K17 hK17 => ?_
            refine aw_region ?_
            refine aops_n rfl (n_build rfl rfl) ?_
            try dsimp only [St.put]
            refine aops_e rfl (e_store_all rfl rfl rfl zG rfl rfl (by rfl) ?_)
            refine aops_n rfl (n_as rfl (by constructor)) ?_
            refine aops_nil ?_
            dsimp only [St.put]
            refine hK17 _ ?_
            refine aw_ret ?_
            refine ends_v2 rfl (rv_box rfl zG (by rfl) (by first | exact List.cons_ne_nil _ _ | (simp; done) | (simp [putAt]; done)) rfl) (rv_tmp (by constructor)) zN zS ?_ ?_
            · rw [hE, show edIf e 9 (joinL t e cp to) = ⟨0, []⟩ from rfl]
              exact zW
            · exact Wk.of_eq (vi hE.symm)
          · have h92 := of_decide_eq_false hs
            refine aops_n rfl (n_mv rfl (by constructor)) ?_
            refine aops_n rfl (n_mv rfl (by constructor)) ?_
            refine aops_n rfl (n_mv rfl (by constructor)) ?_
            try dsimp only [St.put]
            refine aops_e rfl (e_call_read (as' := [lst R, .v (.int .i64 cp)]) rfl rfl rfl (hlast cp) ⟨.own R zG rfl rfl rfl, .low .v, trivial⟩ (flat_v _) ?_)
            refine aops_n rfl (n_mv rfl (by constructor)) ?_
            refine aops_n rfl (n_add rfl rfl rfl (by omega)) ?_
            refine aops_n rfl (n_gtr rfl rfl rfl) ?_
            refine aops_n rfl (n_pf rfl rfl (by constructor)) ?_
            refine aops_nil ?_
            dsimp only [St.put]
            refine hK16 _ ?_
            refine aw_cond rfl (fun hc => ?_) (fun hc => ?_)
            · have hfull : (decide (cp = to) || decide (999 < lastC t e.ss cp + lastC t e.ss to)) = true := by
                (have := of_decide_eq_true hc; simp [this]; done)
              have hE : joinEr t e cp to = 9 := by simp only [joinEr, h0, hin, hlt6, hfull, decide_true, decide_false, cond_true, cond_false]
              refine aw_seq_k fun K18 hK18 => ?_
              refine aw_region ?_
              refine aops_n rfl (n_build rfl rfl) ?_
              try dsimp only [St.put]
              refine aops_e rfl (e_store_all rfl rfl rfl zG rfl rfl (by rfl) ?_)
              refine aops_n rfl (n_as rfl (by constructor)) ?_
              refine aops_nil ?_
              dsimp only [St.put]
              refine hK18 _ ?_
              refine aw_ret ?_
              refine ends_v2 rfl (rv_box rfl zG (by rfl) (by first | exact List.cons_ne_nil _ _ | (simp; done) | (simp [putAt]; done)) rfl) (rv_tmp (by constructor)) zN zS ?_ ?_
              · rw [hE, show edIf e 9 (joinL t e cp to) = ⟨0, []⟩ from rfl]
                exact zW
              · exact Wk.of_eq (vi hE.symm)
            · have hfull : (decide (cp = to) || decide (999 < lastC t e.ss cp + lastC t e.ss to)) = false := by
                have := of_decide_eq_false hc
                simp [Ne.symm h92, this]
              have hE : joinEr t e cp to = madeEr (plainR (R.map (moveR cp 1 to (lastC t e.ss to)))) := by
                simp only [joinEr, h0, hin, hlt6, hfull, decide_true, decide_false, cond_true, cond_false, joinL, hms]
              have hL : joinL t e cp to = plainR (R.map (moveR cp 1 to (lastC t e.ss to))) := hms
              refine aw_skip ?_
              refine hK15 _ ?_
              refine aw_seq_k fun K19 hK19 => ?_
              refine aw_seq_k fun K20 hK20 => ?_
              refine aw_region ?_
              refine aops_n rfl (n_as rfl (by constructor)) ?_
              refine aops_nil ?_
              dsimp only [St.put]
              refine hK20 _ ?_
              refine aw_block ?_
              refine aw_wipe 15 ?_
              simp only [firsts, getA, Nat.reduceAdd, List.getD_cons_zero, List.getD_cons_succ, List.getD_nil, natBeq, Nat.reduceBEq, cond_true, cond_false]
              refine aw_forget ((setG (setG G nx (.box 0 [.v (.int .i64 0), .list [] .nil])) (nx + 1) (.arr R.length 0 159 5 R.length (flatC (((R.take 0).map (moveR cp 1 to (lastC t e.ss to)) ++ R.drop 0)))))) zX ?_
              dsimp only
              refine aw_loopD (X := Nat × Nat) (fun x => x.1 ≤ R.length) (fun x => R.length - x.1) (fun x => [(13, .v (.int .i64 (x.1 : Int))), (14, .any)]) (fun x G' => (setG (setG G nx (.box 0 [.v (.int .i64 0), .list [] .nil])) (nx + 1) (.arr R.length x.2 159 5 R.length (flatC (((R.take x.1).map (moveR cp 1 to (lastC t e.ss to)) ++ R.drop x.1)))))) (0, 0) rfl ?_ ?_ ?_ ?_ ?_ ?_
              · exact Nat.zero_le _
              · exact zF
              · exact zX
              · rintro ⟨k, wi⟩ hI
                exact zL
              · rintro ⟨k, wi⟩ hI
                exact zH
              · rintro ⟨k, wi⟩ hI
                dsimp only at hI ⊢
                refine aw_seq_k fun K21 hK21 => ?_
                refine aw_seq_k fun K22 hK22 => ?_
                refine aw_region ?_
                refine aops_n rfl (n_mv rfl (by constructor)) ?_
                refine aops_n rfl (n_mv rfl (by constructor)) ?_
                refine aops_n rfl (n_len_own rfl rfl) ?_
                refine aops_n rfl (n_lss rfl rfl rfl) ?_
                refine aops_nil ?_
                dsimp only [St.put]
                refine hK22 _ ?_
                refine aw_cond rfl (fun hc => ?_) (fun hc => ?_)
                · replace hc := of_decide_eq_true hc
                  obtain ⟨r, hr⟩ : ∃ x, R[k]? = some x := some_of_lt (by omega)
                  have hz := mv_get (f := moveR cp 1 to (lastC t e.ss to)) hr
                  obtain ⟨b1, b2, b3, b4⟩ := hbd0 r (mem_of_get hr)
                  refine aw_skip ?_
                  refine hK21 _ ?_
                  refine aw_seq_k fun K23 hK23 => ?_
                  refine aw_block ?_
                  refine aw_seq_k fun K24 hK24 => ?_
                  refine aw_region ?_
                  refine aops_n rfl (n_mv rfl (by constructor)) ?_
                  refine aops_n rfl (n_mv rfl (by constructor)) ?_
                  try dsimp only [St.put]
                  refine aops_n rfl (n_indexAddr_own (k := k) rfl rfl zG rfl (by first | exact rfl | omega) (by first | omega | (simp; omega))) ?_
                  refine aops_n rfl (n_as rfl (by constructor)) ?_
                  refine aops_nil ?_
                  dsimp only [St.put]
                  refine hK24 _ ?_
                  refine aw_seq_k fun K25 hK25 => ?_
                  refine aw_region ?_
                  refine aops_n rfl (n_mv rfl (by constructor)) ?_
                  refine aops_n rfl (n_nilCheck_box rfl rfl) ?_
                  refine aops_n rfl (n_fieldAddr_box rfl rfl) ?_
                  try dsimp only [St.put]
                  refine aops_s rfl (s_load_own rfl rfl zG trivial (flatC_get (by assumption) rfl)) ?_
                  refine aops_n rfl (n_mv rfl (by constructor)) ?_
                  refine aops_n rfl (n_eql rfl rfl rfl) ?_
                  refine aops_nil ?_
                  dsimp only [St.put]
                  refine hK25 _ ?_
                  refine aw_cond rfl (fun hc => ?_) (fun hc => ?_)
                  · have h5 := of_decide_eq_true hc
                    have hge := hnu r (mem_of_get hr) h5
                    have e5 : ((((R.take k).map (moveR cp 1 to (lastC t e.ss to)) ++ R.drop k).set k { r with au := to }).set k { r with au := to, nu := r.nu + lastC t e.ss to }) = (R.take (k + 1)).map (moveR cp 1 to (lastC t e.ss to)) ++ R.drop (k + 1) := by
                      rw [List.set_set, ← mv_step hr]
                      congr 1
                      simp only [moveR, h5, hge, decide_true, Bool.and_self, cond_true]
                    refine aw_region ?_
                    refine aops_n rfl (n_mv rfl (by constructor)) ?_
                    refine aops_n rfl (n_mv rfl (by constructor)) ?_
                    refine aops_n rfl (n_mv rfl (by constructor)) ?_
                    refine aops_n rfl (n_mv rfl (by constructor)) ?_
                    refine aops_n rfl (n_nilCheck_box rfl rfl) ?_
                    refine aops_n rfl (n_fieldAddr_box rfl rfl) ?_
                    try dsimp only [St.put]
                    refine aops_s rfl (s_load_own rfl rfl zG trivial (flatC_get (by assumption) rfl)) ?_
                    refine aops_n rfl (n_mv rfl (by constructor)) ?_
                    refine aops_n rfl (n_add rfl rfl rfl (by omega)) ?_
                    refine aops_n rfl (n_nilCheck_box rfl rfl) ?_
                    refine aops_n rfl (n_fieldAddr_box rfl rfl) ?_
                    try dsimp only [St.put]
                    refine aops_e rfl (e_store_own1 (k := k) (j := 2) (z := r) (z' := { r with au := to }) rfl rfl rfl zG rfl rfl hz rfl (by decide) rfl ?_)
                    refine aops_n rfl (n_nilCheck_box rfl rfl) ?_
                    refine aops_n rfl (n_fieldAddr_box rfl rfl) ?_
                    try dsimp only [St.put]
                    refine aops_e rfl (e_store_own1 (k := k) (j := 3) (z := { r with au := to }) (z' := { r with au := to, nu := r.nu + lastC t e.ss to }) rfl rfl rfl zG rfl rfl (by rw [List.getElem?_set, if_pos rfl, if_pos (by rw [mv_len]; omega)]) rfl (by decide) rfl ?_)
                    refine aops_nil ?_
                    dsimp only [St.put]
                    refine hK23 _ ?_
                    refine aw_region ?_
                    refine aops_n rfl (n_mv rfl (by constructor)) ?_
                    refine aops_n rfl (n_add rfl rfl rfl (by omega)) ?_
                    refine aops_n rfl (n_as rfl (by constructor)) ?_
                    refine aops_nil ?_
                    dsimp only [St.put]
                    first
                      | (rw [e5]; exact ⟨(k + 1, wi + 1 + 1), by (dsimp only; omega), by (dsimp only; omega), ⟨⟨rfl, rfl⟩, zF, zB, zN, zX⟩⟩)
                      | (rw [mv_same hr hmv0]; exact ⟨(k + 1, wi), by (dsimp only; omega), by (dsimp only; omega), ⟨⟨rfl, rfl⟩, zF, zB, zN, zX⟩⟩)
                  · have hmv0 : moveR cp 1 to (lastC t e.ss to) r = r := by
                      have := of_decide_eq_false hc
                      simp [moveR, this]
                    refine aw_skip ?_
                    refine hK23 _ ?_
                    refine aw_region ?_
                    refine aops_n rfl (n_mv rfl (by constructor)) ?_
                    refine aops_n rfl (n_add rfl rfl rfl (by omega)) ?_
                    refine aops_n rfl (n_as rfl (by constructor)) ?_
                    refine aops_nil ?_
                    dsimp only [St.put]
                    first
                      | (rw [e5]; exact ⟨(k + 1, wi + 1 + 1), by (dsimp only; omega), by (dsimp only; omega), ⟨⟨rfl, rfl⟩, zF, zB, zN, zX⟩⟩)
                      | (rw [mv_same hr hmv0]; exact ⟨(k + 1, wi), by (dsimp only; omega), by (dsimp only; omega), ⟨⟨rfl, rfl⟩, zF, zB, zN, zX⟩⟩)
                · replace hc := of_decide_eq_false hc
                  rw [mv_end (show R.length ≤ k by omega)]
                  refine aw_exit ?_
                  refine hK19 _ ?_
                  refine aw_seq_k fun K26 hK26 => ?_
                  refine aw_commit_own 11 (R.map (moveR cp 1 to (lastC t e.ss to))) rfl zG rfl rfl (by simp) ?_
                  dsimp only
                  refine aw_region ?_
                  try dsimp only [St.put]
                  refine aops_s rfl (s_load_agg' rfl rfl (Enc.len _)) ?_
                  refine aops_n rfl (n_mv rfl (by constructor)) ?_
                  try dsimp only [St.put]
                  refine aops_e rfl (e_call_pure rfl rfl rfl (made_pure e (R.map (moveR cp 1 to (lastC t e.ss to))) (by simpa using hRl) hmb) ?_)
                  refine aops_n rfl (n_extract rfl rfl rfl) ?_
                  refine aops_n rfl (n_extract rfl rfl rfl) ?_
                  try dsimp only [St.put]
                  refine aops_e rfl (e_store_all rfl rfl rfl zG rfl rfl (by rfl) ?_)
                  refine aops_n rfl (n_as rfl (by constructor)) ?_
                  refine aops_nil ?_
                  dsimp only [St.put]
                  refine hK26 _ ?_
                  refine aw_ret ?_
                  refine ends_v2 rfl (rv_box rfl zG (by rfl) (by first | exact List.cons_ne_nil _ _ | (simp; done) | (simp [putAt]; done)) rfl) (rv_tmp (by constructor)) zN zS ?_ ?_
                  · rw [hE, hL]
                    exact zW
                  · exact Wk.of_eq (vi hE.symm)
end Go.Proofs.YtolcenpmgmpmkaaDoor
