/-
 The iterator over all places of a text, with their words.
-/
import Derived.Test.YtejhjijbgceklaaGreatDoorEngB
import Derived.Test.YtejhjijbgceklaaGreatDoorItData
import Derived.Test.YtejhjijbgceklaaGreatDoorAbTypes
namespace Go.Proofs.YtejhjijbgceklaaGreatDoor
set_option maxRecDepth 10000
open Go.RowKit Go.AB
open Go.PB (Chap TextD PlaceD ReadingD CopyD WayD)

theorem all_iter (t : TextD) : IterOk Tryz.prog 79 [.elem [.elem [lst t]]] (allP t) encP := by
 refine iterOk_of_body Tryz.func79 rfl rfl (by simp [C.one]) fun E W lb lx J Jx hr ok => ?_
 simp only [Tryz.ntmps79]
 -- not used: know 2.1, know 5.1
 obtain ⟨b, rfl⟩ : ∃ b, lb = [b] := by
  match lb, hr with
  | [b], _ => exact ⟨b, rfl⟩
  | [], hr => exact absurd hr.1 (by simp)
  | _ :: _ :: _, hr => exact absurd hr.1 (by simp)
 obtain ⟨vs1, h1, hq1⟩ := (hr.2 0 _ _ rfl rfl).elem_exact
 obtain ⟨v1, rfl⟩ : ∃ v, vs1 = [v] := by
  match vs1, hq1 with
  | [b], _ => exact ⟨b, rfl⟩
  | [], hr => exact absurd hr.1 (by simp)
  | _ :: _ :: _, hr => exact absurd hr.1 (by simp)
 obtain ⟨vs2, h2, hq2⟩ := (hq1.2 0 _ _ rfl rfl).elem_exact
 obtain ⟨V, rfl⟩ : ∃ v, vs2 = [v] := by
  match vs2, hq2 with
  | [b], _ => exact ⟨b, rfl⟩
  | [], hr => exact absurd hr.1 (by simp)
  | _ :: _ :: _, hr => exact absurd hr.1 (by simp)
 have h3 := hq2.2 0 _ _ rfl rfl
 have k1 : Known E.L W b (.elem [.v v1]) := Known.of (E := E.drop 0) rfl (h1.drop (.elem fun c hc => by simp at hc; subst hc; exact .v))
 have k2 : Known E.L W v1 (.elem [.v V]) := Known.of (E := E.drop 0) rfl (h2.drop (.elem fun c hc => by simp at hc; subst hc; exact .v))
 obtain ⟨lv, wv, hX⟩ := textX_of (E := E.drop 0) rfl (h3.drop (lst_low _ _))
 dsimp only [List.length_cons, List.length_nil, List.map_cons, List.map_nil, Nat.reduceAdd, Nat.reduceSub]
 replace hX : TextX E.L W t V lv wv := hX
 have htl := hX.len
 refine iw_seq_k fun K1 hK1 => ?_
 refine iw_seg ok [(b, .elem [.v v1]), (v1, .elem [.v V]), (V, .list (t.mapIdx fun k c => [.v (.int .i64 c.id), .v (lv k)]) .none)] (facts_cons k1 (facts_cons k2 (facts_cons hX.top facts_nil))) ?_
 dsimp only [segSt]
 refine aw_region ?_
 try dsimp only [St.put]
 first | refine aops_s rfl (sstep_know 1 0 rfl rfl (s_load rfl rfl)) ?_ | refine aops_s rfl (sstep_know 1 0 rfl rfl (s_load_agg' rfl rfl (Enc.len _))) ?_ | refine aops_s rfl (sstep_know 1 0 rfl rfl (s_load_agg' rfl rfl rfl)) ?_ | refine aops_s rfl (sstep_know 1 0 rfl rfl (s_load_box rfl rfl zG trivial (by first | rfl | assumption))) ?_ | refine aops_s rfl (sstep_know 1 0 rfl rfl (s_load_box_all rfl rfl zG trivial (by rfl))) ?_ | refine aops_s rfl (sstep_know 1 0 rfl rfl (s_load_box_agg rfl rfl zG trivial (by simp))) ?_ | refine aops_s rfl (sstep_know 1 0 rfl rfl (s_load_own rfl rfl zG trivial (flatC_get (by assumption) rfl))) ?_ | refine aops_s rfl (sstep_know 1 0 rfl rfl (s_load_own rfl rfl zG trivial (by assumption))) ?_ | refine aops_s rfl (sstep_know 1 0 rfl rfl (s_load_own_row rfl rfl zG trivial rfl (by assumption) rfl (by decide))) ?_ | refine aops_s rfl (sstep_know 1 0 rfl rfl (s_load_fact rfl rfl zG (by rfl))) ?_
 first | refine aops_n rfl (nstep_know 9 1 rfl rfl (n_nilCheck rfl rfl)) ?_ | refine aops_n rfl (nstep_know 9 1 rfl rfl (n_nilCheck_box rfl rfl)) ?_ | refine aops_n rfl (nstep_know 9 1 rfl rfl (n_nilCheck_fn rfl rfl)) ?_
 first | refine aops_n rfl (n_fieldAddr' rfl rfl rfl) ?_ | refine aops_n rfl (n_fieldAddr_box rfl rfl) ?_
 first | refine aops_n rfl (n_fieldAddr' rfl rfl rfl) ?_ | refine aops_n rfl (n_fieldAddr_box rfl rfl) ?_
 try dsimp only [St.put]
 first | refine aops_s rfl (s_load rfl rfl) ?_ | refine aops_s rfl (s_load_agg' rfl rfl (Enc.len _)) ?_ | refine aops_s rfl (s_load_agg' rfl rfl rfl) ?_ | refine aops_s rfl (s_load_box rfl rfl zG trivial (by first | rfl | assumption)) ?_ | refine aops_s rfl (s_load_box_all rfl rfl zG trivial (by rfl)) ?_ | refine aops_s rfl (s_load_box_agg rfl rfl zG trivial (by simp)) ?_ | refine aops_s rfl (s_load_own rfl rfl zG trivial (flatC_get (by assumption) rfl)) ?_ | refine aops_s rfl (s_load_own rfl rfl zG trivial (by assumption)) ?_ | refine aops_s rfl (s_load_own_row rfl rfl zG trivial rfl (by assumption) rfl (by decide)) ?_ | refine aops_s rfl (s_load_fact rfl rfl zG (by rfl)) ?_
 refine aops_n rfl (nstep_know 13 2 rfl rfl (n_len' (k := t.length) rfl rfl List.length_mapIdx)) ?_
 refine aops_n rfl (n_mv rfl (by constructor)) ?_
 refine aops_nil ?_
 refine ⟨rfl, ?_⟩
 dsimp only [St.put, exSt, List.map, exC]
 refine hK1 _ _ ?_
 refine iw_block ?_
 refine iw_wipe 16 ?_
 simp only [firsts, getA, Nat.reduceAdd, List.getD_cons_zero, List.getD_cons_succ, List.getD_nil, natBeq, Nat.reduceBEq, cond_true, cond_false]
 refine iw_loop (X := Nat) (fun k => k ≤ t.length) (fun k => t.length - k) (fun k => [(15, .v (.int .i64 (k : Int)))]) (fun k => (false, allP (t.take k))) 0 rfl ?_ ?_ ?_ ?_
 ·exact Nat.zero_le _
 ·exact zF
 ·rfl
 ·rintro k hI
  dsimp only at hI ⊢
  refine iw_seq_k fun K2 hK2 => ?_
  refine iw_seg ok [] (fun p hp => by cases hp) ?_
  dsimp only [segSt]
  refine aw_region ?_
  refine aops_n rfl (n_lss rfl rfl rfl) ?_
  refine aops_nil ?_
  refine ⟨rfl, ?_⟩
  dsimp only [St.put, exSt, List.map, exC]
  refine hK2 _ _ ?_
  refine iw_seq_k fun K3 hK3 => ?_
  refine iw_cond rfl (fun hc => ?_) (fun hc => ?_)
  ·replace hc := of_decide_eq_true hc
   obtain ⟨c, hk⟩ : ∃ c, t[k]? = some c := ⟨_, List.getElem?_eq_getElem (by omega)⟩
   have hk' : (t.mapIdx fun k c => [C.v (.int .i64 c.id), C.v (lv k)])[k]? = some [.v (.int .i64 c.id), .v (lv k)] := by rw [List.getElem?_mapIdx, hk]; rfl
   obtain ⟨hl1, hl2⟩ := hX.lines k c hk
   refine iw_skip ?_
   refine hK3 _ _ ?_
   refine iw_seq_k fun K4 hK4 => ?_
   refine iw_block ?_
   refine iw_seg2 ok [(V, .list (t.mapIdx fun k c => [.v (.int .i64 c.id), .v (lv k)]) .none), (lv k, .list (c.lines.mapIdx fun n _ => [.v (wv k n)]) .none)] (facts_cons hX.top (facts_cons hl1 facts_nil)) ?_
   dsimp only [segSt]
   refine aw_region ?_
   refine aops_n rfl (n_mv rfl (by constructor)) ?_
   try dsimp only [St.put]
   refine aops_n rfl (nstep_know 13 0 rfl rfl (n_indexAddr (k := k) rfl rfl rfl rfl hk' rfl)) ?_
   try dsimp only [St.put]
   first | refine aops_s rfl (s_load rfl rfl) ?_ | refine aops_s rfl (s_load_agg' rfl rfl (Enc.len _)) ?_ | refine aops_s rfl (s_load_agg' rfl rfl rfl) ?_ | refine aops_s rfl (s_load_box rfl rfl zG trivial (by first | rfl | assumption)) ?_ | refine aops_s rfl (s_load_box_all rfl rfl zG trivial (by rfl)) ?_ | refine aops_s rfl (s_load_box_agg rfl rfl zG trivial (by simp)) ?_ | refine aops_s rfl (s_load_own rfl rfl zG trivial (flatC_get (by assumption) rfl)) ?_ | refine aops_s rfl (s_load_own rfl rfl zG trivial (by assumption)) ?_ | refine aops_s rfl (s_load_own_row rfl rfl zG trivial rfl (by assumption) rfl (by decide)) ?_ | refine aops_s rfl (s_load_fact rfl rfl zG (by rfl)) ?_
   try dsimp only [St.put]
   refine aops_e rfl (e_allocC rfl ?_)
   refine aops_n rfl (n_as rfl (by constructor)) ?_
   try dsimp only [St.put]
   first | refine aops_e rfl (e_store_all rfl rfl rfl zG rfl rfl (by rfl) ?_) | refine aops_e rfl (e_store_one rfl rfl rfl zG (by constructor) rfl (by first | (simp; done) | (simp; omega) | exact Nat.lt_of_lt_of_eq (by decide) (Enc.len _).symm) ?_)
   refine aops_nil ?_
   dsimp only [St.put]
   refine aw_region ?_
   first | refine aops_n rfl (n_fieldAddr' rfl rfl rfl) ?_ | refine aops_n rfl (n_fieldAddr_box rfl rfl) ?_
   try dsimp only [St.put]
   first | refine aops_s rfl (s_load rfl rfl) ?_ | refine aops_s rfl (s_load_agg' rfl rfl (Enc.len _)) ?_ | refine aops_s rfl (s_load_agg' rfl rfl rfl) ?_ | refine aops_s rfl (s_load_box rfl rfl zG trivial (by first | rfl | assumption)) ?_ | refine aops_s rfl (s_load_box_all rfl rfl zG trivial (by rfl)) ?_ | refine aops_s rfl (s_load_box_agg rfl rfl zG trivial (by simp)) ?_ | refine aops_s rfl (s_load_own rfl rfl zG trivial (flatC_get (by assumption) rfl)) ?_ | refine aops_s rfl (s_load_own rfl rfl zG trivial (by assumption)) ?_ | refine aops_s rfl (s_load_own_row rfl rfl zG trivial rfl (by assumption) rfl (by decide)) ?_ | refine aops_s rfl (s_load_fact rfl rfl zG (by rfl)) ?_
   refine aops_n rfl (nstep_know 21 1 rfl rfl (n_len' (k := c.lines.length) rfl rfl List.length_mapIdx)) ?_
   refine aops_n rfl (n_mv rfl (by constructor)) ?_
   refine aops_nil ?_
   refine ⟨rfl, ?_⟩
   dsimp only [St.put, exSt, List.map, exC]
   refine iw_block ?_
   refine iw_wipe 24 ?_
   simp only [firsts, getA, Nat.reduceAdd, List.getD_cons_zero, List.getD_cons_succ, List.getD_nil, natBeq, Nat.reduceBEq, cond_true, cond_false]
   refine iw_loop (X := Nat) (fun n => n ≤ c.lines.length) (fun n => c.lines.length - n) (fun n => [(23, .v (.int .i64 (n : Int)))]) (fun n => (false, allP (t.take k) ++ chapP k (c.lines.take n))) 0 rfl ?_ ?_ ?_ ?_
   ·exact Nat.zero_le _
   ·exact zF
   ·simp [chapP]
   ·rintro n hI
    dsimp only at hI ⊢
    refine iw_seq_k fun K6 hK6 => ?_
    refine iw_seg ok [] (fun p hp => by cases hp) ?_
    dsimp only [segSt]
    refine aw_region ?_
    refine aops_n rfl (n_lss rfl rfl rfl) ?_
    refine aops_nil ?_
    refine ⟨rfl, ?_⟩
    dsimp only [St.put, exSt, List.map, exC]
    refine hK6 _ _ ?_
    refine iw_seq_k fun K7 hK7 => ?_
    refine iw_cond rfl (fun hc => ?_) (fun hc => ?_)
    ·replace hc := of_decide_eq_true hc
     obtain ⟨l, hn⟩ : ∃ l, c.lines[n]? = some l := ⟨_, List.getElem?_eq_getElem (by omega)⟩
     have hn' : (c.lines.mapIdx fun n _ => [C.v (wv k n)])[n]? = some [.v (wv k n)] := by rw [List.getElem?_mapIdx, hn]; rfl
     obtain ⟨hw1, hw2⟩ := hX.words k c n l hk hn
     refine iw_skip ?_
     refine hK7 _ _ ?_
     refine iw_seq_k fun K8 hK8 => ?_
     refine iw_block ?_
     refine iw_seq_k fun K9 hK9 => ?_
     refine iw_seg ok [(lv k, .list (c.lines.mapIdx fun n _ => [.v (wv k n)]) .none)] (facts_cons hl1 facts_nil) ?_
     dsimp only [segSt]
     refine aw_region ?_
     refine aops_n rfl (n_mv rfl (by constructor)) ?_
     try dsimp only [St.put]
     refine aops_n rfl (nstep_know 21 0 rfl rfl (n_indexAddr (k := n) rfl rfl rfl rfl hn' rfl)) ?_
     try dsimp only [St.put]
     first | refine aops_s rfl (s_load rfl rfl) ?_ | refine aops_s rfl (s_load_agg' rfl rfl (Enc.len _)) ?_ | refine aops_s rfl (s_load_agg' rfl rfl rfl) ?_ | refine aops_s rfl (s_load_box rfl rfl zG trivial (by first | rfl | assumption)) ?_ | refine aops_s rfl (s_load_box_all rfl rfl zG trivial (by rfl)) ?_ | refine aops_s rfl (s_load_box_agg rfl rfl zG trivial (by simp)) ?_ | refine aops_s rfl (s_load_own rfl rfl zG trivial (flatC_get (by assumption) rfl)) ?_ | refine aops_s rfl (s_load_own rfl rfl zG trivial (by assumption)) ?_ | refine aops_s rfl (s_load_own_row rfl rfl zG trivial rfl (by assumption) rfl (by decide)) ?_ | refine aops_s rfl (s_load_fact rfl rfl zG (by rfl)) ?_
     refine aops_n rfl (n_as rfl (by constructor)) ?_
     refine aops_n rfl (n_as rfl (by constructor)) ?_
     refine aops_nil ?_
     refine ⟨rfl, ?_⟩
     dsimp only [St.put, exSt, List.map, exC]
     refine hK9 _ _ ?_
     refine iw_seq_k fun K10 hK10 => ?_
     refine iw_seg ok [(wv k n, lst l)] (facts_cons hw1 facts_nil) ?_
     dsimp only [segSt]
     refine aw_region ?_
     refine aops_n rfl (n_mv rfl (by constructor)) ?_
     first | refine aops_n rfl (nstep_know 28 0 rfl rfl (n_len' rfl rfl (List.length_map _))) ?_ | refine aops_n rfl (nstep_know 28 0 rfl rfl (n_len' rfl rfl rfl)) ?_ | refine aops_n rfl (nstep_know 28 0 rfl rfl (n_lenstr' rfl rfl)) ?_ | refine aops_n rfl (nstep_know 28 0 rfl rfl (n_len_arr rfl rfl)) ?_ | refine aops_n rfl (nstep_know 28 0 rfl rfl (n_len_own rfl rfl)) ?_ | refine aops_n rfl (nstep_know 28 0 rfl rfl (n_len_v rfl rfl (by omega))) ?_
     refine aops_n rfl (n_mv rfl (by constructor)) ?_
     refine aops_nil ?_
     refine ⟨rfl, ?_⟩
     dsimp only [St.put, exSt, List.map, exC]
     refine hK10 _ _ ?_
     refine iw_block ?_
     refine iw_wipe 31 ?_
     simp only [firsts, getA, Nat.reduceAdd, List.getD_cons_zero, List.getD_cons_succ, List.getD_nil, natBeq, Nat.reduceBEq, cond_true, cond_false]
     refine iw_loop (X := Nat) (fun w => w ≤ l.length) (fun w => l.length - w) (fun w => [(30, .v (.int .i64 (w : Int)))]) (fun w => (false, allP (t.take k) ++ chapP k (c.lines.take n) ++ lineP k n (l.take w))) 0 rfl ?_ ?_ ?_ ?_
     ·exact Nat.zero_le _
     ·exact zF
     ·simp [lineP]
     ·rintro w hI
      dsimp only at hI ⊢
      refine iw_seq_k fun K11 hK11 => ?_
      refine iw_seg ok [] (fun p hp => by cases hp) ?_
      dsimp only [segSt]
      refine aw_region ?_
      refine aops_n rfl (n_lss rfl rfl rfl) ?_
      refine aops_nil ?_
      refine ⟨rfl, ?_⟩
      dsimp only [St.put, exSt, List.map, exC]
      refine hK11 _ _ ?_
      refine iw_seq_k fun K12 hK12 => ?_
      refine iw_cond rfl (fun hc => ?_) (fun hc => ?_)
      ·replace hc := of_decide_eq_true hc
       obtain ⟨s, hw⟩ : ∃ s, l[w]? = some s := ⟨_, List.getElem?_eq_getElem (by omega)⟩
       have hpre := upP_prefix hk hn (w + 1)
       rw [lineP_succ k n hw, ← List.append_assoc] at hpre
       refine iw_skip ?_
       refine hK12 _ _ ?_
       refine iw_seq_k fun K13 hK13 => ?_
       refine iw_block ?_
       refine iw_seq_k fun K14 hK14 => ?_
       refine iw_seg ok [(wv k n, lst l)] (facts_cons hw1 facts_nil) ?_
       dsimp only [segSt]
       refine aw_region ?_
       refine aops_n rfl (n_mv rfl (by constructor)) ?_
       try dsimp only [St.put]
       first | refine aops_n rfl (nstep_know 28 0 rfl rfl (n_indexAddr rfl rfl rfl rfl (map_get (by assumption)) (Enc.len _))) ?_ | refine aops_n rfl (nstep_know 28 0 rfl rfl (n_indexAddr rfl rfl rfl rfl (by assumption) rfl)) ?_ | refine aops_n rfl (nstep_know 28 0 rfl rfl (n_indexAddr_arr1 rfl rfl rfl (by first | exact idx_succ _ | exact rfl) (by omega))) ?_ | refine aops_n rfl (nstep_know 28 0 rfl rfl (n_indexAddr rfl rfl rfl (by omega) (map_get (by assumption)) (Enc.len _))) ?_
       try dsimp only [St.put]
       first | refine aops_s rfl (s_load rfl rfl) ?_ | refine aops_s rfl (s_load_agg' rfl rfl (Enc.len _)) ?_ | refine aops_s rfl (s_load_agg' rfl rfl rfl) ?_ | refine aops_s rfl (s_load_box rfl rfl zG trivial (by first | rfl | assumption)) ?_ | refine aops_s rfl (s_load_box_all rfl rfl zG trivial (by rfl)) ?_ | refine aops_s rfl (s_load_box_agg rfl rfl zG trivial (by simp)) ?_ | refine aops_s rfl (s_load_own rfl rfl zG trivial (flatC_get (by assumption) rfl)) ?_ | refine aops_s rfl (s_load_own rfl rfl zG trivial (by assumption)) ?_ | refine aops_s rfl (s_load_own_row rfl rfl zG trivial rfl (by assumption) rfl (by decide)) ?_ | refine aops_s rfl (s_load_fact rfl rfl zG (by rfl)) ?_
       refine aops_n rfl (n_as rfl (by constructor)) ?_
       refine aops_n rfl (n_as rfl (by constructor)) ?_
       refine aops_nil ?_
       refine ⟨rfl, ?_⟩
       dsimp only [St.put, exSt, List.map, exC]
       refine hK14 _ _ ?_
       refine iw_seq_k fun K15 hK15 => ?_
       refine iw_region ?_
       refine iops_n rfl (n_mv rfl (by constructor)) ?_
       refine iops_n rfl (n_mv rfl (by constructor)) ?_
       refine iops_n rfl (n_mv rfl (by constructor)) ?_
       refine iops_n rfl (n_mv rfl (by constructor)) ?_
       refine iops_n rfl (n_build rfl rfl) ?_
       refine iops_n rfl (n_mv rfl (by constructor)) ?_
       try dsimp only [St.put]
       refine iops_yield ok (x := ((⟨k, n, w⟩, s) : PW)) (hpre.subset (by simp)) rfl rfl rfl rfl (fun E W vs h => encP_of h) (Nat.lt_of_lt_of_le (by simp) hpre.length_le) ?_ ?_
       ·refine iops_n rfl (n_not rfl rfl) ?_
        refine iops_nil ?_
        dsimp only [St.put]
        refine hK15 _ _ ?_
        refine iw_cond rfl (fun h => by cases h) (fun _ => ?_)
        refine iw_skip ?_
        refine hK13 _ _ ?_
        refine iw_seg ok [] (fun p hp => by cases hp) ?_
        dsimp only [segSt]
        refine aw_region ?_
        first | refine aops_n rfl (n_add rfl rfl rfl (by omega)) ?_ | refine aops_n rfl (n_addw rfl rfl rfl) ?_
        refine aops_n rfl (n_mv rfl (by constructor)) ?_
        refine aops_nil ?_
        refine ⟨rfl, ?_⟩
        dsimp only [St.put, exSt, List.map, exC]
        exact ⟨w + 1, by omega, by omega, by rw [lineP_succ k n hw, List.append_assoc], rfl, rfl, ⟨⟨rfl, rfl⟩, zF, zB, zN, zX⟩⟩
       ·dsimp only [St.put, exSt, List.map, exC]
        refine iops_n rfl (n_not rfl rfl) ?_
        refine iops_nil ?_
        dsimp only [St.put]
        refine hK15 _ _ ?_
        refine iw_cond rfl (fun _ => ?_) (fun h => by cases h)
        refine iw_ret ?_
        exact idone_ret (st := ⟨0, [], [], noG, 0, 0⟩) hpre
      ·replace hc := of_decide_eq_false hc
       obtain rfl : w = l.length := by omega
       refine iw_exit ?_
       refine hK8 _ _ ?_
       refine iw_seg ok [] (fun p hp => by cases hp) ?_
       dsimp only [segSt]
       refine aw_region ?_
       first | refine aops_n rfl (n_add rfl rfl rfl (by omega)) ?_ | refine aops_n rfl (n_addw rfl rfl rfl) ?_
       refine aops_n rfl (n_mv rfl (by constructor)) ?_
       refine aops_nil ?_
       refine ⟨rfl, ?_⟩
       dsimp only [St.put, exSt, List.map, exC]
       exact ⟨n + 1, by omega, by omega, by rw [chapP_succ k hn, List.take_length, List.append_assoc], rfl, rfl, ⟨⟨rfl, rfl⟩, zF, zB, zN, zX⟩⟩
    ·replace hc := of_decide_eq_false hc
     obtain rfl : n = c.lines.length := by omega
     refine iw_exit ?_
     refine hK4 _ _ ?_
     refine iw_seg ok [] (fun p hp => by cases hp) ?_
     dsimp only [segSt]
     refine aw_region ?_
     first | refine aops_n rfl (n_add rfl rfl rfl (by omega)) ?_ | refine aops_n rfl (n_addw rfl rfl rfl) ?_
     refine aops_n rfl (n_mv rfl (by constructor)) ?_
     refine aops_nil ?_
     refine ⟨rfl, ?_⟩
     dsimp only [St.put, exSt, List.map, exC]
     exact ⟨k + 1, by omega, by omega, by rw [allP_succ hk, List.take_length], rfl, rfl, ⟨⟨rfl, rfl⟩, zF, zB, zN, zX⟩⟩
  ·replace hc := of_decide_eq_false hc
   obtain rfl : k = t.length := by omega
   refine iw_exit ?_
   exact idone_normal (st := ⟨0, [], [], noG, 0, 0⟩) (by rw [List.take_length])
end Go.Proofs.YtejhjijbgceklaaGreatDoor
