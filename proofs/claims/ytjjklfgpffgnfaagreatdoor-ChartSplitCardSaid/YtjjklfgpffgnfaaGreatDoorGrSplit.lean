/-
 The law ChartSplit: its walk.
-/
import Derived.Test.YtjjklfgpffgnfaaGreatDoorGpFewest
namespace Go.AB
open Go Go.RowKit
open Go.AB.Enc (cells)
open Go.PB (Chap TextD PlaceD ReadingD CopyD WayD)
section
variable {t : TextD} {e : EditionD} {p : PlaceD} {c l to : Int}
theorem splitE_no (h : soundEr t e = 0) (h0 : splitEr t e c l to ≠ 0) : splitEr t e c l to = 2 ∨ splitEr t e c l to = 6 ∨ splitEr t e c l to = 9 := by
 unfold splitEr madeEr at h0 ⊢
 rw [h] at h0 ⊢
 revert h0
 cases inAll 1 999 [c, l, to] <;> cases decide (lastC t e.ss c < l) <;> cases (decide (c = to) || decide (0 < lastC t e.ss to)) <;> cases decide (12 < (splitL t e c l to).length) <;> simp
structure SplitOk (t : TextD) (e : EditionD) (c l to : Int) (S : List StretchD) : Prop where
 bc : 1 ≤ c ∧ c ≤ 999
 bl : 1 ≤ l ∧ l ≤ 999
 bt : 1 ≤ to ∧ to ≤ 999
 some : l ≤ lastC t e.ss c
 ne : c ≠ to
 free : lastC t e.ss to = 0
 val : splitV t e c l to = ⟨e.id, S⟩
 so : Sound t S
 mp : asOf S = moveF (asOf e.ss) c l to (1 - l)
theorem splitE_yes (h : soundEr t e = 0) (h0 : splitEr t e c l to = 0) : SplitOk t e c l to (splitL t e c l to) := by
 have hS := soundEr_sound h
 have hV : splitV t e c l to = ⟨e.id, splitL t e c l to⟩ := by unfold splitV edIf; rw [h0]; rfl
 unfold splitEr at h0
 rw [h] at h0
 cases h1 : inAll 1 999 [c, l, to] with
 | false => rw [h1] at h0; simp at h0
 | true =>
  rw [h1] at h0
  rw [inAll_three, Bool.and_eq_true, Bool.and_eq_true, inB_true, inB_true, inB_true] at h1
  obtain ⟨c1, c2, c3⟩ := h1
  simp only [decide_true, cond_true] at h0
  cases h2 : decide (lastC t e.ss c < l) with
  | true => rw [h2] at h0; simp at h0
  | false =>
   rw [h2] at h0
   cases h3 : (decide (c = to) || decide (0 < lastC t e.ss to)) with
   | true => rw [h3] at h0; simp at h0
   | false =>
    rw [h3] at h0
    simp only [cond_false] at h0
    simp only [Bool.or_eq_false_iff, decide_eq_false_iff_not] at h3
    have h4 := (lastC_bd (t := t) hS.ok to).1
    have h5 := of_decide_eq_false h2
    have hM : MapOkF t (moveF (asOf e.ss) c l to (1 - l)) := mapOk_move hS c3 h3.1 (fun k hk => by omega) fun p k hk hl => by
     have := (mapOk_as hS).bd _ _ hk
     dsimp only at this
     omega
    exact ⟨c1, c2, c3, by omega, h3.1, by omega, hV, plain_sound hS.tx hM (made_len h0), plain_asOf hM⟩
/-- what is split off and joined again is where it was, if what was left ends ahead of it -/
theorem split_back (h : soundEr t e = 0) {S : List StretchD} (hk : SplitOk t e c l to S) (hl : lastC t S c = l - 1) : joinEr t ⟨e.id, S⟩ to c = 0 ∧ joinV t ⟨e.id, S⟩ to c = plainE t e := by
 have hS := soundEr_sound h
 have hy : soundEr t ⟨e.id, S⟩ = 0 := soundEr_of hk.so (sound_id h)
 have hf := plain_few h
 have kc := hk.bc
 have kl := hk.bl
 have kt := hk.bt
 have mx := last_of hS (c := c) (by omega)
 have mt := last_of hS (c := to) (by omega)
 have my := last_of hk.so (c := to) (by omega)
 have hnone : ∀ p v, asOf e.ss p = some v → v.1 ≠ to := fun p v hv ht => by
  have h1 := mt.all v.2 ⟨p, by rw [hv, ← ht]⟩
  have h2 := (mapOk_as hS).bd p v hv
  have h3 := hk.free
  omega
 have hmv : ∀ p k, asOf S p = some (to, k) → ∃ n, asOf e.ss p = some (c, n) ∧ l ≤ n ∧ k = n + (1 - l) := fun p k hp => by
  rw [hk.mp] at hp
  obtain ⟨u, hu, he⟩ := moveF_some.1 hp
  by_cases a : u.1 = c ∧ l ≤ u.2
  ·rw [moveO_yes a] at he
   simp only [Prod.mk.injEq, true_and] at he
   exact ⟨u.2, by rw [hu, ← a.1], a.2, he⟩
  rw [moveO_no a] at he
  exact absurd (congrArg Prod.fst he).symm (hnone p u hu)
 have hle : lastC t S to ≤ lastC t e.ss c + (1 - l) := by
  rcases my.some with h1 | ⟨p, hp⟩
  ·have := hk.some; omega
  obtain ⟨n, hn, _, e1⟩ := hmv p _ hp
  have := mx.all n ⟨p, hn⟩
  omega
 have hge : lastC t S to ≠ 0 := by
  rcases mx.some with h1 | ⟨p, hp⟩
  ·have := hk.some; omega
  have h2 : asOf S p = some (to, lastC t e.ss c + (1 - l)) := by
   rw [hk.mp]
   exact moveF_some.2 ⟨_, hp, (moveO_yes (u := (c, lastC t e.ss c)) ⟨rfl, hk.some⟩).symm⟩
  have := my.all _ ⟨p, h2⟩
  have := hk.some
  omega
 have hlc := (lastC_bd (t := t) hS.ok c).2
 have hback : moveF (asOf S) to 1 c (lastC t S c) = asOf e.ss := by
  funext p
  rw [hk.mp, hl]
  cases hp : asOf e.ss p with
  | none => simp [moveF, hp]
  | some u =>
   refine moveF_some.2 ⟨moveO c l to (1 - l) u, moveF_some.2 ⟨u, hp, rfl⟩, ?_⟩
   by_cases a : u.1 = c ∧ l ≤ u.2
   ·rw [moveO_yes a, moveO_yes (u := (to, u.2 + (1 - l))) ⟨rfl, by dsimp only; omega⟩]
    exact Prod.ext a.1 (by dsimp only; omega)
   rw [moveO_no a, moveO_no fun hb => hnone p u hp hb.1]
 have hJ : joinL t ⟨e.id, S⟩ to c = plainS (asOf e.ss) (linesT t) := by
  unfold joinL
  dsimp only
  rw [hback]
 have hE : joinEr t ⟨e.id, S⟩ to c = 0 := by
  unfold joinEr
  dsimp only
  rw [hy, hJ, show inAll 1 999 [to, c] = true by rw [inAll_two, Bool.and_eq_true, inB_true, inB_true]; exact ⟨kt, kc⟩, decide_eq_false hge, decide_eq_false (Ne.symm hk.ne), decide_eq_false (show ¬ 999 < lastC t S to + lastC t S c by omega)]
  unfold madeEr
  rw [decide_eq_false (show ¬ 12 < (plainS (asOf e.ss) (linesT t)).length by have := hf.len; have := hS.len; omega)]
  rfl
 refine ⟨hE, ?_⟩
 unfold joinV edIf
 rw [hE, hJ, hf.val]
 rfl
end
end Go.AB
namespace Go.Proofs.YtjjklfgpffgnfaaGreatDoor
set_option maxRecDepth 10000
open Go.RowKit Go.AB
open Go.AB.Enc (cells)
open Go.PB (Chap TextD PlaceD ReadingD CopyD WayD)
set_option maxHeartbeats 8000000 in
theorem splitLaw_pureF (t : TextD) (e : EditionD) (cp l to a b c : Int) : PureF chkF Tryz.prog 10 [textC t, val e, .v (.int .i64 cp), .v (.int .i64 l), .v (.int .i64 to), .v (.int .u8 a), .v (.int .u8 b), .v (.int .u8 c)] (.v (.bool true)) := by
 refine pureF_of_body Tryz.func10 rfl (fun m => .v) fun G nx hF => ?_
 simp only [Tryz.ntmps10, List.length_cons, List.length_nil, Nat.reduceAdd, Nat.reduceSub]
 refine aw_lt fun hlt => ?_
 dsimp only at hlt
 have hnx := hlt 0 _ hF
 refine aw_fit 5 (fun hfa => ?_)
 refine aw_fit 6 (fun hfb => ?_)
 refine aw_fit 7 (fun hfc => ?_)
 replace hfa := u8_fit hfa
 replace hfb := u8_fit hfb
 replace hfc := u8_fit hfc
 refine aw_seq_k fun K1 hK1 => ?_
 refine aw_region ?_
 try dsimp only [St.put]
 refine aops_e rfl (e_box rfl rfl (by simp) ?_)
 try dsimp only [St.put]
 refine aops_e rfl (e_box rfl rfl (by simp) ?_)
 refine aops_n rfl (n_as rfl (by constructor)) ?_
 refine aops_nil ?_
 dsimp only [St.put]
 refine hK1 _ ?_
 refine aw_seq_k fun K2 hK2 => ?_
 refine aw_region ?_
 try dsimp only [St.put]
 refine aops_e rfl (e_call_f rfl rfl rfl (alive_pureF) zG ?_)
 refine aops_n rfl (n_as rfl (by constructor)) ?_
 refine aops_nil ?_
 dsimp only [St.put]
 refine hK2 _ ?_
 refine aw_seq_k fun K3 hK3 => ?_
 refine aw_seq_k fun K4 hK4 => ?_
 refine aw_region ?_
 try dsimp only [St.put]
 refine aops_s rfl (s_load_agg' rfl rfl rfl) ?_
 try dsimp only [St.put]
 refine aops_s rfl (s_load_agg' rfl rfl (Enc.len _)) ?_
 try dsimp only [St.put]
 refine aops_e rfl (e_call_pure rfl rfl rfl (lawReady_pure t e) ?_)
 refine aops_split (fun hs => ?_) (fun hs => ?_)
 ·have hrd : readyB t e = true := hs
  obtain ⟨⟨hle, hgt⟩, h0⟩ := readyB_true.1 hs
  have hS := soundEr_sound h0
  refine aops_n rfl (n_not rfl rfl) ?_
  refine aops_n rfl (n_mv rfl (by constructor)) ?_
  refine aops_n rfl (n_mv rfl (by constructor)) ?_
  refine aops_n rfl (n_not rfl rfl) ?_
  refine aops_n rfl (n_pf rfl rfl (by constructor)) ?_
  refine aops_nil ?_
  dsimp only [St.put]
  refine hK4 _ ?_
  refine aw_cond rfl (fun h => by cases h) (fun _ => ?_)
  refine aw_skip ?_
  refine hK3 _ ?_
  refine aw_seq_k fun K5 hK5 => ?_
  refine aw_region ?_
  try dsimp only [St.put]
  refine aops_s rfl (s_load_agg' rfl rfl rfl) ?_
  try dsimp only [St.put]
  refine aops_s rfl (s_load_agg' rfl rfl (Enc.len _)) ?_
  refine aops_n rfl (n_mv rfl (by constructor)) ?_
  refine aops_n rfl (n_mv rfl (by constructor)) ?_
  refine aops_n rfl (n_mv rfl (by constructor)) ?_
  try dsimp only [St.put]
  refine aops_e rfl (e_call_f rfl rfl rfl (chartSplit_pureF t e cp l to hle) zG ?_)
  refine aops_n rfl (n_mv rfl (by constructor)) ?_
  refine aops_n rfl (n_extract rfl rfl rfl) ?_
  refine aops_n rfl (n_extract rfl rfl rfl) ?_
  try dsimp only [St.put]
  refine aops_e rfl (e_allocC rfl ?_)
  try dsimp only [St.put]
  refine aops_e rfl (e_store_all rfl rfl rfl zG rfl rfl (by rfl) ?_)
  refine aops_n rfl (n_as rfl (by constructor)) ?_
  refine aops_nil ?_
  dsimp only [St.put]
  refine hK5 _ ?_
  refine aw_commitD (i := 18) rfl zG (by first | exact List.cons_ne_nil _ _ | (simp; done) | (simp [putAt]; done)) ?_
  dsimp only
  refine aw_seq_k fun K6 hK6 => ?_
  refine aw_seq_k fun K7 hK7 => ?_
  refine aw_region ?_
  refine aops_n rfl (n_mv rfl (by constructor)) ?_
  refine aops_n rfl (n_neq rfl rfl rfl) ?_
  refine aops_nil ?_
  dsimp only [St.put]
  refine hK7 _ ?_
  refine aw_cond rfl (fun hc => ?_) (fun hc => ?_)
  ·replace hc := nd_t hc
   have hN := splitE_no h0 hc
   refine aw_seq_k fun K8 hK8 => ?_
   refine aw_region ?_
   refine aops_n rfl (n_mv rfl (by constructor)) ?_
   refine aops_n rfl (n_mv rfl (by constructor)) ?_
   refine aops_n rfl (n_mv rfl (by constructor)) ?_
   refine aops_n rfl (n_eql rfl rfl rfl) ?_
   refine aops_split (fun hs => ?_) (fun hs => ?_)
   ·skip
    refine aops_n rfl (n_mv rfl (by constructor)) ?_
    refine aops_skip rfl ?_
    refine aops_skip rfl ?_
    refine aops_n rfl (n_pt rfl rfl (by constructor)) ?_
    refine aops_n rfl (n_mv rfl (by constructor)) ?_
    refine aops_skip rfl ?_
    refine aops_skip rfl ?_
    refine aops_n rfl (n_pt rfl rfl (by constructor)) ?_
    refine aops_n rfl (n_pt rfl rfl (by constructor)) ?_
    refine aops_n rfl (n_as rfl (by constructor)) ?_
    refine aops_nil ?_
    dsimp only [St.put]
    refine hK8 _ ?_
    refine aw_ret ?_
    refine ends_1 rfl (by constructor) zN zS ?_
    rfl
   have hs1 := of_decide_eq_false hs
   have hN1 := hN.resolve_left hs1
   refine aops_n rfl (n_mv rfl (by constructor)) ?_
   refine aops_n rfl (n_mv rfl (by constructor)) ?_
   refine aops_n rfl (n_eql rfl rfl rfl) ?_
   refine aops_split (fun hs => ?_) (fun hs => ?_)
   ·skip
    refine aops_n rfl (n_pf rfl rfl (by constructor)) ?_
    refine aops_n rfl (n_mv rfl (by constructor)) ?_
    refine aops_skip rfl ?_
    refine aops_skip rfl ?_
    refine aops_n rfl (n_pt rfl rfl (by constructor)) ?_
    refine aops_n rfl (n_pt rfl rfl (by constructor)) ?_
    refine aops_n rfl (n_as rfl (by constructor)) ?_
    refine aops_nil ?_
    dsimp only [St.put]
    refine hK8 _ ?_
    refine aw_ret ?_
    refine ends_1 rfl (by constructor) zN zS ?_
    rfl
   have hs2 := of_decide_eq_false hs
   have hN2 := hN1.resolve_left hs2
   refine aops_n rfl (n_pf rfl rfl (by constructor)) ?_
   refine aops_n rfl (n_mv rfl (by constructor)) ?_
   refine aops_n rfl (n_mv rfl (by constructor)) ?_
   refine aops_n rfl (n_bool (n_eql rfl rfl rfl) (decide_eq_true (by omega))) ?_
   refine aops_n rfl (n_pf rfl rfl (by constructor)) ?_
   refine aops_n rfl (n_pt rfl rfl (by constructor)) ?_
   refine aops_n rfl (n_as rfl (by constructor)) ?_
   refine aops_nil ?_
   dsimp only [St.put]
   refine hK8 _ ?_
   refine aw_ret ?_
   refine ends_1 rfl (by constructor) zN zS ?_
   rfl
  replace hc := nd_f hc
  have hK := splitE_yes h0 hc
  obtain ⟨S, hSs⟩ : ∃ S, splitL t e cp l to = S := ⟨_, rfl⟩
  rw [hSs] at hK
  rw [hK.val]
  have kc := hK.bc
  have hSl := hK.so.len
  have kl := hK.bl
  have kt := hK.bt
  have hry := readyB_of hrd hK.so
  have hy0 := (readyB_true.1 hry).2
  have hly := (readyB_true.1 hry).1.1
  refine aw_skip ?_
  refine hK6 _ ?_
  refine aw_seq_k fun K9 hK9 => ?_
  refine aw_region ?_
  try dsimp only [St.put]
  refine aops_s rfl (s_load_agg' rfl rfl rfl) ?_
  refine aops_n rfl (n_mv rfl (by constructor)) ?_
  refine aops_n rfl (n_mv rfl (by constructor)) ?_
  refine aops_n rfl (n_mv rfl (by constructor)) ?_
  try dsimp only [St.put]
  refine aops_e rfl (e_call_pure rfl rfl rfl (lawPick_pure t a b c hS.tx hfa hfb hfc) ?_)
  try dsimp only [St.put]
  refine aops_e rfl (e_allocC rfl ?_)
  try dsimp only [St.put]
  refine aops_e rfl (e_store_all rfl rfl rfl zG rfl rfl (by rfl) ?_)
  refine aops_nil ?_
  dsimp only [St.put]
  obtain ⟨p, hpp⟩ : ∃ p, pickP t a b c = p := ⟨_, rfl⟩
  have hp : placeB t p = true := hpp ▸ pick_place hS.tx hfa.1 hfb.1 hfc.1
  rw [hpp]
  obtain ⟨hrE, hrV⟩ := moved_refer h0 hy0 hp hK.mp
  refine hK9 _ ?_
  refine aw_commitD (i := 20) rfl zG (by first | exact List.cons_ne_nil _ _ | (simp; done) | (simp [putAt]; done)) ?_
  dsimp only
  refine aw_seq_k fun K10 hK10 => ?_
  refine aw_region ?_
  try dsimp only [St.put]
  refine aops_s rfl (s_load_agg' rfl rfl rfl) ?_
  try dsimp only [St.put]
  refine aops_s rfl (s_load_agg' rfl rfl (Enc.len _)) ?_
  try dsimp only [St.put]
  refine aops_s rfl (s_load_agg' rfl rfl (Enc.len _)) ?_
  try dsimp only [St.put]
  refine aops_e rfl (e_call_f rfl rfl rfl (chartRefer_pureF t e p hle) zG ?_)
  refine aops_n rfl (n_mv rfl (by constructor)) ?_
  refine aops_n rfl (n_extract rfl rfl rfl) ?_
  refine aops_n rfl (n_extract rfl rfl rfl) ?_
  try dsimp only [St.put]
  refine aops_e rfl (e_allocC rfl ?_)
  try dsimp only [St.put]
  refine aops_e rfl (e_store_all rfl rfl rfl zG rfl rfl (by rfl) ?_)
  refine aops_n rfl (n_as rfl (by constructor)) ?_
  refine aops_nil ?_
  dsimp only [St.put]
  obtain ⟨u, hu⟩ : ∃ u, referV t e p = u := ⟨_, rfl⟩
  obtain ⟨g, hg⟩ : ∃ g, referEr t e p = g := ⟨_, rfl⟩
  rw [hu, hg]
  have hub : g = 0 → (1 ≤ u.ch ∧ u.ch ≤ 999) ∧ 1 ≤ u.ln ∧ u.ln ≤ 999 := fun hg0 => by
   obtain ⟨v, hv, hv1⟩ := refer_some h0 hp (hg.trans hg0)
   have := asOf_pos hS.ok hv
   rw [hu] at hv1
   rw [hv1]
   exact ⟨by dsimp only; omega, by dsimp only; omega⟩
  refine hK10 _ ?_
  refine aw_commitD (i := 21) rfl zG (by first | exact List.cons_ne_nil _ _ | (simp; done) | (simp [putAt]; done)) ?_
  dsimp only
  refine aw_seq_k fun K11 hK11 => ?_
  refine aw_region ?_
  try dsimp only [St.put]
  refine aops_s rfl (s_load_agg' rfl rfl rfl) ?_
  try dsimp only [St.put]
  refine aops_s rfl (s_load_agg' rfl rfl (Enc.len _)) ?_
  try dsimp only [St.put]
  refine aops_s rfl (s_load_agg' rfl rfl (Enc.len _)) ?_
  try dsimp only [St.put]
  refine aops_e rfl (e_call_f rfl rfl rfl (chartRefer_pureF t ⟨e.id, S⟩ p hly) zG ?_)
  refine aops_n rfl (n_mv rfl (by constructor)) ?_
  refine aops_n rfl (n_extract rfl rfl rfl) ?_
  refine aops_n rfl (n_extract rfl rfl rfl) ?_
  try dsimp only [St.put]
  refine aops_e rfl (e_allocC rfl ?_)
  try dsimp only [St.put]
  refine aops_e rfl (e_store_all rfl rfl rfl zG rfl rfl (by rfl) ?_)
  refine aops_n rfl (n_as rfl (by constructor)) ?_
  refine aops_nil ?_
  dsimp only [St.put]
  obtain ⟨w, hw⟩ : ∃ w, referV t ⟨e.id, S⟩ p = w := ⟨_, rfl⟩
  rw [← hrE, hw, hg]
  rw [hw, hu, hg] at hrV
  refine hK11 _ ?_
  refine aw_commitD (i := 23) rfl zG (by first | exact List.cons_ne_nil _ _ | (simp; done) | (simp [putAt]; done)) ?_
  dsimp only
  refine aw_seq_k fun K12 hK12 => ?_
  refine aw_seq_k fun K13 hK13 => ?_
  refine aw_region ?_
  try dsimp only [St.put]
  refine aops_s rfl (s_load_agg' rfl rfl rfl) ?_
  try dsimp only [St.put]
  refine aops_s rfl (s_load_agg' rfl rfl (Enc.len _)) ?_
  try dsimp only [St.put]
  refine aops_e rfl (e_call_pure rfl rfl rfl (lawReady_true hry) ?_)
  refine aops_n rfl (n_not rfl rfl) ?_
  refine aops_n rfl (n_mv rfl (by constructor)) ?_
  refine aops_n rfl (n_mv rfl (by constructor)) ?_
  refine aops_n rfl (n_mv rfl (by constructor)) ?_
  refine aops_n rfl (n_bool (n_neq rfl rfl rfl) (not_dec_f (by omega))) ?_
  refine aops_n rfl (n_pf rfl rfl (by constructor)) ?_
  refine aops_n rfl (n_mv rfl (by constructor)) ?_
  refine aops_n rfl (n_fieldAddr' rfl rfl rfl) ?_
  try dsimp only [St.put]
  refine aops_s rfl (s_load rfl rfl) ?_
  refine aops_n rfl (n_fieldAddr' rfl rfl rfl) ?_
  try dsimp only [St.put]
  refine aops_s rfl (s_load rfl rfl) ?_
  refine aops_n rfl (n_bool (n_neq rfl rfl rfl) (not_dec_f (by omega))) ?_
  refine aops_n rfl (n_pf rfl rfl (by constructor)) ?_
  refine aops_nil ?_
  dsimp only [St.put]
  refine hK13 _ ?_
  refine aw_cond rfl (fun h => by cases h) (fun _ => ?_)
  refine aw_skip ?_
  refine hK12 _ ?_
  refine aw_seq_k fun K14 hK14 => ?_
  refine aw_region ?_
  try dsimp only [St.put]
  refine aops_s rfl (s_load_agg' rfl rfl (Enc.len _)) ?_
  try dsimp only [St.put]
  refine aops_e rfl (e_allocC rfl ?_)
  try dsimp only [St.put]
  refine aops_e rfl (e_store_all rfl rfl rfl zG rfl rfl (by rfl) ?_)
  refine aops_nil ?_
  dsimp only [St.put]
  refine hK14 _ ?_
  refine aw_wipe 26 ?_
  simp only [firsts, getA, Nat.reduceAdd, List.getD_cons_zero, List.getD_cons_succ, List.getD_nil, natBeq, Nat.reduceBEq, cond_true, cond_false]
  refine aw_forget (setG G (nx + 1 + 1 + 1 + 1) (.box 1 (cells u))) zX ?_
  dsimp only
  refine aw_cutD (X := Nat × RefD) (fun z => g = 0 → z.2 = w) (fun z => []) (fun z G' => setG G (nx + 1 + 1 + 1 + 1) (.box z.1 (cells z.2))) rfl ?_ ?_ ?_ ?_
  ·rintro ⟨wv, wa⟩ hI
   exact zL
  ·rintro ⟨wv, wa⟩ hI
   exact zH
  ·refine aw_wipe 26 ?_
   simp only [firsts, getA, Nat.reduceAdd, List.getD_cons_zero, List.getD_cons_succ, List.getD_nil, natBeq, Nat.reduceBEq, cond_true, cond_false]
   refine aw_forget (setG G (nx + 1 + 1 + 1 + 1) (.box 1 (cells u))) zX ?_
   dsimp only
   refine aw_cutD (X := Bool) (fun b1 => b1 = (decide (g = 0) && (decide (u.ch = cp) && decide (l ≤ u.ln)))) (fun b1 => [(116, .v (.bool b1))]) (fun b1 G' => G') rfl ?_ (fun _ _ _ _ h => .inl h) ?_ ?_
   ·rintro b1 hI
    exact zL
   ·refine aw_region ?_
    refine aops_n rfl (n_mv rfl (by constructor)) ?_
    refine aops_n rfl (n_eql rfl rfl rfl) ?_
    refine aops_split (fun hs => ?_) (fun hs => ?_)
    ·have q1 := of_decide_eq_true hs
     have hub1 := hub q1
     refine aops_n rfl (n_mv rfl (by constructor)) ?_
     refine aops_n rfl (n_fieldAddr' rfl rfl rfl) ?_
     try dsimp only [St.put]
     refine aops_s rfl (s_load rfl rfl) ?_
     refine aops_n rfl (n_mv rfl (by constructor)) ?_
     refine aops_n rfl (n_eql rfl rfl rfl) ?_
     refine aops_split (fun hs => ?_) (fun hs => ?_)
     ·have q2 := of_decide_eq_true hs
      refine aops_n rfl (n_pt rfl rfl (by constructor)) ?_
      refine aops_n rfl (n_mv rfl (by constructor)) ?_
      refine aops_n rfl (n_fieldAddr' rfl rfl rfl) ?_
      try dsimp only [St.put]
      refine aops_s rfl (s_load rfl rfl) ?_
      refine aops_n rfl (n_mv rfl (by constructor)) ?_
      refine aops_n rfl (n_geq rfl rfl rfl) ?_
      refine aops_split (fun hs => ?_) (fun hs => ?_)
      ·have q3 := of_decide_eq_true hs
       refine aops_n rfl (n_pt rfl rfl (by constructor)) ?_
       refine aops_nil ?_
       dsimp only [St.put]
       refine ⟨_, ?_, ⟨⟨rfl, rfl⟩, zF, zB, zN, zX⟩⟩
       (simp [q1, q2, q3]; done)
      have q3 := of_decide_eq_false hs
      refine aops_n rfl (n_pt rfl rfl (by constructor)) ?_
      refine aops_nil ?_
      dsimp only [St.put]
      refine ⟨_, ?_, ⟨⟨rfl, rfl⟩, zF, zB, zN, zX⟩⟩
      (simp [q1, q2, q3]; done)
     have q2 := of_decide_eq_false hs
     refine aops_n rfl (n_pt rfl rfl (by constructor)) ?_
     refine aops_n rfl (n_mv rfl (by constructor)) ?_
     refine aops_skip rfl ?_
     refine aops_skip rfl ?_
     refine aops_skip rfl ?_
     refine aops_skip rfl ?_
     refine aops_n rfl (n_pf rfl rfl (by constructor)) ?_
     refine aops_nil ?_
     dsimp only [St.put]
     refine ⟨_, ?_, ⟨⟨rfl, rfl⟩, zF, zB, zN, zX⟩⟩
     (simp [q1, q2]; done)
    have q1 := of_decide_eq_false hs
    refine aops_n rfl (n_mv rfl (by constructor)) ?_
    refine aops_skip rfl ?_
    refine aops_skip rfl ?_
    refine aops_skip rfl ?_
    refine aops_skip rfl ?_
    refine aops_n rfl (n_pf rfl rfl (by constructor)) ?_
    refine aops_n rfl (n_mv rfl (by constructor)) ?_
    refine aops_skip rfl ?_
    refine aops_skip rfl ?_
    refine aops_skip rfl ?_
    refine aops_skip rfl ?_
    refine aops_n rfl (n_pf rfl rfl (by constructor)) ?_
    refine aops_nil ?_
    dsimp only [St.put]
    refine ⟨_, ?_, ⟨⟨rfl, rfl⟩, zF, zB, zN, zX⟩⟩
    (simp [q1]; done)
   rintro b1 hB
   dsimp only at hB ⊢
   refine aw_cond rfl (fun hc => ?_) (fun hc => ?_)
   ·rw [hc] at hB
    have hB1 := hB.symm
    simp only [Bool.and_eq_true, decide_eq_true_eq] at hB1
    have hub1 := hub hB1.1
    have hH : g = 0 → (⟨to, u.ln - l + 1, u.wd⟩ : RefD) = w := fun hg0 => by
     rw [← (hrV hg0).1 hB1.2]
     simp only [RefD.mk.injEq, true_and, and_true]
     omega
    refine aw_region ?_
    refine aops_n rfl (n_mv rfl (by constructor)) ?_
    refine aops_n rfl (n_fieldAddr' rfl rfl rfl) ?_
    try dsimp only [St.put]
    refine aops_s rfl (s_load rfl rfl) ?_
    refine aops_n rfl (n_mv rfl (by constructor)) ?_
    refine aops_n rfl (n_sub rfl rfl rfl (by omega)) ?_
    refine aops_n rfl (n_add rfl rfl rfl (by omega)) ?_
    refine aops_n rfl (n_fieldAddr' rfl rfl rfl) ?_
    try dsimp only [St.put]
    refine aops_s rfl (s_load rfl rfl) ?_
    try dsimp only [St.put]
    refine aops_e rfl (e_call_pure rfl rfl rfl (lawRef_pure _ _ _) ?_)
    try dsimp only [St.put]
    refine aops_e rfl (e_store_all rfl rfl rfl zG rfl rfl (by rfl) ?_)
    refine aops_nil ?_
    dsimp only [St.put]
    first
     | exact ⟨(1 + 1, ⟨to, u.ln - l + 1, u.wd⟩), hH, ⟨⟨rfl, rfl⟩, zF, zB, zN, zX⟩⟩
     | exact ⟨(1, u), hH, ⟨⟨rfl, rfl⟩, zF, zB, zN, zX⟩⟩
   rw [hc] at hB
   have hB1 := hB.symm
   have hH : g = 0 → u = w := fun hg0 => (hrV hg0).2 fun h2 => by
    rw [hg0, decide_eq_true h2.1, decide_eq_true h2.2] at hB1
    simp at hB1
   refine aw_skip ?_
   first
    | exact ⟨(1 + 1, ⟨to, u.ln - l + 1, u.wd⟩), hH, ⟨⟨rfl, rfl⟩, zF, zB, zN, zX⟩⟩
    | exact ⟨(1, u), hH, ⟨⟨rfl, rfl⟩, zF, zB, zN, zX⟩⟩
  rintro ⟨wv, wa⟩ hW
  dsimp only at hW ⊢
  refine aw_seq_k fun K17 hK17 => ?_
  refine aw_wipe 26 ?_
  simp only [firsts, getA, Nat.reduceAdd, List.getD_cons_zero, List.getD_cons_succ, List.getD_nil, natBeq, Nat.reduceBEq, cond_true, cond_false]
  refine aw_cutD (X := Unit) (fun _ => True) (fun _ => [(132, .v (.bool false)), (25, .any)]) (fun _ G' => G') rfl ?_ (fun _ _ _ _ h => .inl h) ?_ ?_
  ·rintro _ hI
   exact zL
  ·refine aw_region ?_
   refine aops_n rfl (n_mv rfl (by constructor)) ?_
   refine aops_n rfl (n_eql rfl rfl rfl) ?_
   refine aops_split (fun hs => ?_) (fun hs => ?_)
   ·have hg0 := of_decide_eq_true hs
    refine aops_n rfl (n_mv rfl (by constructor)) ?_
    try dsimp only [St.put]
    refine aops_s rfl (s_load_agg' rfl rfl (Enc.len _)) ?_
    try dsimp only [St.put]
    refine aops_s rfl (s_load_box_all rfl rfl zG trivial (by rfl)) ?_
    refine aops_n rfl (n_bool (c := false) (n_agg_neq (x := w) (y := wa) rfl rfl rfl) (not_dec_f (hW hg0).symm)) ?_
    refine aops_n rfl (n_pt rfl rfl (by constructor)) ?_
    refine aops_nil ?_
    dsimp only [St.put]
    exact ⟨(), trivial, ⟨⟨rfl, rfl⟩, zF, zB, zN, zX⟩⟩
   skip
   refine aops_n rfl (n_mv rfl (by constructor)) ?_
   refine aops_skip rfl ?_
   refine aops_skip rfl ?_
   refine aops_skip rfl ?_
   refine aops_n rfl (n_pf rfl rfl (by constructor)) ?_
   refine aops_nil ?_
   dsimp only [St.put]
   exact ⟨(), trivial, ⟨⟨rfl, rfl⟩, zF, zB, zN, zX⟩⟩
  rintro _ hU
  dsimp only at hU ⊢
  refine aw_cond rfl (fun h => by cases h) (fun _ => ?_)
  refine aw_skip ?_
  refine hK17 _ ?_
  refine aw_seq_k fun K19 hK19 => ?_
  refine aw_region ?_
  refine aops_n rfl (n_as rfl (by constructor)) ?_
  refine aops_nil ?_
  dsimp only [St.put]
  refine hK19 _ ?_
  refine aw_seq_k fun K20 hK20 => ?_
  refine aw_seq_k fun K21 hK21 => ?_
  refine aw_region ?_
  refine aops_n rfl (n_fieldAddr' rfl rfl rfl) ?_
  try dsimp only [St.put]
  refine aops_s rfl (s_load rfl rfl) ?_
  refine aops_n rfl (n_len' rfl rfl (List.length_map _)) ?_
  refine aops_n rfl (n_mv rfl (by constructor)) ?_
  refine aops_nil ?_
  dsimp only [St.put]
  refine hK21 _ ?_
  refine aw_block ?_
  refine aw_wipe 137 ?_
  simp only [firsts, getA, Nat.reduceAdd, List.getD_cons_zero, List.getD_cons_succ, List.getD_nil, natBeq, Nat.reduceBEq, cond_true, cond_false]
  refine aw_forget (G) zX ?_
  dsimp only
  refine aw_loopD (X := Nat) (fun k => k ≤ S.length) (fun k => S.length - k) (fun k => [(26, .v (.int .i64 (maxF (gStr cp) (S.take k)))), (27, .any), (28, .any), (136, .v (.int .i64 (k : Int)))]) (fun k G' => G') 0 rfl ?_ ?_ (fun _ _ h => h) ?_ ?_ ?_
  ·exact Nat.zero_le _
  ·exact zF
  ·rintro k hI
   exact zL
  ·exact fun _ _ _ _ h => .inl h
  rintro k hI
  dsimp only at hI ⊢
  refine aw_seq_k fun K22 hK22 => ?_
  refine aw_region ?_
  refine aops_n rfl (n_lss rfl rfl rfl) ?_
  refine aops_nil ?_
  dsimp only [St.put]
  refine hK22 _ ?_
  refine aw_seq_k fun K23 hK23 => ?_
  refine aw_cond rfl (fun hc => ?_) (fun hc => ?_)
  ·replace hc := of_decide_eq_true hc
   obtain ⟨s, hs1⟩ : ∃ x, S[k]? = some x := some_of_lt (by omega)
   obtain ⟨o1, o2, o3, o4, o5, o6⟩ := id (hK.so.ok s (mem_of_get hs1))
   have hlk := lastS_bd (c := cp) (e := ⟨e.id, S⟩) hK.so k
   dsimp only at hlk
   refine aw_skip ?_
   refine hK23 _ ?_
   refine aw_seq_k fun K24 hK24 => ?_
   refine aw_block ?_
   refine aw_seq_k fun K25 hK25 => ?_
   refine aw_region ?_
   try dsimp only [St.put]
   refine aops_n rfl (n_indexAddr rfl rfl rfl rfl (map_get (by assumption)) (Enc.len _)) ?_
   try dsimp only [St.put]
   refine aops_s rfl (s_load_agg' rfl rfl (Enc.len _)) ?_
   try dsimp only [St.put]
   refine aops_e rfl (e_allocC rfl ?_)
   try dsimp only [St.put]
   refine aops_e rfl (e_store_all rfl rfl rfl zG rfl rfl (by rfl) ?_)
   refine aops_nil ?_
   dsimp only [St.put]
   refine hK25 _ ?_
   refine aw_commitD (i := 28) rfl zG (by first | exact List.cons_ne_nil _ _ | (simp; done) | (simp [putAt]; done)) ?_
   dsimp only
   refine aw_seq_k fun K26 hK26 => ?_
   refine aw_region ?_
   refine aops_n rfl (n_fieldAddr' rfl rfl rfl) ?_
   try dsimp only [St.put]
   refine aops_s rfl (s_load rfl rfl) ?_
   refine aops_n rfl (n_mv rfl (by constructor)) ?_
   refine aops_n rfl (n_eql rfl rfl rfl) ?_
   refine aops_nil ?_
   dsimp only [St.put]
   refine hK26 _ ?_
   refine aw_cond rfl (fun hc => ?_) (fun hc => ?_)
   ·replace hc := of_decide_eq_true hc
    have hM1 : maxF (gStr cp) (S.take (k + 1)) = max (maxF (gStr cp) (S.take k)) (s.fi + s.tt - s.fr - 1) := by rw [maxF_take hs1, stepM, gStr_some.2 ⟨hc, rfl⟩]
    refine aw_region ?_
    refine aops_n rfl (n_mv rfl (by constructor)) ?_
    refine aops_n rfl (n_fieldAddr' rfl rfl rfl) ?_
    try dsimp only [St.put]
    refine aops_s rfl (s_load rfl rfl) ?_
    refine aops_n rfl (n_fieldAddr' rfl rfl rfl) ?_
    try dsimp only [St.put]
    refine aops_s rfl (s_load rfl rfl) ?_
    refine aops_n rfl (n_add rfl rfl rfl (by omega)) ?_
    refine aops_n rfl (n_fieldAddr' rfl rfl rfl) ?_
    try dsimp only [St.put]
    refine aops_s rfl (s_load rfl rfl) ?_
    refine aops_n rfl (n_sub rfl rfl rfl (by omega)) ?_
    refine aops_n rfl (n_sub rfl rfl rfl (by omega)) ?_
    refine aops_n rfl (n_max rfl rfl rfl rfl) ?_
    refine aops_n rfl (n_as rfl (by constructor)) ?_
    refine aops_nil ?_
    dsimp only [St.put]
    rw [← hM1]
    refine hK24 _ ?_
    refine aw_region ?_
    refine aops_n rfl (n_add rfl rfl rfl (by omega)) ?_
    refine aops_n rfl (n_mv rfl (by constructor)) ?_
    refine aops_nil ?_
    dsimp only [St.put]
    exact ⟨k + 1, by omega, by omega, ⟨⟨rfl, rfl⟩, zF, zB, zN, zX⟩⟩
   replace hc := of_decide_eq_false hc
   have hM1 : maxF (gStr cp) (S.take (k + 1)) = maxF (gStr cp) (S.take k) := by rw [maxF_take hs1, stepM, show gStr cp s = none by simp [gStr, hc]]
   rw [← hM1]
   refine aw_skip ?_
   refine hK24 _ ?_
   refine aw_region ?_
   refine aops_n rfl (n_add rfl rfl rfl (by omega)) ?_
   refine aops_n rfl (n_mv rfl (by constructor)) ?_
   refine aops_nil ?_
   dsimp only [St.put]
   exact ⟨k + 1, by omega, by omega, ⟨⟨rfl, rfl⟩, zF, zB, zN, zX⟩⟩
  replace hc := of_decide_eq_false hc
  rw [take_all (show S.length ≤ k by omega), show maxF (gStr cp) S = lastC t S cp from last_str (e := ⟨e.id, S⟩) hK.so (by omega)]
  have hlb := lastC_bd (t := t) hK.so.ok cp
  refine aw_exit ?_
  refine hK20 _ ?_
  refine aw_seq_k fun K27 hK27 => ?_
  refine aw_region ?_
  try dsimp only [St.put]
  refine aops_s rfl (s_load_agg' rfl rfl rfl) ?_
  try dsimp only [St.put]
  refine aops_s rfl (s_load_agg' rfl rfl (Enc.len _)) ?_
  refine aops_n rfl (n_mv rfl (by constructor)) ?_
  refine aops_n rfl (n_mv rfl (by constructor)) ?_
  try dsimp only [St.put]
  refine aops_e rfl (e_call_f rfl rfl rfl (chartJoin_pureF t ⟨e.id, S⟩ to cp hly) zG ?_)
  refine aops_n rfl (n_mv rfl (by constructor)) ?_
  refine aops_n rfl (n_extract rfl rfl rfl) ?_
  refine aops_n rfl (n_extract rfl rfl rfl) ?_
  try dsimp only [St.put]
  refine aops_e rfl (e_allocC rfl ?_)
  try dsimp only [St.put]
  refine aops_e rfl (e_store_all rfl rfl rfl zG rfl rfl (by rfl) ?_)
  refine aops_n rfl (n_as rfl (by constructor)) ?_
  refine aops_nil ?_
  dsimp only [St.put]
  refine hK27 _ ?_
  refine aw_commitD (i := 29) rfl zG (by first | exact List.cons_ne_nil _ _ | (simp; done) | (simp [putAt]; done)) ?_
  dsimp only
  refine aw_seq_k fun K28 hK28 => ?_
  refine aw_region ?_
  try dsimp only [St.put]
  refine aops_s rfl (s_load_agg' rfl rfl rfl) ?_
  try dsimp only [St.put]
  refine aops_s rfl (s_load_agg' rfl rfl (Enc.len _)) ?_
  try dsimp only [St.put]
  refine aops_e rfl (e_call_f rfl rfl rfl (chartPlain_pureF t e hle) zG ?_)
  refine aops_n rfl (n_mv rfl (by constructor)) ?_
  refine aops_n rfl (n_extract rfl rfl rfl) ?_
  refine aops_n rfl (n_extract rfl rfl rfl) ?_
  try dsimp only [St.put]
  refine aops_e rfl (e_allocC rfl ?_)
  try dsimp only [St.put]
  refine aops_e rfl (e_store_all rfl rfl rfl zG rfl rfl (by rfl) ?_)
  refine aops_n rfl (n_as rfl (by constructor)) ?_
  refine aops_nil ?_
  dsimp only [St.put]
  rw [h0]
  refine hK28 _ ?_
  refine aw_commitD (i := 31) rfl zG (by first | exact List.cons_ne_nil _ _ | (simp; done) | (simp [putAt]; done)) ?_
  dsimp only
  refine aw_seq_k fun K29 hK29 => ?_
  refine aw_wipe 33 ?_
  simp only [firsts, getA, Nat.reduceAdd, List.getD_cons_zero, List.getD_cons_succ, List.getD_nil, natBeq, Nat.reduceBEq, cond_true, cond_false]
  refine aw_forget (G) zX ?_
  dsimp only
  refine aw_cutD (X := Unit) (fun _ => True) (fun _ => [(181, .v (.bool false))]) (fun _ G' => G') rfl ?_ (fun _ _ _ _ h => .inl h) ?_ ?_
  ·rintro _ hI
   exact zL
  ·refine aw_region ?_
   refine aops_n rfl (n_mv rfl (by constructor)) ?_
   refine aops_n rfl (n_bool (n_neq rfl rfl rfl) (not_dec_f (by omega))) ?_
   refine aops_n rfl (n_mv rfl (by constructor)) ?_
   refine aops_n rfl (n_mv rfl (by constructor)) ?_
   refine aops_n rfl (n_eql rfl rfl rfl) ?_
   refine aops_split (fun hs => ?_) (fun hs => ?_)
   ·have hj0 := of_decide_eq_true hs
    obtain ⟨_, hjV, hjS, _⟩ := joinE_yes hy0 hj0
    have hrz : readyB t (joinV t ⟨e.id, S⟩ to cp) = true := by rw [hjV]; exact readyB_of hry hjS
    refine aops_n rfl (n_mv rfl (by constructor)) ?_
    try dsimp only [St.put]
    refine aops_s rfl (s_load_agg' rfl rfl rfl) ?_
    try dsimp only [St.put]
    refine aops_s rfl (s_load_agg' rfl rfl (Enc.len _)) ?_
    try dsimp only [St.put]
    refine aops_e rfl (e_call_pure rfl rfl rfl (lawReady_true hrz) ?_)
    refine aops_n rfl (n_not rfl rfl) ?_
    refine aops_n rfl (n_pt rfl rfl (by constructor)) ?_
    refine aops_n rfl (n_pf rfl rfl (by constructor)) ?_
    refine aops_nil ?_
    dsimp only [St.put]
    exact ⟨(), trivial, ⟨⟨rfl, rfl⟩, zF, zB, zN, zX⟩⟩
   skip
   refine aops_n rfl (n_mv rfl (by constructor)) ?_
   refine aops_skip rfl ?_
   refine aops_skip rfl ?_
   refine aops_skip rfl ?_
   refine aops_skip rfl ?_
   refine aops_n rfl (n_pf rfl rfl (by constructor)) ?_
   refine aops_n rfl (n_pf rfl rfl (by constructor)) ?_
   refine aops_nil ?_
   dsimp only [St.put]
   exact ⟨(), trivial, ⟨⟨rfl, rfl⟩, zF, zB, zN, zX⟩⟩
  rintro _ hU2
  dsimp only at hU2 ⊢
  refine aw_cond rfl (fun h => by cases h) (fun _ => ?_)
  refine aw_skip ?_
  refine hK29 _ ?_
  refine aw_seq_k fun K31 hK31 => ?_
  refine aw_region ?_
  refine aops_n rfl (n_mv rfl (by constructor)) ?_
  refine aops_n rfl (n_mv rfl (by constructor)) ?_
  refine aops_n rfl (n_mv rfl (by constructor)) ?_
  refine aops_n rfl (n_mv rfl (by constructor)) ?_
  refine aops_n rfl (n_sub rfl rfl rfl (by omega)) ?_
  refine aops_n rfl (n_neq rfl rfl rfl) ?_
  refine aops_split (fun hs => ?_) (fun hs => ?_)
  ·skip
   refine aops_n rfl (n_mv rfl (by constructor)) ?_
   refine aops_skip rfl ?_
   refine aops_skip rfl ?_
   refine aops_skip rfl ?_
   refine aops_skip rfl ?_
   refine aops_skip rfl ?_
   refine aops_skip rfl ?_
   refine aops_skip rfl ?_
   refine aops_n rfl (n_pt rfl rfl (by constructor)) ?_
   refine aops_n rfl (n_pt rfl rfl (by constructor)) ?_
   refine aops_n rfl (n_as rfl (by constructor)) ?_
   refine aops_nil ?_
   dsimp only [St.put]
   refine hK31 _ ?_
   refine aw_ret ?_
   refine ends_1 rfl (by constructor) zN zS ?_
   rfl
  obtain ⟨hb1, hb2⟩ := split_back h0 hK (nd_f hs)
  rw [hb2]
  refine aops_n rfl (n_mv rfl (by constructor)) ?_
  refine aops_n rfl (n_mv rfl (by constructor)) ?_
  refine aops_n rfl (n_bool (c := true) (n_eql rfl rfl rfl) (decide_eq_true hb1)) ?_
  refine aops_n rfl (n_mv rfl (by constructor)) ?_
  try dsimp only [St.put]
  refine aops_s rfl (s_load_agg' rfl rfl (Enc.len _)) ?_
  try dsimp only [St.put]
  refine aops_s rfl (s_load_agg' rfl rfl (Enc.len _)) ?_
  try dsimp only [St.put]
  refine aops_e rfl (e_call_pure rfl rfl rfl (Same2_self (plainE t e)) ?_)
  refine aops_n rfl (n_pt rfl rfl (by constructor)) ?_
  refine aops_n rfl (n_pf rfl rfl (by constructor)) ?_
  refine aops_n rfl (n_pt rfl rfl (by constructor)) ?_
  refine aops_n rfl (n_as rfl (by constructor)) ?_
  refine aops_nil ?_
  dsimp only [St.put]
  refine hK31 _ ?_
  refine aw_ret ?_
  refine ends_1 rfl (by constructor) zN zS ?_
  rfl
 skip
 refine aops_n rfl (n_not rfl rfl) ?_
 refine aops_n rfl (n_mv rfl (by constructor)) ?_
 refine aops_skip rfl ?_
 refine aops_skip rfl ?_
 refine aops_n rfl (n_pt rfl rfl (by constructor)) ?_
 refine aops_nil ?_
 dsimp only [St.put]
 refine hK4 _ ?_
 refine aw_cond rfl (fun _ => ?_) (fun h => by cases h)
 refine aw_seq_k fun K32 hK32 => ?_
 refine aw_region ?_
 refine aops_n rfl (n_mv rfl (by constructor)) ?_
 refine aops_n rfl (n_as rfl (by constructor)) ?_
 refine aops_nil ?_
 dsimp only [St.put]
 refine hK32 _ ?_
 refine aw_ret ?_
 refine ends_1 rfl (by constructor) zN zS ?_
 rfl
end Go.Proofs.YtjjklfgpffgnfaaGreatDoor
