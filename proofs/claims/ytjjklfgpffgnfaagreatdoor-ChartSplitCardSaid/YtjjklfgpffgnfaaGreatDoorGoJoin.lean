/-
 The law ChartJoin: its walk.
-/
import Derived.Test.YtjjklfgpffgnfaaGreatDoorGnPlain
namespace Go.AB
open Go Go.RowKit
open Go.AB.Enc (cells)
open Go.PB (Chap TextD PlaceD ReadingD CopyD WayD)
section
variable {t : TextD} {e : EditionD} {p : PlaceD} {c l to : Int}
theorem soundEr_of {id : Int} {ss : List StretchD} (hS : Sound t ss) (hid : inB id 0 9999 = true) : soundEr t ⟨id, ss⟩ = 0 := by
 have h1 : editionB t ⟨id, ss⟩ = true := by
  unfold editionB
  rw [hid, decide_eq_true hS.len, List.all_eq_true.2 hS.str]; rfl
 have h2 : checkEr t ⟨id, ss⟩ = 0 := by
  unfold checkEr
  rw [hS.tx, h1]; rfl
 unfold soundEr
 rw [h2, hS.no]; rfl
theorem sound_id (h : soundEr t e = 0) : inB e.id 0 9999 = true := by
 have := (checkEr_ok (soundEr_check h).1).2
 unfold editionB at this
 rw [Bool.and_eq_true] at this
 exact this.1
theorem readyB_of (h : readyB t e = true) {ss : List StretchD} (hS : Sound t ss) : readyB t ⟨e.id, ss⟩ = true := by
 obtain ⟨⟨_, h2⟩, h3⟩ := readyB_true.1 h
 exact readyB_true.2 ⟨⟨Nat.le_trans hS.len (by decide), h2⟩, soundEr_of hS (sound_id h3)⟩
/-- the number of a stretch's last line -/
def gStr (c : Int) (s : StretchD) : Option Int := bif decide (s.au = c) then some (s.fi + s.tt - s.fr - 1) else none
theorem gStr_some {s : StretchD} {k : Int} : gStr c s = some k ↔ s.au = c ∧ s.fi + s.tt - s.fr - 1 = k := by
 unfold gStr
 by_cases h : s.au = c <;> simp [h]
theorem last_str (hS : Sound t e.ss) (hc : 0 < c) : maxF (gStr c) e.ss = lastC t e.ss c := by
 have h1 := maxF_max (gStr c) e.ss
 have h2 := last_of hS hc
 have p1 := maxF_pos (gStr c) e.ss
 have p2 : 0 ≤ lastC t e.ss c := (lastC_bd (t := t) hS.ok c).1
 have le1 : maxF (gStr c) e.ss ≤ lastC t e.ss c := by
  rcases h1.some with h | ⟨s, hs, hg⟩
  ·omega
  obtain ⟨g1, g2⟩ := gStr_some.1 hg
  have hlt := (hS.ok s hs).lt
  refine h2.all _ ⟨(s.ch, s.tt - 1), (asOf_iff hS.no).2 ⟨s, hs, hasB_true.2 ⟨rfl, by dsimp only; omega, by dsimp only; omega⟩, ?_⟩⟩
  exact Prod.ext g1 (by simp only [toE]; omega)
 have le2 : lastC t e.ss c ≤ maxF (gStr c) e.ss := by
  rcases h2.some with h | ⟨p, hp⟩
  ·omega
  obtain ⟨s, hs, hb, he⟩ := (asOf_iff hS.no).1 hp
  rw [hasB_true] at hb
  simp only [toE, Prod.mk.injEq] at he
  have := h1.all _ ⟨s, hs, gStr_some.2 ⟨he.1, rfl⟩⟩
  omega
 omega
theorem maxF_take {α : Type} {g : α → Option Int} {L : List α} {k : Nat} {x : α} (h : L[k]? = some x) : maxF g (L.take (k + 1)) = stepM g (maxF g (L.take k)) x := by
 rw [List.take_add_one, h, Option.toList_some, maxF_snoc]
theorem lastS_bd (hS : Sound t e.ss) (k : Nat) : 0 ≤ maxF (gStr c) (e.ss.take k) ∧ maxF (gStr c) (e.ss.take k) ≤ 999 := by
 refine ⟨maxF_pos _ _, maxF_le (by decide) fun s hs n hn => ?_⟩
 obtain ⟨o1, o2, o3, o4, o5, o6⟩ := hS.ok s (List.mem_of_mem_take hs)
 have := (gStr_some.1 hn).2
 omega
/-- a place in an edition that was moved -/
theorem moved_refer {y : EditionD} (hx : soundEr t e = 0) (hy : soundEr t y = 0) (hp : placeB t p = true) {mo : Int} (ha : asOf y.ss = moveF (asOf e.ss) c l to mo) : referEr t e p = referEr t y p ∧ (referEr t e p = 0 →
  ((referV t e p).ch = c ∧ l ≤ (referV t e p).ln → (⟨to, (referV t e p).ln + mo, (referV t e p).wd⟩ : RefD) = referV t y p) ∧ (¬ ((referV t e p).ch = c ∧ l ≤ (referV t e p).ln) → referV t e p = referV t y p)) := by
 by_cases h0 : referEr t e p = 0
 ·obtain ⟨v, hv, hV⟩ := refer_some hx hp h0
  have hm : asOf y.ss (p.ch, p.ln) = some (moveO c l to mo v) := by rw [ha]; exact moveF_some.2 ⟨v, hv, rfl⟩
  obtain ⟨h1, h2⟩ := referEr_eq hy hp hm
  refine ⟨h0.trans h1.symm, fun _ => ?_⟩
  rw [hV, h2]
  refine ⟨fun h3 => ?_, fun h3 => ?_⟩
  ·rw [moveO_yes h3]
  rw [moveO_no h3]
 obtain ⟨h1, h2, _⟩ := refer_none hx hp h0
 have hm : asOf y.ss (p.ch, p.ln) = none := by rw [ha]; simp [moveF, h1]
 exact ⟨h2.trans ((by simp [referEr, hy, hp, hm]) : referEr t y p = 6).symm, fun h => absurd h h0⟩
theorem made_len {L : List StretchD} (h : madeEr L = 0) : L.length ≤ 12 := by
 unfold madeEr at h
 by_cases h1 : 12 < L.length
 ·simp [h1] at h
 omega
theorem joinE_no (h : soundEr t e = 0) (h0 : joinEr t e c to ≠ 0) : joinEr t e c to = 2 ∨ joinEr t e c to = 6 ∨ joinEr t e c to = 9 := by
 unfold joinEr madeEr at h0 ⊢
 rw [h] at h0 ⊢
 revert h0
 cases inAll 1 999 [c, to] <;> cases decide (lastC t e.ss c = 0) <;> cases (decide (c = to) || decide (999 < lastC t e.ss c + lastC t e.ss to)) <;> cases decide (12 < (joinL t e c to).length) <;> simp
theorem joinE_yes (h : soundEr t e = 0) (h0 : joinEr t e c to = 0) : (1 ≤ to ∧ to ≤ 999) ∧ joinV t e c to = ⟨e.id, joinL t e c to⟩ ∧ Sound t (joinL t e c to) ∧ asOf (joinL t e c to) = moveF (asOf e.ss) c 1 to (lastC t e.ss to) := by
 have hS := soundEr_sound h
 have hV : joinV t e c to = ⟨e.id, joinL t e c to⟩ := by unfold joinV edIf; rw [h0]; rfl
 unfold joinEr at h0
 rw [h] at h0
 cases h1 : inAll 1 999 [c, to] with
 | false => rw [h1] at h0; simp at h0
 | true =>
  rw [inAll_two, Bool.and_eq_true, inB_true, inB_true] at h1
  rw [show inAll 1 999 [c, to] = true by rw [inAll_two, Bool.and_eq_true, inB_true, inB_true]; exact h1] at h0
  simp only [decide_true, cond_true] at h0
  cases h2 : decide (lastC t e.ss c = 0) with
  | true => rw [h2] at h0; simp at h0
  | false =>
   rw [h2] at h0
   cases h3 : (decide (c = to) || decide (999 < lastC t e.ss c + lastC t e.ss to)) with
   | true => rw [h3] at h0; simp at h0
   | false =>
    rw [h3] at h0
    simp only [cond_false] at h0
    simp only [Bool.or_eq_false_iff, decide_eq_false_iff_not] at h3
    have hM : MapOkF t (moveF (asOf e.ss) c 1 to (lastC t e.ss to)) := mapOk_move hS h1.2 h3.1 (fun k hk => by omega) fun p k hk hl => by
     have := (last_of hS (c := c) (by omega)).all k ⟨p, hk⟩
     have := (lastC_bd (t := t) hS.ok to).1
     omega
    exact ⟨h1.2, hV, plain_sound hS.tx hM (made_len h0), plain_asOf hM⟩
end
end Go.AB
namespace Go.Proofs.YtjjklfgpffgnfaaGreatDoor
set_option maxRecDepth 10000
open Go.RowKit Go.AB
open Go.AB.Enc (cells)
open Go.PB (Chap TextD PlaceD ReadingD CopyD WayD)
theorem lawReady_true {t : TextD} {e : EditionD} (h : readyB t e = true) : Pure Tryz.prog 13 [textC t, val e] (.v (.bool true)) := by
 have := lawReady_pure t e
 rwa [h] at this
set_option maxHeartbeats 4000000 in
theorem join_pureF (t : TextD) (e : EditionD) (cp to a b c : Int) : PureF chkF Tryz.prog 8 [textC t, val e, .v (.int .i64 cp), .v (.int .i64 to), .v (.int .u8 a), .v (.int .u8 b), .v (.int .u8 c)] (.v (.bool true)) := by
 refine pureF_of_body Tryz.func8 rfl (fun m => .v) fun G nx hF => ?_
 simp only [Tryz.ntmps8, List.length_cons, List.length_nil, Nat.reduceAdd, Nat.reduceSub]
 refine aw_lt fun hlt => ?_
 dsimp only at hlt
 have hnx := hlt 0 _ hF
 refine aw_fit 4 (fun hfa => ?_)
 refine aw_fit 5 (fun hfb => ?_)
 refine aw_fit 6 (fun hfc => ?_)
 replace hfa := u8_fit hfa
 replace hfb := u8_fit hfb
 replace hfc := u8_fit hfc
 refine aw_seq_k fun K1 hK1 => ?_
 refine aw_region ?_
 try dsimp only [St.put]
 refine aops_e rfl (e_box rfl rfl (by simp) ?_)
 try dsimp only [St.put]
 refine aops_e rfl (e_box rfl rfl (by simp) ?_)
 refine aops_n rfl (n_as rfl (by constructor)) ?_
 refine aops_nil ?_
 dsimp only [St.put]
 refine hK1 _ ?_
 refine aw_seq_k fun K2 hK2 => ?_
 refine aw_region ?_
 try dsimp only [St.put]
 refine aops_e rfl (e_call_f rfl rfl rfl (alive_pureF) zG ?_)
 refine aops_n rfl (n_as rfl (by constructor)) ?_
 refine aops_nil ?_
 dsimp only [St.put]
 refine hK2 _ ?_
 refine aw_seq_k fun K3 hK3 => ?_
 refine aw_seq_k fun K4 hK4 => ?_
 refine aw_region ?_
 try dsimp only [St.put]
 refine aops_s rfl (s_load_agg' rfl rfl rfl) ?_
 try dsimp only [St.put]
 refine aops_s rfl (s_load_agg' rfl rfl (Enc.len _)) ?_
 try dsimp only [St.put]
 refine aops_e rfl (e_call_pure rfl rfl rfl (lawReady_pure t e) ?_)
 refine aops_split (fun hs => ?_) (fun hs => ?_)
 ·have hrd : readyB t e = true := hs
  obtain ⟨⟨hle, hgt⟩, h0⟩ := readyB_true.1 hs
  have hS := soundEr_sound h0
  refine aops_n rfl (n_not rfl rfl) ?_
  refine aops_n rfl (n_mv rfl (by constructor)) ?_
  refine aops_n rfl (n_mv rfl (by constructor)) ?_
  refine aops_n rfl (n_not rfl rfl) ?_
  refine aops_n rfl (n_pf rfl rfl (by constructor)) ?_
  refine aops_nil ?_
  dsimp only [St.put]
  refine hK4 _ ?_
  refine aw_cond rfl (fun h => by cases h) (fun _ => ?_)
  refine aw_skip ?_
  refine hK3 _ ?_
  refine aw_seq_k fun K5 hK5 => ?_
  refine aw_region ?_
  try dsimp only [St.put]
  refine aops_s rfl (s_load_agg' rfl rfl rfl) ?_
  try dsimp only [St.put]
  refine aops_s rfl (s_load_agg' rfl rfl (Enc.len _)) ?_
  refine aops_n rfl (n_mv rfl (by constructor)) ?_
  refine aops_n rfl (n_mv rfl (by constructor)) ?_
  try dsimp only [St.put]
  refine aops_e rfl (e_call_f rfl rfl rfl (chartJoin_pureF t e cp to hle) zG ?_)
  refine aops_n rfl (n_mv rfl (by constructor)) ?_
  refine aops_n rfl (n_extract rfl rfl rfl) ?_
  refine aops_n rfl (n_extract rfl rfl rfl) ?_
  try dsimp only [St.put]
  refine aops_e rfl (e_allocC rfl ?_)
  try dsimp only [St.put]
  refine aops_e rfl (e_store_all rfl rfl rfl zG rfl rfl (by rfl) ?_)
  refine aops_n rfl (n_as rfl (by constructor)) ?_
  refine aops_nil ?_
  dsimp only [St.put]
  refine hK5 _ ?_
  refine aw_commitD (i := 16) rfl zG (by first | exact List.cons_ne_nil _ _ | (simp; done) | (simp [putAt]; done)) ?_
  dsimp only
  refine aw_seq_k fun K6 hK6 => ?_
  refine aw_seq_k fun K7 hK7 => ?_
  refine aw_region ?_
  refine aops_n rfl (n_mv rfl (by constructor)) ?_
  refine aops_n rfl (n_neq rfl rfl rfl) ?_
  refine aops_nil ?_
  dsimp only [St.put]
  refine hK7 _ ?_
  refine aw_cond rfl (fun hc => ?_) (fun hc => ?_)
  ·replace hc := nd_t hc
   have hN := joinE_no h0 hc
   refine aw_seq_k fun K8 hK8 => ?_
   refine aw_region ?_
   refine aops_n rfl (n_mv rfl (by constructor)) ?_
   refine aops_n rfl (n_mv rfl (by constructor)) ?_
   refine aops_n rfl (n_mv rfl (by constructor)) ?_
   refine aops_n rfl (n_eql rfl rfl rfl) ?_
   refine aops_split (fun hs => ?_) (fun hs => ?_)
   ·skip
    refine aops_n rfl (n_mv rfl (by constructor)) ?_
    refine aops_skip rfl ?_
    refine aops_skip rfl ?_
    refine aops_n rfl (n_pt rfl rfl (by constructor)) ?_
    refine aops_n rfl (n_mv rfl (by constructor)) ?_
    refine aops_skip rfl ?_
    refine aops_skip rfl ?_
    refine aops_n rfl (n_pt rfl rfl (by constructor)) ?_
    refine aops_n rfl (n_pt rfl rfl (by constructor)) ?_
    refine aops_n rfl (n_as rfl (by constructor)) ?_
    refine aops_nil ?_
    dsimp only [St.put]
    refine hK8 _ ?_
    refine aw_ret ?_
    refine ends_1 rfl (by constructor) zN zS ?_
    rfl
   have hs1 := of_decide_eq_false hs
   have hN1 := hN.resolve_left hs1
   refine aops_n rfl (n_mv rfl (by constructor)) ?_
   refine aops_n rfl (n_mv rfl (by constructor)) ?_
   refine aops_n rfl (n_eql rfl rfl rfl) ?_
   refine aops_split (fun hs => ?_) (fun hs => ?_)
   ·skip
    refine aops_n rfl (n_pf rfl rfl (by constructor)) ?_
    refine aops_n rfl (n_mv rfl (by constructor)) ?_
    refine aops_skip rfl ?_
    refine aops_skip rfl ?_
    refine aops_n rfl (n_pt rfl rfl (by constructor)) ?_
    refine aops_n rfl (n_pt rfl rfl (by constructor)) ?_
    refine aops_n rfl (n_as rfl (by constructor)) ?_
    refine aops_nil ?_
    dsimp only [St.put]
    refine hK8 _ ?_
    refine aw_ret ?_
    refine ends_1 rfl (by constructor) zN zS ?_
    rfl
   have hs2 := of_decide_eq_false hs
   have hN2 := hN1.resolve_left hs2
   refine aops_n rfl (n_pf rfl rfl (by constructor)) ?_
   refine aops_n rfl (n_mv rfl (by constructor)) ?_
   refine aops_n rfl (n_mv rfl (by constructor)) ?_
   refine aops_n rfl (n_bool (n_eql rfl rfl rfl) (decide_eq_true (by omega))) ?_
   refine aops_n rfl (n_pf rfl rfl (by constructor)) ?_
   refine aops_n rfl (n_pt rfl rfl (by constructor)) ?_
   refine aops_n rfl (n_as rfl (by constructor)) ?_
   refine aops_nil ?_
   dsimp only [St.put]
   refine hK8 _ ?_
   refine aw_ret ?_
   refine ends_1 rfl (by constructor) zN zS ?_
   rfl
  replace hc := nd_f hc
  obtain ⟨hto, hV, hSy, hay⟩ := joinE_yes h0 hc
  obtain ⟨Y, hY⟩ : ∃ Y, joinL t e cp to = Y := ⟨_, rfl⟩
  rw [hY] at hV hSy hay
  rw [hV]
  have hry := readyB_of hrd hSy
  have hy0 := (readyB_true.1 hry).2
  have hly := (readyB_true.1 hry).1.1
  have hlb := lastC_bd (t := t) hS.ok to
  refine aw_skip ?_
  refine hK6 _ ?_
  refine aw_seq_k fun K9 hK9 => ?_
  refine aw_region ?_
  refine aops_n rfl (n_as rfl (by constructor)) ?_
  refine aops_nil ?_
  dsimp only [St.put]
  refine hK9 _ ?_
  refine aw_seq_k fun K10 hK10 => ?_
  refine aw_seq_k fun K11 hK11 => ?_
  refine aw_region ?_
  refine aops_n rfl (n_fieldAddr' rfl rfl rfl) ?_
  try dsimp only [St.put]
  refine aops_s rfl (s_load rfl rfl) ?_
  refine aops_n rfl (n_len' rfl rfl (List.length_map _)) ?_
  refine aops_n rfl (n_mv rfl (by constructor)) ?_
  refine aops_nil ?_
  dsimp only [St.put]
  refine hK11 _ ?_
  refine aw_block ?_
  refine aw_wipe 63 ?_
  simp only [firsts, getA, Nat.reduceAdd, List.getD_cons_zero, List.getD_cons_succ, List.getD_nil, natBeq, Nat.reduceBEq, cond_true, cond_false]
  refine aw_forget (G) zX ?_
  dsimp only
  refine aw_loopD (X := Nat) (fun k => k ≤ e.ss.length) (fun k => e.ss.length - k) (fun k => [(18, .v (.int .i64 (maxF (gStr to) (e.ss.take k)))), (19, .any), (20, .any), (62, .v (.int .i64 (k : Int)))]) (fun k G' => G') 0 rfl ?_ ?_ (fun _ _ h => h) ?_ ?_ ?_
  ·exact Nat.zero_le _
  ·exact zF
  ·rintro k hI
   exact zL
  ·exact fun _ _ _ _ h => .inl h
  rintro k hI
  dsimp only at hI ⊢
  refine aw_seq_k fun K12 hK12 => ?_
  refine aw_region ?_
  refine aops_n rfl (n_lss rfl rfl rfl) ?_
  refine aops_nil ?_
  dsimp only [St.put]
  refine hK12 _ ?_
  refine aw_seq_k fun K13 hK13 => ?_
  refine aw_cond rfl (fun hc => ?_) (fun hc => ?_)
  ·replace hc := of_decide_eq_true hc
   obtain ⟨s, hs1⟩ : ∃ x, e.ss[k]? = some x := some_of_lt (by omega)
   obtain ⟨o1, o2, o3, o4, o5, o6⟩ := id (hS.ok s (mem_of_get hs1))
   have hlk := lastS_bd (c := to) hS k
   refine aw_skip ?_
   refine hK13 _ ?_
   refine aw_seq_k fun K14 hK14 => ?_
   refine aw_block ?_
   refine aw_seq_k fun K15 hK15 => ?_
   refine aw_region ?_
   try dsimp only [St.put]
   refine aops_n rfl (n_indexAddr rfl rfl rfl rfl (map_get (by assumption)) (Enc.len _)) ?_
   try dsimp only [St.put]
   refine aops_s rfl (s_load_agg' rfl rfl (Enc.len _)) ?_
   try dsimp only [St.put]
   refine aops_e rfl (e_allocC rfl ?_)
   try dsimp only [St.put]
   refine aops_e rfl (e_store_all rfl rfl rfl zG rfl rfl (by rfl) ?_)
   refine aops_nil ?_
   dsimp only [St.put]
   refine hK15 _ ?_
   refine aw_commitD (i := 20) rfl zG (by first | exact List.cons_ne_nil _ _ | (simp; done) | (simp [putAt]; done)) ?_
   dsimp only
   refine aw_seq_k fun K16 hK16 => ?_
   refine aw_region ?_
   refine aops_n rfl (n_fieldAddr' rfl rfl rfl) ?_
   try dsimp only [St.put]
   refine aops_s rfl (s_load rfl rfl) ?_
   refine aops_n rfl (n_mv rfl (by constructor)) ?_
   refine aops_n rfl (n_eql rfl rfl rfl) ?_
   refine aops_nil ?_
   dsimp only [St.put]
   refine hK16 _ ?_
   refine aw_cond rfl (fun hc => ?_) (fun hc => ?_)
   ·replace hc := of_decide_eq_true hc
    have hM1 : maxF (gStr to) (e.ss.take (k + 1)) = max (maxF (gStr to) (e.ss.take k)) (s.fi + s.tt - s.fr - 1) := by rw [maxF_take hs1, stepM, gStr_some.2 ⟨hc, rfl⟩]
    refine aw_region ?_
    refine aops_n rfl (n_mv rfl (by constructor)) ?_
    refine aops_n rfl (n_fieldAddr' rfl rfl rfl) ?_
    try dsimp only [St.put]
    refine aops_s rfl (s_load rfl rfl) ?_
    refine aops_n rfl (n_fieldAddr' rfl rfl rfl) ?_
    try dsimp only [St.put]
    refine aops_s rfl (s_load rfl rfl) ?_
    refine aops_n rfl (n_add rfl rfl rfl (by omega)) ?_
    refine aops_n rfl (n_fieldAddr' rfl rfl rfl) ?_
    try dsimp only [St.put]
    refine aops_s rfl (s_load rfl rfl) ?_
    refine aops_n rfl (n_sub rfl rfl rfl (by omega)) ?_
    refine aops_n rfl (n_sub rfl rfl rfl (by omega)) ?_
    refine aops_n rfl (n_max rfl rfl rfl rfl) ?_
    refine aops_n rfl (n_as rfl (by constructor)) ?_
    refine aops_nil ?_
    dsimp only [St.put]
    rw [← hM1]
    refine hK14 _ ?_
    refine aw_region ?_
    refine aops_n rfl (n_add rfl rfl rfl (by omega)) ?_
    refine aops_n rfl (n_mv rfl (by constructor)) ?_
    refine aops_nil ?_
    dsimp only [St.put]
    exact ⟨k + 1, by omega, by omega, ⟨⟨rfl, rfl⟩, zF, zB, zN, zX⟩⟩
   replace hc := of_decide_eq_false hc
   have hM1 : maxF (gStr to) (e.ss.take (k + 1)) = maxF (gStr to) (e.ss.take k) := by rw [maxF_take hs1, stepM, show gStr to s = none by simp [gStr, hc]]
   rw [← hM1]
   refine aw_skip ?_
   refine hK14 _ ?_
   refine aw_region ?_
   refine aops_n rfl (n_add rfl rfl rfl (by omega)) ?_
   refine aops_n rfl (n_mv rfl (by constructor)) ?_
   refine aops_nil ?_
   dsimp only [St.put]
   exact ⟨k + 1, by omega, by omega, ⟨⟨rfl, rfl⟩, zF, zB, zN, zX⟩⟩
  replace hc := of_decide_eq_false hc
  rw [take_all (show e.ss.length ≤ k by omega), last_str hS (by omega)]
  refine aw_exit ?_
  refine hK10 _ ?_
  refine aw_seq_k fun K17 hK17 => ?_
  refine aw_region ?_
  try dsimp only [St.put]
  refine aops_s rfl (s_load_agg' rfl rfl rfl) ?_
  refine aops_n rfl (n_mv rfl (by constructor)) ?_
  refine aops_n rfl (n_mv rfl (by constructor)) ?_
  refine aops_n rfl (n_mv rfl (by constructor)) ?_
  try dsimp only [St.put]
  refine aops_e rfl (e_call_pure rfl rfl rfl (lawPick_pure t a b c hS.tx hfa hfb hfc) ?_)
  try dsimp only [St.put]
  refine aops_e rfl (e_allocC rfl ?_)
  try dsimp only [St.put]
  refine aops_e rfl (e_store_all rfl rfl rfl zG rfl rfl (by rfl) ?_)
  refine aops_nil ?_
  dsimp only [St.put]
  obtain ⟨p, hpp⟩ : ∃ p, pickP t a b c = p := ⟨_, rfl⟩
  have hp : placeB t p = true := hpp ▸ pick_place hS.tx hfa.1 hfb.1 hfc.1
  rw [hpp]
  obtain ⟨hrE, hrV⟩ := moved_refer h0 hy0 hp hay
  refine hK17 _ ?_
  refine aw_commitD (i := 21) rfl zG (by first | exact List.cons_ne_nil _ _ | (simp; done) | (simp [putAt]; done)) ?_
  dsimp only
  refine aw_seq_k fun K18 hK18 => ?_
  refine aw_region ?_
  try dsimp only [St.put]
  refine aops_s rfl (s_load_agg' rfl rfl rfl) ?_
  try dsimp only [St.put]
  refine aops_s rfl (s_load_agg' rfl rfl (Enc.len _)) ?_
  try dsimp only [St.put]
  refine aops_s rfl (s_load_agg' rfl rfl (Enc.len _)) ?_
  try dsimp only [St.put]
  refine aops_e rfl (e_call_f rfl rfl rfl (chartRefer_pureF t e p hle) zG ?_)
  refine aops_n rfl (n_mv rfl (by constructor)) ?_
  refine aops_n rfl (n_extract rfl rfl rfl) ?_
  refine aops_n rfl (n_extract rfl rfl rfl) ?_
  try dsimp only [St.put]
  refine aops_e rfl (e_allocC rfl ?_)
  try dsimp only [St.put]
  refine aops_e rfl (e_store_all rfl rfl rfl zG rfl rfl (by rfl) ?_)
  refine aops_n rfl (n_as rfl (by constructor)) ?_
  refine aops_nil ?_
  dsimp only [St.put]
  obtain ⟨u, hu⟩ : ∃ u, referV t e p = u := ⟨_, rfl⟩
  obtain ⟨g, hg⟩ : ∃ g, referEr t e p = g := ⟨_, rfl⟩
  rw [hu, hg]
  have hub : g = 0 → (1 ≤ u.ch ∧ u.ch ≤ 999) ∧ 1 ≤ u.ln ∧ u.ln ≤ 999 := fun hg0 => by
   obtain ⟨v, hv, hv1⟩ := refer_some h0 hp (hg.trans hg0)
   have := asOf_pos hS.ok hv
   rw [hu] at hv1
   rw [hv1]
   exact ⟨by dsimp only; omega, by dsimp only; omega⟩
  refine hK18 _ ?_
  refine aw_seq_k fun K19 hK19 => ?_
  refine aw_region ?_
  try dsimp only [St.put]
  refine aops_s rfl (s_load_agg' rfl rfl rfl) ?_
  try dsimp only [St.put]
  refine aops_s rfl (s_load_agg' rfl rfl (Enc.len _)) ?_
  try dsimp only [St.put]
  refine aops_s rfl (s_load_agg' rfl rfl (Enc.len _)) ?_
  try dsimp only [St.put]
  refine aops_e rfl (e_call_f rfl rfl rfl (chartRefer_pureF t ⟨e.id, Y⟩ p hly) zG ?_)
  refine aops_n rfl (n_mv rfl (by constructor)) ?_
  refine aops_n rfl (n_extract rfl rfl rfl) ?_
  refine aops_n rfl (n_extract rfl rfl rfl) ?_
  try dsimp only [St.put]
  refine aops_e rfl (e_allocC rfl ?_)
  try dsimp only [St.put]
  refine aops_e rfl (e_store_all rfl rfl rfl zG rfl rfl (by rfl) ?_)
  refine aops_n rfl (n_as rfl (by constructor)) ?_
  refine aops_nil ?_
  dsimp only [St.put]
  obtain ⟨w, hw⟩ : ∃ w, referV t ⟨e.id, Y⟩ p = w := ⟨_, rfl⟩
  rw [← hrE, hw, hg]
  rw [hw, hu, hg] at hrV
  refine hK19 _ ?_
  refine aw_commitD (i := 24) rfl zG (by first | exact List.cons_ne_nil _ _ | (simp; done) | (simp [putAt]; done)) ?_
  dsimp only
  refine aw_seq_k fun K20 hK20 => ?_
  refine aw_seq_k fun K21 hK21 => ?_
  refine aw_region ?_
  try dsimp only [St.put]
  refine aops_s rfl (s_load_agg' rfl rfl rfl) ?_
  try dsimp only [St.put]
  refine aops_s rfl (s_load_agg' rfl rfl (Enc.len _)) ?_
  try dsimp only [St.put]
  refine aops_e rfl (e_call_pure rfl rfl rfl (lawReady_true hry) ?_)
  refine aops_n rfl (n_not rfl rfl) ?_
  refine aops_n rfl (n_mv rfl (by constructor)) ?_
  refine aops_n rfl (n_mv rfl (by constructor)) ?_
  refine aops_n rfl (n_mv rfl (by constructor)) ?_
  refine aops_n rfl (n_bool (n_neq rfl rfl rfl) (not_dec_f (by omega))) ?_
  refine aops_n rfl (n_pf rfl rfl (by constructor)) ?_
  refine aops_n rfl (n_mv rfl (by constructor)) ?_
  refine aops_n rfl (n_fieldAddr' rfl rfl rfl) ?_
  try dsimp only [St.put]
  refine aops_s rfl (s_load rfl rfl) ?_
  refine aops_n rfl (n_fieldAddr' rfl rfl rfl) ?_
  try dsimp only [St.put]
  refine aops_s rfl (s_load rfl rfl) ?_
  refine aops_n rfl (n_bool (n_neq rfl rfl rfl) (not_dec_f (by omega))) ?_
  refine aops_n rfl (n_pf rfl rfl (by constructor)) ?_
  refine aops_nil ?_
  dsimp only [St.put]
  refine hK21 _ ?_
  refine aw_cond rfl (fun h => by cases h) (fun _ => ?_)
  refine aw_skip ?_
  refine hK20 _ ?_
  refine aw_seq_k fun K22 hK22 => ?_
  refine aw_seq_k fun K23 hK23 => ?_
  refine aw_region ?_
  refine aops_n rfl (n_mv rfl (by constructor)) ?_
  refine aops_n rfl (n_eql rfl rfl rfl) ?_
  refine aops_split (fun hs => ?_) (fun hs => ?_)
  ·have hg0 := of_decide_eq_true hs
   have hub1 := hub hg0
   refine aops_n rfl (n_mv rfl (by constructor)) ?_
   refine aops_n rfl (n_fieldAddr_box rfl rfl) ?_
   try dsimp only [St.put]
   refine aops_s rfl (s_load_box rfl rfl zG trivial (by first | rfl | assumption)) ?_
   refine aops_n rfl (n_mv rfl (by constructor)) ?_
   refine aops_n rfl (n_eql rfl rfl rfl) ?_
   refine aops_split (fun hs => ?_) (fun hs => ?_)
   ·have hch := of_decide_eq_true hs
    refine aops_n rfl (n_pt rfl rfl (by constructor)) ?_
    refine aops_nil ?_
    dsimp only [St.put]
    refine hK23 _ ?_
    refine aw_cond rfl (fun _ => ?_) (fun h => by cases h)
    refine aw_region ?_
    refine aops_n rfl (n_mv rfl (by constructor)) ?_
    refine aops_n rfl (n_fieldAddr_box rfl rfl) ?_
    try dsimp only [St.put]
    refine aops_s rfl (s_load_box rfl rfl zG trivial (by first | rfl | assumption)) ?_
    refine aops_n rfl (n_mv rfl (by constructor)) ?_
    refine aops_n rfl (n_add rfl rfl rfl (by omega)) ?_
    refine aops_n rfl (n_fieldAddr_box rfl rfl) ?_
    try dsimp only [St.put]
    refine aops_s rfl (s_load_box rfl rfl zG trivial (by first | rfl | assumption)) ?_
    try dsimp only [St.put]
    refine aops_e rfl (e_call_pure rfl rfl rfl (lawRef_pure _ _ _) ?_)
    try dsimp only [St.put]
    refine aops_e rfl (e_store_all rfl rfl rfl zG rfl rfl (by rfl) ?_)
    refine aops_nil ?_
    dsimp only [St.put]
    refine hK22 _ ?_
    refine aw_seq_k fun K24 hK24 => ?_
    refine aw_region ?_
    refine aops_n rfl (n_mv rfl (by constructor)) ?_
    refine aops_n rfl (n_mv rfl (by constructor)) ?_
    refine aops_n rfl (n_mv rfl (by constructor)) ?_
    refine aops_n rfl (n_neq rfl rfl rfl) ?_
    refine aops_split (fun hs => ?_) (fun hs => ?_)
    ·skip
     refine aops_n rfl (n_mv rfl (by constructor)) ?_
     refine aops_skip rfl ?_
     refine aops_skip rfl ?_
     refine aops_skip rfl ?_
     refine aops_n rfl (n_pt rfl rfl (by constructor)) ?_
     refine aops_n rfl (n_pt rfl rfl (by constructor)) ?_
     refine aops_n rfl (n_as rfl (by constructor)) ?_
     refine aops_nil ?_
     dsimp only [St.put]
     refine hK24 _ ?_
     refine aw_ret ?_
     refine ends_1 rfl (by constructor) zN zS ?_
     rfl
    have hg1 := nd_f hs
    have hub2 := hub hg1
    refine aops_n rfl (n_mv rfl (by constructor)) ?_
    try dsimp only [St.put]
    refine aops_s rfl (s_load_box_all rfl rfl zG trivial (by rfl)) ?_
    try dsimp only [St.put]
    refine aops_s rfl (s_load_agg' rfl rfl (Enc.len _)) ?_
    first
    | refine aops_n rfl (n_bool (c := true) (n_agg_eql (x := (⟨to, u.ln + lastC t e.ss to, u.wd⟩ : RefD)) (y := w) rfl rfl rfl) (decide_eq_true ((hrV hg1).1 ⟨hch, by omega⟩))) ?_
    | refine aops_n rfl (n_bool (c := true) (n_agg_eql (x := u) (y := w) rfl rfl rfl) (decide_eq_true ((hrV hg1).2 fun h => hch h.1))) ?_
    | refine aops_n rfl (n_bool (c := true) (n_agg_eql (x := u) (y := w) rfl rfl rfl) (decide_eq_true (absurd hg1 hg0))) ?_
    refine aops_n rfl (n_pf rfl rfl (by constructor)) ?_
    refine aops_n rfl (n_pt rfl rfl (by constructor)) ?_
    refine aops_n rfl (n_as rfl (by constructor)) ?_
    refine aops_nil ?_
    dsimp only [St.put]
    refine hK24 _ ?_
    refine aw_ret ?_
    refine ends_1 rfl (by constructor) zN zS ?_
    rfl
   have hch := of_decide_eq_false hs
   refine aops_n rfl (n_pt rfl rfl (by constructor)) ?_
   refine aops_nil ?_
   dsimp only [St.put]
   refine hK23 _ ?_
   refine aw_cond rfl (fun h => by cases h) (fun _ => ?_)
   refine aw_skip ?_
   refine hK22 _ ?_
   refine aw_seq_k fun K25 hK25 => ?_
   refine aw_region ?_
   refine aops_n rfl (n_mv rfl (by constructor)) ?_
   refine aops_n rfl (n_mv rfl (by constructor)) ?_
   refine aops_n rfl (n_mv rfl (by constructor)) ?_
   refine aops_n rfl (n_neq rfl rfl rfl) ?_
   refine aops_split (fun hs => ?_) (fun hs => ?_)
   ·skip
    refine aops_n rfl (n_mv rfl (by constructor)) ?_
    refine aops_skip rfl ?_
    refine aops_skip rfl ?_
    refine aops_skip rfl ?_
    refine aops_n rfl (n_pt rfl rfl (by constructor)) ?_
    refine aops_n rfl (n_pt rfl rfl (by constructor)) ?_
    refine aops_n rfl (n_as rfl (by constructor)) ?_
    refine aops_nil ?_
    dsimp only [St.put]
    refine hK25 _ ?_
    refine aw_ret ?_
    refine ends_1 rfl (by constructor) zN zS ?_
    rfl
   have hg1 := nd_f hs
   have hub2 := hub hg1
   refine aops_n rfl (n_mv rfl (by constructor)) ?_
   try dsimp only [St.put]
   refine aops_s rfl (s_load_box_all rfl rfl zG trivial (by rfl)) ?_
   try dsimp only [St.put]
   refine aops_s rfl (s_load_agg' rfl rfl (Enc.len _)) ?_
   first
   | refine aops_n rfl (n_bool (c := true) (n_agg_eql (x := (⟨to, u.ln + lastC t e.ss to, u.wd⟩ : RefD)) (y := w) rfl rfl rfl) (decide_eq_true ((hrV hg1).1 ⟨hch, by omega⟩))) ?_
   | refine aops_n rfl (n_bool (c := true) (n_agg_eql (x := u) (y := w) rfl rfl rfl) (decide_eq_true ((hrV hg1).2 fun h => hch h.1))) ?_
   | refine aops_n rfl (n_bool (c := true) (n_agg_eql (x := u) (y := w) rfl rfl rfl) (decide_eq_true (absurd hg1 hg0))) ?_
   refine aops_n rfl (n_pf rfl rfl (by constructor)) ?_
   refine aops_n rfl (n_pt rfl rfl (by constructor)) ?_
   refine aops_n rfl (n_as rfl (by constructor)) ?_
   refine aops_nil ?_
   dsimp only [St.put]
   refine hK25 _ ?_
   refine aw_ret ?_
   refine ends_1 rfl (by constructor) zN zS ?_
   rfl
  have hg0 := of_decide_eq_false hs
  refine aops_n rfl (n_mv rfl (by constructor)) ?_
  refine aops_skip rfl ?_
  refine aops_skip rfl ?_
  refine aops_skip rfl ?_
  refine aops_skip rfl ?_
  refine aops_n rfl (n_pf rfl rfl (by constructor)) ?_
  refine aops_nil ?_
  dsimp only [St.put]
  refine hK23 _ ?_
  refine aw_cond rfl (fun h => by cases h) (fun _ => ?_)
  refine aw_skip ?_
  refine hK22 _ ?_
  refine aw_seq_k fun K26 hK26 => ?_
  refine aw_region ?_
  refine aops_n rfl (n_mv rfl (by constructor)) ?_
  refine aops_n rfl (n_mv rfl (by constructor)) ?_
  refine aops_n rfl (n_mv rfl (by constructor)) ?_
  refine aops_n rfl (n_neq rfl rfl rfl) ?_
  refine aops_split (fun hs => ?_) (fun hs => ?_)
  ·skip
   refine aops_n rfl (n_mv rfl (by constructor)) ?_
   refine aops_skip rfl ?_
   refine aops_skip rfl ?_
   refine aops_skip rfl ?_
   refine aops_n rfl (n_pt rfl rfl (by constructor)) ?_
   refine aops_n rfl (n_pt rfl rfl (by constructor)) ?_
   refine aops_n rfl (n_as rfl (by constructor)) ?_
   refine aops_nil ?_
   dsimp only [St.put]
   refine hK26 _ ?_
   refine aw_ret ?_
   refine ends_1 rfl (by constructor) zN zS ?_
   rfl
  have hg1 := nd_f hs
  have hub2 := hub hg1
  refine aops_n rfl (n_mv rfl (by constructor)) ?_
  try dsimp only [St.put]
  refine aops_s rfl (s_load_box_all rfl rfl zG trivial (by rfl)) ?_
  try dsimp only [St.put]
  refine aops_s rfl (s_load_agg' rfl rfl (Enc.len _)) ?_
  first
  | refine aops_n rfl (n_bool (c := true) (n_agg_eql (x := (⟨to, u.ln + lastC t e.ss to, u.wd⟩ : RefD)) (y := w) rfl rfl rfl) (decide_eq_true ((hrV hg1).1 ⟨hch, by omega⟩))) ?_
  | refine aops_n rfl (n_bool (c := true) (n_agg_eql (x := u) (y := w) rfl rfl rfl) (decide_eq_true ((hrV hg1).2 fun h => hch h.1))) ?_
  | refine aops_n rfl (n_bool (c := true) (n_agg_eql (x := u) (y := w) rfl rfl rfl) (decide_eq_true (absurd hg1 hg0))) ?_
  refine aops_n rfl (n_pf rfl rfl (by constructor)) ?_
  refine aops_n rfl (n_pt rfl rfl (by constructor)) ?_
  refine aops_n rfl (n_as rfl (by constructor)) ?_
  refine aops_nil ?_
  dsimp only [St.put]
  refine hK26 _ ?_
  refine aw_ret ?_
  refine ends_1 rfl (by constructor) zN zS ?_
  rfl
 skip
 refine aops_n rfl (n_not rfl rfl) ?_
 refine aops_n rfl (n_mv rfl (by constructor)) ?_
 refine aops_skip rfl ?_
 refine aops_skip rfl ?_
 refine aops_n rfl (n_pt rfl rfl (by constructor)) ?_
 refine aops_nil ?_
 dsimp only [St.put]
 refine hK4 _ ?_
 refine aw_cond rfl (fun _ => ?_) (fun h => by cases h)
 refine aw_seq_k fun K27 hK27 => ?_
 refine aw_region ?_
 refine aops_n rfl (n_mv rfl (by constructor)) ?_
 refine aops_n rfl (n_as rfl (by constructor)) ?_
 refine aops_nil ?_
 dsimp only [St.put]
 refine hK27 _ ?_
 refine aw_ret ?_
 refine ends_1 rfl (by constructor) zN zS ?_
 rfl
end Go.Proofs.YtjjklfgpffgnfaaGreatDoor
