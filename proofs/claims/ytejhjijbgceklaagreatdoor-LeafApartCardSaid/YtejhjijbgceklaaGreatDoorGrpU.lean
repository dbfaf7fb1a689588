/-
  What the walks through the program rest on: values, states, steps, calls (LiFacts, LmWays).
-/
import Derived.Test.YtejhjijbgceklaaGreatDoorGrpQ
import Derived.Test.YtejhjijbgceklaaGreatDoorAbRem
import Derived.Test.YtejhjijbgceklaaGreatDoorGrpX
import Derived.Test.YtejhjijbgceklaaGreatDoorGrpM
namespace Go.AB
open Go Go.RowKit
open Go.AB.Enc (cells)
open Go.PB (Chap TextD PlaceD ReadingD CopyD WayD)
section
variable {t : TextD} {i k : Nat} {x y : PW}
theorem readyT_true : readyT t = true ↔ greatB t = false ∧ textB t = true := by simp [readyT]
theorem rightC_true {c : CopyD} : rightC t c = true ↔ greatCp c = false ∧ copyB t c = true := by simp [rightC]
end
end Go.AB
namespace Go.Proofs.YtejhjijbgceklaaGreatDoor
set_option maxRecDepth 10000
open Go.RowKit Go.AB
open Go.AB.Enc (cells)
open Go.PB (Chap TextD PlaceD ReadingD CopyD WayD)
end Go.Proofs.YtejhjijbgceklaaGreatDoor
namespace Go.AB
open Go Go.RowKit
open Go.AB.Enc (cells)
open Go.PB (Chap TextD PlaceD ReadingD CopyD WayD)
theorem alike_iff {t u : TextD} : alikeB t u = true ↔ t.length = u.length ∧ ∀ (k : Nat) (c d : Chap), t[k]? = some c → u[k]? = some d → chapAlike c d = true := by
 unfold alikeB
 rw [Bool.and_eq_true, decide_eq_true_eq, List.all_eq_true]
 constructor
 ·rintro ⟨h1, h2⟩
  exact ⟨h1, fun k c d hc hd => h2 (c, d) (List.mem_of_getElem? (i := k) (List.getElem?_zip_eq_some.2 ⟨hc, hd⟩))⟩
 rintro ⟨h1, h2⟩
 refine ⟨h1, fun p hp => ?_⟩
 obtain ⟨k, hk⟩ := List.getElem?_of_mem hp
 rw [List.getElem?_zip_eq_some] at hk
 exact h2 k _ _ hk.1 hk.2
theorem chapAlike_true {c d : Chap} : chapAlike c d = true ↔ c.id = d.id ∧ c.lines.length = d.lines.length := by unfold chapAlike; rw [Bool.and_eq_true, decide_eq_true_eq, decide_eq_true_eq]
theorem alike_symm {t u : TextD} (h : alikeB t u = true) : alikeB u t = true := by
 obtain ⟨h1, h2⟩ := alike_iff.1 h
 refine alike_iff.2 ⟨h1.symm, fun k c d hc hd => ?_⟩
 have := chapAlike_true.1 (h2 k d c hd hc)
 exact chapAlike_true.2 ⟨this.1.symm, this.2.symm⟩
theorem alike_trans {t u x : TextD} (h : alikeB t u = true) (h' : alikeB u x = true) : alikeB t x = true := by
 obtain ⟨h1, h2⟩ := alike_iff.1 h
 obtain ⟨h3, h4⟩ := alike_iff.1 h'
 refine alike_iff.2 ⟨h1.trans h3, fun k c d hc hd => ?_⟩
 have hlt := (List.getElem?_eq_some_iff.1 hc).1
 obtain ⟨e, he⟩ : ∃ e, u[k]? = some e := ⟨u[k], List.getElem?_eq_getElem (by omega)⟩
 have q1 := chapAlike_true.1 (h2 k c e hc he)
 have q2 := chapAlike_true.1 (h4 k e d he hd)
 exact chapAlike_true.2 ⟨q1.1.trans q2.1, q1.2.trans q2.2⟩
theorem readT_alike (t : TextD) (rs : List ReadingD) : alikeB t (readT t rs) = true := by
 refine alike_iff.2 ⟨(readT_len t rs).symm, fun k c d hc hd => ?_⟩
 rw [readT_at hc] at hd
 cases hd
 exact chapAlike_true.2 ⟨rfl, (readC_len rs k c).symm⟩
theorem twoE_alike {t u : TextD} (h1 : textB t = true) (h2 : textB u = true) (h : alikeB t u = true) : twoE t u = 0 := twoE_zero.2 ⟨h1, h2, h⟩
theorem apart_n {t u : TextD} (h : twoE t u = 0) : apartN t u = (aparts t u : Int) := by simp [apartN, h, foundE_n]
end Go.AB
namespace Go.Proofs.YtejhjijbgceklaaGreatDoor
set_option maxRecDepth 10000
open Go.RowKit Go.AB
open Go.AB.Enc (cells)
open Go.PB (Chap TextD PlaceD ReadingD CopyD WayD)
theorem lRead (n : Nat) (t : TextD) (c : CopyD) (ht : textB t = true) (hc : copyB t c = true) : PureN n kndF Tryz.prog 11 [textC t, val c] (.tup [textC (readT t c.rs), .v (.int .i64 0)]) := by
 have hE : copyEr t c = 0 := copyEr_zero.2 ⟨ht, hc⟩
 have := leafRead_pureN n t c
 rwa [hE, show readTx t c = readT t c.rs by simp [readTx, hE]] at this
theorem lApart (t u : TextD) (ht : textB t = true) (hu : textB u = true) (h : alikeB t u = true) : Pure Tryz.prog 14 [textC t, textC u] (.tup [.v (.int .i64 (aparts t u : Int)), .v (.int .i64 0)]) := by
 have h0 := twoE_alike ht hu h
 have := leafApart_pureT t u
 rwa [apart_n h0, h0] at this
set_option maxHeartbeats 4000000 in
theorem apart_pureN (t u : TextD) (c : CopyD) : PureN 0 kndF Tryz.prog 4 [textC t, textC u, val c] (.v (.bool true)) := fun G nx hF hnx => by
 refine pc_named_of_body (G) (nx) Tryz.func4 rfl (.v) zN (fun hlt => zH) ?_
 simp only [Tryz.ntmps4, List.length_cons, List.length_nil, Nat.reduceAdd, Nat.reduceSub]
 refine aw_lt fun hlt => ?_
 dsimp only at hlt
 refine aw_seq_k fun K1 hK1 => ?_
 refine aw_region ?_
 try dsimp only [St.put]
 refine aops_e rfl (e_box rfl rfl (by simp) ?_)
 try dsimp only [St.put]
 refine aops_e rfl (e_box rfl rfl (by simp) ?_)
 try dsimp only [St.put]
 refine aops_e rfl (e_box rfl rfl (by simp) ?_)
 refine aops_n rfl (n_as rfl (by constructor)) ?_
 refine aops_nil ?_
 dsimp only [St.put]
 refine hK1 _ ?_
 refine aw_seq_k fun K2 hK2 => ?_
 refine aw_region ?_
 try dsimp only [St.put]
 refine aops_e rfl (e_call_n rfl rfl rfl (alive_pureN 0) zG (by dsimp only [St.put]; omega) ?_)
 refine aops_n rfl (n_as rfl (by constructor)) ?_
 refine aops_nil ?_
 dsimp only [St.put]
 refine hK2 _ ?_
 refine aw_seq_k fun K3 hK3 => ?_
 refine aw_seq_k fun K4 hK4 => ?_
 refine aw_region ?_
 try dsimp only [St.put]
 refine aops_s rfl (s_load_agg' rfl rfl rfl) ?_
 try dsimp only [St.put]
 refine aops_e rfl (e_call_pure rfl rfl rfl (lawReady_pure t) ?_)
 refine aops_n rfl (n_not rfl rfl) ?_
 refine aops_n rfl (n_mv rfl (by constructor)) ?_
 refine aops_split (fun hs => ?_) (fun hs => ?_)
 ·skip
  refine aops_skip rfl ?_
  refine aops_skip rfl ?_
  refine aops_skip rfl ?_
  refine aops_n rfl (n_pt rfl rfl (by constructor)) ?_
  refine aops_n rfl (n_mv rfl (by constructor)) ?_
  refine aops_skip rfl ?_
  refine aops_skip rfl ?_
  refine aops_skip rfl ?_
  refine aops_skip rfl ?_
  refine aops_n rfl (n_pt rfl rfl (by constructor)) ?_
  refine aops_n rfl (n_mv rfl (by constructor)) ?_
  refine aops_skip rfl ?_
  refine aops_skip rfl ?_
  refine aops_skip rfl ?_
  refine aops_skip rfl ?_
  refine aops_n rfl (n_pt rfl rfl (by constructor)) ?_
  refine aops_n rfl (n_mv rfl (by constructor)) ?_
  refine aops_skip rfl ?_
  refine aops_skip rfl ?_
  refine aops_n rfl (n_pt rfl rfl (by constructor)) ?_
  refine aops_nil ?_
  dsimp only [St.put]
  refine hK4 _ ?_
  refine aw_cond rfl (fun _ => ?_) (fun h => by cases h)
  refine aw_seq_k fun K5 hK5 => ?_
  refine aw_region ?_
  refine aops_n rfl (n_mv rfl (by constructor)) ?_
  refine aops_n rfl (n_as rfl (by constructor)) ?_
  refine aops_nil ?_
  dsimp only [St.put]
  refine hK5 _ ?_
  refine aw_ret ?_
  refine ends_1 rfl (by constructor) zN zS ?_
  rfl
 have ht : textB t = true := by
  have : readyT t = true := by simpa using hs
  exact (readyT_true.1 this).2
 try dsimp only [St.put]
 refine aops_s rfl (s_load_agg' rfl rfl rfl) ?_
 try dsimp only [St.put]
 refine aops_e rfl (e_call_pure rfl rfl rfl (lawReady_pure u) ?_)
 refine aops_n rfl (n_not rfl rfl) ?_
 refine aops_n rfl (n_pf rfl rfl (by constructor)) ?_
 refine aops_n rfl (n_mv rfl (by constructor)) ?_
 refine aops_split (fun hs => ?_) (fun hs => ?_)
 ·skip
  refine aops_skip rfl ?_
  refine aops_skip rfl ?_
  refine aops_skip rfl ?_
  refine aops_skip rfl ?_
  refine aops_n rfl (n_pt rfl rfl (by constructor)) ?_
  refine aops_n rfl (n_mv rfl (by constructor)) ?_
  refine aops_skip rfl ?_
  refine aops_skip rfl ?_
  refine aops_skip rfl ?_
  refine aops_skip rfl ?_
  refine aops_n rfl (n_pt rfl rfl (by constructor)) ?_
  refine aops_n rfl (n_mv rfl (by constructor)) ?_
  refine aops_skip rfl ?_
  refine aops_skip rfl ?_
  refine aops_n rfl (n_pt rfl rfl (by constructor)) ?_
  refine aops_nil ?_
  dsimp only [St.put]
  refine hK4 _ ?_
  refine aw_cond rfl (fun _ => ?_) (fun h => by cases h)
  refine aw_seq_k fun K6 hK6 => ?_
  refine aw_region ?_
  refine aops_n rfl (n_mv rfl (by constructor)) ?_
  refine aops_n rfl (n_as rfl (by constructor)) ?_
  refine aops_nil ?_
  dsimp only [St.put]
  refine hK6 _ ?_
  refine aw_ret ?_
  refine ends_1 rfl (by constructor) zN zS ?_
  rfl
 have hu : textB u = true := by
  have : readyT u = true := by simpa using hs
  exact (readyT_true.1 this).2
 try dsimp only [St.put]
 refine aops_s rfl (s_load_agg' rfl rfl rfl) ?_
 try dsimp only [St.put]
 refine aops_s rfl (s_load_agg' rfl rfl (Enc.len _)) ?_
 try dsimp only [St.put]
 refine aops_e rfl (e_call_pure rfl rfl rfl (lawRight_pure t c ht) ?_)
 refine aops_n rfl (n_not rfl rfl) ?_
 refine aops_n rfl (n_pf rfl rfl (by constructor)) ?_
 refine aops_n rfl (n_mv rfl (by constructor)) ?_
 refine aops_split (fun hs => ?_) (fun hs => ?_)
 ·skip
  refine aops_skip rfl ?_
  refine aops_skip rfl ?_
  refine aops_skip rfl ?_
  refine aops_skip rfl ?_
  refine aops_n rfl (n_pt rfl rfl (by constructor)) ?_
  refine aops_n rfl (n_mv rfl (by constructor)) ?_
  refine aops_skip rfl ?_
  refine aops_skip rfl ?_
  refine aops_n rfl (n_pt rfl rfl (by constructor)) ?_
  refine aops_nil ?_
  dsimp only [St.put]
  refine hK4 _ ?_
  refine aw_cond rfl (fun _ => ?_) (fun h => by cases h)
  refine aw_seq_k fun K7 hK7 => ?_
  refine aw_region ?_
  refine aops_n rfl (n_mv rfl (by constructor)) ?_
  refine aops_n rfl (n_as rfl (by constructor)) ?_
  refine aops_nil ?_
  dsimp only [St.put]
  refine hK7 _ ?_
  refine aw_ret ?_
  refine ends_1 rfl (by constructor) zN zS ?_
  rfl
 have hc2 : copyB t c = true := by
  have : rightC t c = true := by simpa using hs
  exact (rightC_true.1 this).2
 obtain ⟨hid, hl20, hv, hln⟩ := copyB_true.1 hc2
 have hxT := readT_text ht hv hln
 have hax := readT_alike t c.rs
 have hway := copy_way ht hv
 obtain ⟨x, hx⟩ : ∃ x, readT t c.rs = x := ⟨_, rfl⟩
 have hR0 := lRead 0 t c ht hc2
 rw [hx] at hxT hax hway hR0
 try dsimp only [St.put]
 refine aops_s rfl (s_load_agg' rfl rfl rfl) ?_
 try dsimp only [St.put]
 refine aops_s rfl (s_load_agg' rfl rfl rfl) ?_
 try dsimp only [St.put]
 refine aops_e rfl (e_call_pure rfl rfl rfl (Alike_pure t u) ?_)
 refine aops_n rfl (n_not rfl rfl) ?_
 refine aops_n rfl (n_pf rfl rfl (by constructor)) ?_
 refine aops_n rfl (n_mv rfl (by constructor)) ?_
 refine aops_split (fun hs => ?_) (fun hs => ?_)
 ·skip
  refine aops_skip rfl ?_
  refine aops_skip rfl ?_
  refine aops_n rfl (n_pt rfl rfl (by constructor)) ?_
  refine aops_nil ?_
  dsimp only [St.put]
  refine hK4 _ ?_
  refine aw_cond rfl (fun _ => ?_) (fun h => by cases h)
  refine aw_seq_k fun K8 hK8 => ?_
  refine aw_region ?_
  refine aops_n rfl (n_mv rfl (by constructor)) ?_
  refine aops_n rfl (n_as rfl (by constructor)) ?_
  refine aops_nil ?_
  dsimp only [St.put]
  refine hK8 _ ?_
  refine aw_ret ?_
  refine ends_1 rfl (by constructor) zN zS ?_
  rfl
 have hal : alikeB t u = true := by simpa using hs
 have hxu := alike_trans (alike_symm hax) hal
 have q1 := aparts_flip hal
 have q2 := aparts_tri (u := u) hax
 have q3 := aparts_tri (u := x) hal
 have q4 := aparts_flip hxu
 have q5 := aparts_zero hal
 have hL1 := foundE_len ht hxT hax
 have hL2 := foundE_len hxT hu hxu
 have hL3 := foundE_len ht hu hal
 rw [foundE_n] at hL1 hL2 hL3
 refine aops_n rfl (n_mv rfl (by constructor)) ?_
 refine aops_n rfl (n_not rfl rfl) ?_
 refine aops_n rfl (n_pf rfl rfl (by constructor)) ?_
 refine aops_nil ?_
 dsimp only [St.put]
 refine hK4 _ ?_
 refine aw_cond rfl (fun h => by cases h) (fun _ => ?_)
 refine aw_skip ?_
 refine hK3 _ ?_
 refine aw_seq_k fun K9 hK9 => ?_
 refine aw_region ?_
 try dsimp only [St.put]
 refine aops_s rfl (s_load_agg' rfl rfl rfl) ?_
 try dsimp only [St.put]
 refine aops_s rfl (s_load_agg' rfl rfl (Enc.len _)) ?_
 try dsimp only [St.put]
 refine aops_e rfl (e_call_n rfl rfl rfl hR0 zG (by dsimp only [St.put]; omega) ?_)
 refine aops_n rfl (n_mv rfl (by constructor)) ?_
 refine aops_n rfl (n_extract rfl rfl rfl) ?_
 refine aops_n rfl (n_extract rfl rfl rfl) ?_
 try dsimp only [St.put]
 refine aops_e rfl (e_allocC rfl ?_)
 try dsimp only [St.put]
 refine aops_e rfl (e_store_all rfl rfl rfl zG rfl rfl (by rfl) ?_)
 refine aops_n rfl (n_as rfl (by constructor)) ?_
 refine aops_nil ?_
 dsimp only [St.put]
 refine hK9 _ ?_
 refine aw_commitD (i := 8) rfl zG (by first | exact List.cons_ne_nil _ _ | (simp; done) | (simp [putAt]; done)) ?_
 dsimp only
 refine aw_seq_k fun K10 hK10 => ?_
 refine aw_seq_k fun K11 hK11 => ?_
 refine aw_region ?_
 refine aops_n rfl (n_mv rfl (by constructor)) ?_
 refine aops_n rfl (n_bool (c := false) (n_neq rfl rfl rfl) (not_dec_f rfl)) ?_
 refine aops_nil ?_
 dsimp only [St.put]
 refine hK11 _ ?_
 refine aw_cond rfl (fun h => by cases h) (fun _ => ?_)
 refine aw_skip ?_
 refine hK10 _ ?_
 refine aw_seq_k fun K12 hK12 => ?_
 refine aw_region ?_
 try dsimp only [St.put]
 refine aops_s rfl (s_load_agg' rfl rfl rfl) ?_
 try dsimp only [St.put]
 refine aops_s rfl (s_load_agg' rfl rfl rfl) ?_
 try dsimp only [St.put]
 refine aops_e rfl (e_call_pure rfl rfl rfl (lApart t u ht hu hal) ?_)
 refine aops_n rfl (n_mv rfl (by constructor)) ?_
 refine aops_n rfl (n_extract rfl rfl rfl) ?_
 refine aops_n rfl (n_extract rfl rfl rfl) ?_
 refine aops_n rfl (n_as rfl (by constructor)) ?_
 refine aops_n rfl (n_as rfl (by constructor)) ?_
 refine aops_nil ?_
 dsimp only [St.put]
 refine hK12 _ ?_
 refine aw_seq_k fun K13 hK13 => ?_
 refine aw_region ?_
 try dsimp only [St.put]
 refine aops_s rfl (s_load_agg' rfl rfl rfl) ?_
 try dsimp only [St.put]
 refine aops_s rfl (s_load_agg' rfl rfl rfl) ?_
 try dsimp only [St.put]
 refine aops_e rfl (e_call_pure rfl rfl rfl (lApart u t hu ht (alike_symm hal)) ?_)
 refine aops_n rfl (n_mv rfl (by constructor)) ?_
 refine aops_n rfl (n_extract rfl rfl rfl) ?_
 refine aops_n rfl (n_extract rfl rfl rfl) ?_
 refine aops_n rfl (n_as rfl (by constructor)) ?_
 refine aops_n rfl (n_as rfl (by constructor)) ?_
 refine aops_nil ?_
 dsimp only [St.put]
 refine hK13 _ ?_
 refine aw_seq_k fun K14 hK14 => ?_
 refine aw_region ?_
 try dsimp only [St.put]
 refine aops_s rfl (s_load_agg' rfl rfl rfl) ?_
 try dsimp only [St.put]
 refine aops_s rfl (s_load_agg' rfl rfl rfl) ?_
 try dsimp only [St.put]
 refine aops_e rfl (e_call_pure rfl rfl rfl (lApart t x ht hxT hax) ?_)
 refine aops_n rfl (n_mv rfl (by constructor)) ?_
 refine aops_n rfl (n_extract rfl rfl rfl) ?_
 refine aops_n rfl (n_extract rfl rfl rfl) ?_
 refine aops_n rfl (n_as rfl (by constructor)) ?_
 refine aops_n rfl (n_as rfl (by constructor)) ?_
 refine aops_nil ?_
 dsimp only [St.put]
 refine hK14 _ ?_
 refine aw_seq_k fun K15 hK15 => ?_
 refine aw_region ?_
 try dsimp only [St.put]
 refine aops_s rfl (s_load_agg' rfl rfl rfl) ?_
 try dsimp only [St.put]
 refine aops_s rfl (s_load_agg' rfl rfl rfl) ?_
 try dsimp only [St.put]
 refine aops_e rfl (e_call_pure rfl rfl rfl (lApart x u hxT hu hxu) ?_)
 refine aops_n rfl (n_mv rfl (by constructor)) ?_
 refine aops_n rfl (n_extract rfl rfl rfl) ?_
 refine aops_n rfl (n_extract rfl rfl rfl) ?_
 refine aops_n rfl (n_as rfl (by constructor)) ?_
 refine aops_n rfl (n_as rfl (by constructor)) ?_
 refine aops_nil ?_
 dsimp only [St.put]
 refine hK15 _ ?_
 refine aw_seq_k fun K16 hK16 => ?_
 refine aw_region ?_
 refine aops_n rfl (n_mv rfl (by constructor)) ?_
 refine aops_n rfl (n_mv rfl (by constructor)) ?_
 refine aops_n rfl (n_mv rfl (by constructor)) ?_
 refine aops_n rfl (n_bool (c := true) (n_eql rfl rfl rfl) (decide_eq_true rfl)) ?_
 refine aops_n rfl (n_pt rfl rfl (by constructor)) ?_
 refine aops_n rfl (n_mv rfl (by constructor)) ?_
 refine aops_n rfl (n_mv rfl (by constructor)) ?_
 refine aops_n rfl (n_bool (c := true) (n_eql rfl rfl rfl) (decide_eq_true rfl)) ?_
 refine aops_n rfl (n_pt rfl rfl (by constructor)) ?_
 refine aops_n rfl (n_mv rfl (by constructor)) ?_
 refine aops_n rfl (n_mv rfl (by constructor)) ?_
 refine aops_n rfl (n_bool (c := true) (n_eql rfl rfl rfl) (decide_eq_true rfl)) ?_
 refine aops_n rfl (n_pt rfl rfl (by constructor)) ?_
 refine aops_n rfl (n_mv rfl (by constructor)) ?_
 refine aops_n rfl (n_mv rfl (by constructor)) ?_
 refine aops_n rfl (n_bool (c := true) (n_eql rfl rfl rfl) (decide_eq_true rfl)) ?_
 refine aops_n rfl (n_pt rfl rfl (by constructor)) ?_
 refine aops_n rfl (n_mv rfl (by constructor)) ?_
 refine aops_n rfl (n_mv rfl (by constructor)) ?_
 refine aops_n rfl (n_mv rfl (by constructor)) ?_
 refine aops_n rfl (n_bool (c := true) (n_eql rfl rfl rfl) (decide_eq_true (by omega))) ?_
 refine aops_n rfl (n_pt rfl rfl (by constructor)) ?_
 refine aops_n rfl (n_mv rfl (by constructor)) ?_
 refine aops_n rfl (n_mv rfl (by constructor)) ?_
 refine aops_n rfl (n_bool (c := true) (n_geq rfl rfl rfl) (by simp)) ?_
 refine aops_n rfl (n_pt rfl rfl (by constructor)) ?_
 refine aops_n rfl (n_mv rfl (by constructor)) ?_
 refine aops_n rfl (n_mv rfl (by constructor)) ?_
 refine aops_n rfl (n_eql rfl rfl rfl) ?_
 try dsimp only [St.put]
 refine aops_s rfl (s_load_agg' rfl rfl rfl) ?_
 try dsimp only [St.put]
 refine aops_s rfl (s_load_agg' rfl rfl rfl) ?_
 try dsimp only [St.put]
 refine aops_e rfl (e_call_pure rfl rfl rfl (Same_pure t u) ?_)
 refine aops_n rfl (n_bool (c := true) (n_beql rfl rfl rfl rfl) (beq_iff (decide_eq_true_iff.trans (by rw [← q5]; omega)))) ?_
 refine aops_n rfl (n_pt rfl rfl (by constructor)) ?_
 refine aops_n rfl (n_mv rfl (by constructor)) ?_
 refine aops_n rfl (n_mv rfl (by constructor)) ?_
 refine aops_n rfl (n_mv rfl (by constructor)) ?_
 refine aops_n rfl (n_mv rfl (by constructor)) ?_
 refine aops_n rfl (n_add rfl rfl rfl (by omega)) ?_
 refine aops_n rfl (n_bool (c := true) (n_leq rfl rfl rfl) (decide_eq_true (by omega))) ?_
 refine aops_n rfl (n_pt rfl rfl (by constructor)) ?_
 refine aops_n rfl (n_mv rfl (by constructor)) ?_
 refine aops_n rfl (n_mv rfl (by constructor)) ?_
 refine aops_n rfl (n_mv rfl (by constructor)) ?_
 refine aops_n rfl (n_mv rfl (by constructor)) ?_
 refine aops_n rfl (n_add rfl rfl rfl (by omega)) ?_
 refine aops_n rfl (n_bool (c := true) (n_leq rfl rfl rfl) (decide_eq_true (by omega))) ?_
 refine aops_n rfl (n_pt rfl rfl (by constructor)) ?_
 refine aops_n rfl (n_mv rfl (by constructor)) ?_
 refine aops_n rfl (n_mv rfl (by constructor)) ?_
 refine aops_n rfl (n_fieldAddr' rfl rfl rfl) ?_
 try dsimp only [St.put]
 refine aops_s rfl (s_load rfl rfl) ?_
 refine aops_n rfl (n_len' rfl rfl (List.length_map _)) ?_
 refine aops_n rfl (n_bool (c := true) (n_leq rfl rfl rfl) (decide_eq_true (by omega))) ?_
 refine aops_n rfl (n_pt rfl rfl (by constructor)) ?_
 refine aops_n rfl (n_as rfl (by constructor)) ?_
 refine aops_nil ?_
 dsimp only [St.put]
 refine hK16 _ ?_
 refine aw_ret ?_
 refine ends_1 rfl (by constructor) zN zS ?_
 rfl
end Go.Proofs.YtejhjijbgceklaaGreatDoor
