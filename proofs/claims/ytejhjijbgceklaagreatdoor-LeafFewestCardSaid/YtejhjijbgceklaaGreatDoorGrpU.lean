/-
  What the walks through the program rest on: values, states, steps, calls (LiFacts, LmWays).
-/
import Derived.Test.YtejhjijbgceklaaGreatDoorGrpQ
import Derived.Test.YtejhjijbgceklaaGreatDoorAbRem
import Derived.Test.YtejhjijbgceklaaGreatDoorGrpX
import Derived.Test.YtejhjijbgceklaaGreatDoorGrpM
namespace Go.AB
open Go Go.RowKit
open Go.AB.Enc (cells)
open Go.PB (Chap TextD PlaceD ReadingD CopyD WayD)
section
variable {t : TextD} {i k : Nat} {x y : PW}
theorem readyT_true : readyT t = true ↔ greatB t = false ∧ textB t = true := by simp [readyT]
theorem rightC_true {c : CopyD} : rightC t c = true ↔ greatCp c = false ∧ copyB t c = true := by simp [rightC]
end
end Go.AB
namespace Go.Proofs.YtejhjijbgceklaaGreatDoor
set_option maxRecDepth 10000
open Go.RowKit Go.AB
open Go.AB.Enc (cells)
open Go.PB (Chap TextD PlaceD ReadingD CopyD WayD)
end Go.Proofs.YtejhjijbgceklaaGreatDoor
namespace Go.AB
open Go Go.RowKit
open Go.AB.Enc (cells)
open Go.PB (Chap TextD PlaceD ReadingD CopyD WayD)
theorem text_great {t : TextD} (h : textB t = true) : greatB t = false := by
 obtain ⟨_, h1, h2⟩ := text_ok h
 unfold greatB
 rw [decide_eq_false (by omega), Bool.false_or, List.any_eq_false]
 intro c hc
 obtain ⟨_, h3, h4⟩ := h2 c hc
 unfold greatChap
 rw [decide_eq_false (by omega), Bool.false_or, Bool.not_eq_true, List.any_eq_false]
 intro l hl
 obtain ⟨_, h5⟩ := h4 l hl
 unfold greatLine
 rw [decide_eq_false (by omega), Bool.false_or, Bool.not_eq_true, List.any_eq_false]
 intro s hs
 simp only [textB, Bool.and_eq_true, List.all_eq_true, chapB, lineB, wordB, inB_true] at h
 have := ((((h.1.2 c hc).2 l hl).2 s hs).1).2
 simp only [decide_eq_true_eq]
 omega
theorem ready_of {t : TextD} (h : textB t = true) : readyT t = true := readyT_true.2 ⟨text_great h, h⟩
theorem alike_iff {t u : TextD} : alikeB t u = true ↔ t.length = u.length ∧ ∀ (k : Nat) (c d : Chap), t[k]? = some c → u[k]? = some d → chapAlike c d = true := by
 unfold alikeB
 rw [Bool.and_eq_true, decide_eq_true_eq, List.all_eq_true]
 constructor
 ·rintro ⟨h1, h2⟩
  exact ⟨h1, fun k c d hc hd => h2 (c, d) (List.mem_of_getElem? (i := k) (List.getElem?_zip_eq_some.2 ⟨hc, hd⟩))⟩
 rintro ⟨h1, h2⟩
 refine ⟨h1, fun p hp => ?_⟩
 obtain ⟨k, hk⟩ := List.getElem?_of_mem hp
 rw [List.getElem?_zip_eq_some] at hk
 exact h2 k _ _ hk.1 hk.2
theorem chapAlike_true {c d : Chap} : chapAlike c d = true ↔ c.id = d.id ∧ c.lines.length = d.lines.length := by unfold chapAlike; rw [Bool.and_eq_true, decide_eq_true_eq, decide_eq_true_eq]
theorem readT_alike (t : TextD) (rs : List ReadingD) : alikeB t (readT t rs) = true := by
 refine alike_iff.2 ⟨(readT_len t rs).symm, fun k c d hc hd => ?_⟩
 rw [readT_at hc] at hd
 cases hd
 exact chapAlike_true.2 ⟨rfl, (readC_len rs k c).symm⟩
theorem twoE_alike {t u : TextD} (h1 : textB t = true) (h2 : textB u = true) (h : alikeB t u = true) : twoE t u = 0 := twoE_zero.2 ⟨h1, h2, h⟩
theorem apart_n {t u : TextD} (h : twoE t u = 0) : apartN t u = (aparts t u : Int) := by simp [apartN, h, foundE_n]
end Go.AB
namespace Go.Proofs.YtejhjijbgceklaaGreatDoor
set_option maxRecDepth 10000
open Go.RowKit Go.AB
open Go.AB.Enc (cells)
open Go.PB (Chap TextD PlaceD ReadingD CopyD WayD)
theorem lReady (t : TextD) (h : textB t = true) : Pure Tryz.prog 9 [textC t] (.v (.bool true)) := by
 have := lawReady_pure t
 rwa [ready_of h] at this
theorem lAlike (t u : TextD) (h : alikeB t u = true) : Pure Tryz.prog 12 [textC t, textC u] (.v (.bool true)) := by
 have := Alike_pure t u
 rwa [h] at this
theorem lRead (n : Nat) (t : TextD) (c : CopyD) (ht : textB t = true) (hc : copyB t c = true) : PureN n kndF Tryz.prog 11 [textC t, val c] (.tup [textC (readT t c.rs), .v (.int .i64 0)]) := by
 have hE : copyEr t c = 0 := copyEr_zero.2 ⟨ht, hc⟩
 have := leafRead_pureN n t c
 rwa [hE, show readTx t c = readT t c.rs by simp [readTx, hE]] at this
theorem lApart (t u : TextD) (ht : textB t = true) (hu : textB u = true) (h : alikeB t u = true) : Pure Tryz.prog 14 [textC t, textC u] (.tup [.v (.int .i64 (aparts t u : Int)), .v (.int .i64 0)]) := by
 have h0 := twoE_alike ht hu h
 have := leafApart_pureT t u
 rwa [apart_n h0, h0] at this
theorem lFind (t u : TextD) (n : Int) (ht : textB t = true) (hu : textB u = true) (h : alikeB t u = true) (hn : inB n 0 9999 = true) (hl : (foundE t u).length ≤ 20) : Pure Tryz.prog 13 [textC t, textC u, .v (.int .i64 n)] (.tup [val (⟨n, foundE t u⟩ : CopyD), .v (.int .i64 0)]) := by
 have h0 := twoE_alike ht hu h
 have hE : findE t u n = 0 := by simp [findE, h0, hn, show ¬ 20 < (foundE t u).length by omega]
 have := leafFind_pureT t u n
 rwa [hE, show findC t u n = ⟨n, foundE t u⟩ by simp [findC, hE]] at this
set_option maxHeartbeats 4000000 in
theorem fewest_pureN (t : TextD) (c : CopyD) : PureN 0 kndF Tryz.prog 3 [textC t, val c] (.v (.bool true)) := fun G nx hF hnx => by
 refine pc_named_of_body (G) (nx) Tryz.func3 rfl (.v) zN (fun hlt => zH) ?_
 simp only [Tryz.ntmps3, List.length_cons, List.length_nil, Nat.reduceAdd, Nat.reduceSub]
 refine aw_lt fun hlt => ?_
 dsimp only at hlt
 refine aw_seq_k fun K1 hK1 => ?_
 refine aw_region ?_
 try dsimp only [St.put]
 refine aops_e rfl (e_box rfl rfl (by simp) ?_)
 try dsimp only [St.put]
 refine aops_e rfl (e_box rfl rfl (by simp) ?_)
 refine aops_n rfl (n_as rfl (by constructor)) ?_
 refine aops_nil ?_
 dsimp only [St.put]
 refine hK1 _ ?_
 refine aw_seq_k fun K2 hK2 => ?_
 refine aw_region ?_
 try dsimp only [St.put]
 refine aops_e rfl (e_call_n rfl rfl rfl (alive_pureN 0) zG (by dsimp only [St.put]; omega) ?_)
 refine aops_n rfl (n_as rfl (by constructor)) ?_
 refine aops_nil ?_
 dsimp only [St.put]
 refine hK2 _ ?_
 refine aw_seq_k fun K3 hK3 => ?_
 refine aw_seq_k fun K4 hK4 => ?_
 refine aw_region ?_
 try dsimp only [St.put]
 refine aops_s rfl (s_load_agg' rfl rfl rfl) ?_
 try dsimp only [St.put]
 refine aops_e rfl (e_call_pure rfl rfl rfl (lawReady_pure t) ?_)
 refine aops_n rfl (n_not rfl rfl) ?_
 refine aops_n rfl (n_mv rfl (by constructor)) ?_
 refine aops_split (fun hs => ?_) (fun hs => ?_)
 ·skip
  refine aops_skip rfl ?_
  refine aops_skip rfl ?_
  refine aops_skip rfl ?_
  refine aops_skip rfl ?_
  refine aops_n rfl (n_pt rfl rfl (by constructor)) ?_
  refine aops_n rfl (n_mv rfl (by constructor)) ?_
  refine aops_skip rfl ?_
  refine aops_skip rfl ?_
  refine aops_n rfl (n_pt rfl rfl (by constructor)) ?_
  refine aops_nil ?_
  dsimp only [St.put]
  refine hK4 _ ?_
  refine aw_cond rfl (fun _ => ?_) (fun h => by cases h)
  refine aw_seq_k fun K5 hK5 => ?_
  refine aw_region ?_
  refine aops_n rfl (n_mv rfl (by constructor)) ?_
  refine aops_n rfl (n_as rfl (by constructor)) ?_
  refine aops_nil ?_
  dsimp only [St.put]
  refine hK5 _ ?_
  refine aw_ret ?_
  refine ends_1 rfl (by constructor) zN zS ?_
  rfl
 have ht : textB t = true := by
  have : readyT t = true := by simpa using hs
  exact (readyT_true.1 this).2
 try dsimp only [St.put]
 refine aops_s rfl (s_load_agg' rfl rfl rfl) ?_
 try dsimp only [St.put]
 refine aops_s rfl (s_load_agg' rfl rfl (Enc.len _)) ?_
 try dsimp only [St.put]
 refine aops_e rfl (e_call_pure rfl rfl rfl (lawRight_pure t c ht) ?_)
 refine aops_n rfl (n_not rfl rfl) ?_
 refine aops_n rfl (n_pf rfl rfl (by constructor)) ?_
 refine aops_n rfl (n_mv rfl (by constructor)) ?_
 refine aops_split (fun hs => ?_) (fun hs => ?_)
 ·skip
  refine aops_skip rfl ?_
  refine aops_skip rfl ?_
  refine aops_n rfl (n_pt rfl rfl (by constructor)) ?_
  refine aops_nil ?_
  dsimp only [St.put]
  refine hK4 _ ?_
  refine aw_cond rfl (fun _ => ?_) (fun h => by cases h)
  refine aw_seq_k fun K6 hK6 => ?_
  refine aw_region ?_
  refine aops_n rfl (n_mv rfl (by constructor)) ?_
  refine aops_n rfl (n_as rfl (by constructor)) ?_
  refine aops_nil ?_
  dsimp only [St.put]
  refine hK6 _ ?_
  refine aw_ret ?_
  refine ends_1 rfl (by constructor) zN zS ?_
  rfl
 have hc2 : copyB t c = true := by
  have : rightC t c = true := by simpa using hs
  exact (rightC_true.1 this).2
 obtain ⟨hid, hl20, hv, hln⟩ := copyB_true.1 hc2
 have hu := readT_text ht hv hln
 have hal := readT_alike t c.rs
 have hway := copy_way ht hv
 have hfn := foundE_n t (readT t c.rs)
 have hcf := foundE_copy ht hu hal hid (by omega)
 have hRd := lRead 0 t ⟨c.id, foundE t (readT t c.rs)⟩ ht hcf
 dsimp only at hRd
 rw [foundE_read ht hu hal] at hRd
 obtain ⟨x, hx⟩ : ∃ x, readT t c.rs = x := ⟨_, rfl⟩
 have hR0 := lRead 0 t c ht hc2
 rw [hx] at hu hal hway hfn hRd hcf hR0
 refine aops_n rfl (n_mv rfl (by constructor)) ?_
 refine aops_n rfl (n_not rfl rfl) ?_
 refine aops_n rfl (n_pf rfl rfl (by constructor)) ?_
 refine aops_nil ?_
 dsimp only [St.put]
 refine hK4 _ ?_
 refine aw_cond rfl (fun h => by cases h) (fun _ => ?_)
 refine aw_skip ?_
 refine hK3 _ ?_
 refine aw_seq_k fun K7 hK7 => ?_
 refine aw_region ?_
 try dsimp only [St.put]
 refine aops_s rfl (s_load_agg' rfl rfl rfl) ?_
 try dsimp only [St.put]
 refine aops_s rfl (s_load_agg' rfl rfl (Enc.len _)) ?_
 try dsimp only [St.put]
 refine aops_e rfl (e_call_n rfl rfl rfl hR0 zG (by dsimp only [St.put]; omega) ?_)
 refine aops_n rfl (n_mv rfl (by constructor)) ?_
 refine aops_n rfl (n_extract rfl rfl rfl) ?_
 refine aops_n rfl (n_extract rfl rfl rfl) ?_
 try dsimp only [St.put]
 refine aops_e rfl (e_allocC rfl ?_)
 try dsimp only [St.put]
 refine aops_e rfl (e_store_all rfl rfl rfl zG rfl rfl (by rfl) ?_)
 refine aops_n rfl (n_as rfl (by constructor)) ?_
 refine aops_nil ?_
 dsimp only [St.put]
 refine hK7 _ ?_
 refine aw_commitD (i := 6) rfl zG (by first | exact List.cons_ne_nil _ _ | (simp; done) | (simp [putAt]; done)) ?_
 dsimp only
 refine aw_seq_k fun K8 hK8 => ?_
 refine aw_seq_k fun K9 hK9 => ?_
 refine aw_region ?_
 refine aops_n rfl (n_mv rfl (by constructor)) ?_
 refine aops_n rfl (n_bool (c := false) (n_neq rfl rfl rfl) (not_dec_f rfl)) ?_
 refine aops_n rfl (n_mv rfl (by constructor)) ?_
 try dsimp only [St.put]
 refine aops_s rfl (s_load_agg' rfl rfl rfl) ?_
 try dsimp only [St.put]
 refine aops_e rfl (e_call_pure rfl rfl rfl (lReady x hu) ?_)
 refine aops_n rfl (n_not rfl rfl) ?_
 refine aops_n rfl (n_pf rfl rfl (by constructor)) ?_
 refine aops_n rfl (n_mv rfl (by constructor)) ?_
 try dsimp only [St.put]
 refine aops_s rfl (s_load_agg' rfl rfl rfl) ?_
 try dsimp only [St.put]
 refine aops_s rfl (s_load_agg' rfl rfl rfl) ?_
 try dsimp only [St.put]
 refine aops_e rfl (e_call_pure rfl rfl rfl (lAlike t x hal) ?_)
 refine aops_n rfl (n_not rfl rfl) ?_
 refine aops_n rfl (n_pf rfl rfl (by constructor)) ?_
 refine aops_nil ?_
 dsimp only [St.put]
 refine hK9 _ ?_
 refine aw_cond rfl (fun h => by cases h) (fun _ => ?_)
 refine aw_skip ?_
 refine hK8 _ ?_
 refine aw_seq_k fun K10 hK10 => ?_
 refine aw_region ?_
 try dsimp only [St.put]
 refine aops_s rfl (s_load_agg' rfl rfl rfl) ?_
 try dsimp only [St.put]
 refine aops_s rfl (s_load_agg' rfl rfl rfl) ?_
 refine aops_n rfl (n_fieldAddr' rfl rfl rfl) ?_
 try dsimp only [St.put]
 refine aops_s rfl (s_load rfl rfl) ?_
 try dsimp only [St.put]
 refine aops_e rfl (e_call_pure rfl rfl rfl (lFind t x c.id ht hu hal hid (by omega)) ?_)
 refine aops_n rfl (n_mv rfl (by constructor)) ?_
 refine aops_n rfl (n_extract rfl rfl rfl) ?_
 refine aops_n rfl (n_extract rfl rfl rfl) ?_
 try dsimp only [St.put]
 refine aops_e rfl (e_allocC rfl ?_)
 try dsimp only [St.put]
 refine aops_e rfl (e_store_all rfl rfl rfl zG rfl rfl (by rfl) ?_)
 refine aops_n rfl (n_as rfl (by constructor)) ?_
 refine aops_nil ?_
 dsimp only [St.put]
 refine hK10 _ ?_
 refine aw_commitD (i := 8) rfl zG (by first | exact List.cons_ne_nil _ _ | (simp; done) | (simp [putAt]; done)) ?_
 dsimp only
 refine aw_seq_k fun K11 hK11 => ?_
 refine aw_region ?_
 try dsimp only [St.put]
 refine aops_s rfl (s_load_agg' rfl rfl rfl) ?_
 try dsimp only [St.put]
 refine aops_s rfl (s_load_agg' rfl rfl rfl) ?_
 try dsimp only [St.put]
 refine aops_e rfl (e_call_pure rfl rfl rfl (lApart t x ht hu hal) ?_)
 refine aops_n rfl (n_mv rfl (by constructor)) ?_
 refine aops_n rfl (n_extract rfl rfl rfl) ?_
 refine aops_n rfl (n_extract rfl rfl rfl) ?_
 refine aops_n rfl (n_as rfl (by constructor)) ?_
 refine aops_n rfl (n_as rfl (by constructor)) ?_
 refine aops_nil ?_
 dsimp only [St.put]
 refine hK11 _ ?_
 refine aw_seq_k fun K12 hK12 => ?_
 refine aw_region ?_
 try dsimp only [St.put]
 refine aops_s rfl (s_load_agg' rfl rfl rfl) ?_
 try dsimp only [St.put]
 refine aops_s rfl (s_load_agg' rfl rfl (Enc.len _)) ?_
 try dsimp only [St.put]
 refine aops_e rfl (e_call_n rfl rfl rfl hRd zG (by dsimp only [St.put]; omega) ?_)
 refine aops_n rfl (n_mv rfl (by constructor)) ?_
 refine aops_n rfl (n_extract rfl rfl rfl) ?_
 refine aops_n rfl (n_extract rfl rfl rfl) ?_
 try dsimp only [St.put]
 refine aops_e rfl (e_allocC rfl ?_)
 try dsimp only [St.put]
 refine aops_e rfl (e_store_all rfl rfl rfl zG rfl rfl (by rfl) ?_)
 refine aops_n rfl (n_as rfl (by constructor)) ?_
 refine aops_nil ?_
 dsimp only [St.put]
 refine hK12 _ ?_
 refine aw_commitD (i := 12) rfl zG (by first | exact List.cons_ne_nil _ _ | (simp; done) | (simp [putAt]; done)) ?_
 dsimp only
 refine aw_seq_k fun K13 hK13 => ?_
 refine aw_region ?_
 refine aops_n rfl (n_mv rfl (by constructor)) ?_
 refine aops_n rfl (n_mv rfl (by constructor)) ?_
 refine aops_n rfl (n_mv rfl (by constructor)) ?_
 refine aops_n rfl (n_bool (c := true) (n_eql rfl rfl rfl) (decide_eq_true rfl)) ?_
 refine aops_n rfl (n_pt rfl rfl (by constructor)) ?_
 refine aops_n rfl (n_mv rfl (by constructor)) ?_
 refine aops_n rfl (n_mv rfl (by constructor)) ?_
 refine aops_n rfl (n_bool (c := true) (n_eql rfl rfl rfl) (decide_eq_true rfl)) ?_
 refine aops_n rfl (n_pt rfl rfl (by constructor)) ?_
 refine aops_n rfl (n_mv rfl (by constructor)) ?_
 refine aops_n rfl (n_mv rfl (by constructor)) ?_
 refine aops_n rfl (n_fieldAddr' rfl rfl rfl) ?_
 try dsimp only [St.put]
 refine aops_s rfl (s_load rfl rfl) ?_
 refine aops_n rfl (n_len' rfl rfl (List.length_map _)) ?_
 refine aops_n rfl (n_bool (c := true) (n_eql rfl rfl rfl) (decide_eq_true (by omega))) ?_
 refine aops_n rfl (n_pt rfl rfl (by constructor)) ?_
 refine aops_n rfl (n_mv rfl (by constructor)) ?_
 refine aops_n rfl (n_mv rfl (by constructor)) ?_
 refine aops_n rfl (n_fieldAddr' rfl rfl rfl) ?_
 try dsimp only [St.put]
 refine aops_s rfl (s_load rfl rfl) ?_
 refine aops_n rfl (n_len' rfl rfl (List.length_map _)) ?_
 refine aops_n rfl (n_bool (c := true) (n_leq rfl rfl rfl) (decide_eq_true (by omega))) ?_
 refine aops_n rfl (n_pt rfl rfl (by constructor)) ?_
 refine aops_n rfl (n_mv rfl (by constructor)) ?_
 refine aops_n rfl (n_mv rfl (by constructor)) ?_
 refine aops_n rfl (n_bool (c := true) (n_eql rfl rfl rfl) (decide_eq_true rfl)) ?_
 refine aops_n rfl (n_pt rfl rfl (by constructor)) ?_
 refine aops_n rfl (n_mv rfl (by constructor)) ?_
 try dsimp only [St.put]
 refine aops_s rfl (s_load_agg' rfl rfl rfl) ?_
 try dsimp only [St.put]
 refine aops_s rfl (s_load_agg' rfl rfl rfl) ?_
 try dsimp only [St.put]
 refine aops_e rfl (e_call_pure rfl rfl rfl (lSame x) ?_)
 refine aops_n rfl (n_pt rfl rfl (by constructor)) ?_
 refine aops_n rfl (n_as rfl (by constructor)) ?_
 refine aops_nil ?_
 dsimp only [St.put]
 refine hK13 _ ?_
 refine aw_ret ?_
 refine ends_1 rfl (by constructor) zN zS ?_
 rfl
end Go.Proofs.YtejhjijbgceklaaGreatDoor
