/-
 Contracts of the program's functions of texts: how many words, the place of a number, the places of a word.
-/
import Derived.Test.YtejhjijbgceklaaKbIndex
namespace Go.AB
open Go Go.RowKit
open Go.AB.Enc (cells)
open Go.PB (Chap TextD PlaceD ReadingD CopyD WayD)
/-- so many were counted -/
def ctG (G : Nat → Option GObj) (n : Nat) (zs : List PW) : Nat → Option GObj := setG G n (.box (zs.length + 1) [.v (.int .i64 (zs.length : Int))])
/-- what is left of a number behind so many -/
def dnV (n : Int) (k : Nat) : Int := bif decide (-9223372036854775808 ≤ n - (k : Int)) then n - (k : Int) else n - (k : Int) + 18446744073709551616
theorem dnV_start {n : Int} (h : I64 n) : dnV n 0 = n := by
 unfold I64 at h
 unfold dnV
 rw [decide_eq_true (by omega)]; simp
theorem dnV_step {n : Int} (h : I64 n) {k : Nat} (hk : k ≤ 1000) : IntKind.i64.wrap (dnV n k - 1) = dnV n (k + 1) := by
 unfold I64 at h
 rw [IntKind.wrap_i64]
 unfold dnV
 by_cases h1 : -9223372036854775808 ≤ n - (k : Int)
 ·by_cases h2 : -9223372036854775808 ≤ n - ((k + 1 : Nat) : Int)
  ·rw [decide_eq_true h1, decide_eq_true h2]; simp only [cond_true]; omega
  rw [decide_eq_true h1, decide_eq_false h2]; simp only [cond_true, cond_false]; omega
 have h2 : ¬ -9223372036854775808 ≤ n - ((k + 1 : Nat) : Int) := by omega
 rw [decide_eq_false h1, decide_eq_false h2]; simp only [cond_false]; omega
theorem dnV_zero {n : Int} (h : I64 n) {k : Nat} (hk : k ≤ 1000) : dnV n k = 0 ↔ n = (k : Int) := by
 unfold I64 at h
 unfold dnV
 by_cases h1 : -9223372036854775808 ≤ n - (k : Int)
 ·rw [decide_eq_true h1]; simp only [cond_true]; omega
 rw [decide_eq_false h1]; simp only [cond_false]; omega
/-- so many are left; where the number is used up, nothing is -/
def dnG (G : Nat → Option GObj) (n : Nat) (k : Int) (l : Nat) : Nat → Option GObj := bif decide (0 ≤ k ∧ k < (l : Int)) then setG G n (.arr 0 0 0 0 0 []) else setG G n (.box l [.v (.int .i64 (dnV k l))])
theorem dnG_no {G : Nat → Option GObj} {n : Nat} {k : Int} {l : Nat} (h : ¬ (0 ≤ k ∧ k < (l : Int))) : dnG G n k l = setG G n (.box l [.v (.int .i64 (dnV k l))]) := by unfold dnG; rw [decide_eq_false h]; rfl
theorem dnG_yes {G : Nat → Option GObj} {n : Nat} {k : Int} {l : Nat} (h : 0 ≤ k ∧ k < (l : Int)) : dnG G n k l n = some (.arr 0 0 0 0 0 []) := by unfold dnG; rw [decide_eq_true h]; exact setG_same _ _ _
theorem plAt_prefix {t : TextD} {pre : List PW} {x : PW} (h : pre ++ [x] <+: allP t) : plAt t pre.length = x.1 := by
 obtain ⟨r, hr⟩ := h
 refine plAt_some (x := x) ?_
 rw [← hr, List.append_assoc, List.getElem?_append_right (Nat.le_refl _), Nat.sub_self]; rfl
end Go.AB
namespace Go.Proofs.Ytejhjijbgceklaa
set_option maxRecDepth 10000
open Go.RowKit Go.AB
open Go.AB.Enc (cells)
open Go.PB (Chap TextD PlaceD ReadingD CopyD WayD)
theorem leafWords_pure (t : TextD) : Pure Try.prog 13 [textC t] (.tup [.v (.int .i64 (wordsN t)), .v (.int .i64 (textEr t))]) := by
 refine pure_of_body Try.func13 rfl (fun m => .tup (low_cons .v (low_cons .v low_nil))) fun G nx => ?_
 simp only [Try.ntmps13, List.length_cons, List.length_nil, Nat.reduceAdd, Nat.reduceSub]
 refine aw_lt fun hlt => ?_
 dsimp only at hlt
 refine aw_seq_k fun K1 hK1 => ?_
 refine aw_region ?_
 try dsimp only [St.put]
 refine aops_e rfl (e_box rfl rfl (by simp) ?_)
 refine aops_n rfl (n_as rfl (by constructor)) ?_
 refine aops_n rfl (n_as rfl (by constructor)) ?_
 refine aops_nil ?_
 dsimp only [St.put]
 refine hK1 _ ?_
 refine aw_seq_k fun K2 hK2 => ?_
 refine aw_region ?_
 try dsimp only [St.put]
 refine aops_s rfl (s_load_agg' rfl rfl rfl) ?_
 try dsimp only [St.put]
 refine aops_e rfl (e_call_pure rfl rfl rfl (leafOpen_pure t) ?_)
 refine aops_n rfl (n_mv rfl (by constructor)) ?_
 refine aops_n rfl (n_extract rfl rfl rfl) ?_
 refine aops_n rfl (n_extract rfl rfl rfl) ?_
 refine aops_n rfl (n_as rfl (by constructor)) ?_
 refine aops_n rfl (n_as rfl (by constructor)) ?_
 refine aops_nil ?_
 dsimp only [St.put]
 refine hK2 _ ?_
 refine aw_seq_k fun K3 hK3 => ?_
 refine aw_seq_k fun K4 hK4 => ?_
 refine aw_region ?_
 refine aops_n rfl (n_mv rfl (by constructor)) ?_
 refine aops_n rfl (n_neq rfl rfl rfl) ?_
 refine aops_nil ?_
 dsimp only [St.put]
 refine hK4 _ ?_
 refine aw_cond rfl (fun hc => ?_) (fun hc => ?_)
 ·have htx : textB t = false := by
   cases h : textB t
   ·rfl
   simp [textEr, h] at hc
  refine aw_seq_k fun K5 hK5 => ?_
  refine aw_region ?_
  refine aops_n rfl (n_mv rfl (by constructor)) ?_
  refine aops_n rfl (n_as rfl (by constructor)) ?_
  refine aops_n rfl (n_as rfl (by constructor)) ?_
  refine aops_nil ?_
  dsimp only [St.put]
  refine hK5 _ ?_
  refine aw_ret ?_
  refine ends_2 rfl (by constructor) (by constructor) zN zS ?_ ?_
  ·exact vi (by simp [wordsN, htx])
  rfl
 have htx : textB t = true := by
  cases h : textB t
  ·simp [textEr, h] at hc
  rfl
 rw [show openC t = .elem [lst t] by simp [openC, htx]]
 have hlen := allP_len htx
 refine aw_skip ?_
 refine hK3 _ ?_
 refine aw_seq_k fun K6 hK6 => ?_
 refine aw_region ?_
 try dsimp only [St.put]
 refine aops_e rfl (e_allocC rfl ?_)
 try dsimp only [St.put]
 refine aops_e rfl (e_store_all rfl rfl rfl zG rfl rfl (by rfl) ?_)
 refine aops_nil ?_
 dsimp only [St.put]
 refine hK6 _ ?_
 refine aw_seq_k fun K7 hK7 => ?_
 refine aw_seq_k fun K8 hK8 => ?_
 refine aw_region ?_
 refine aops_n rfl (n_mv rfl (by constructor)) ?_
 try dsimp only [St.put]
 refine aops_e rfl (e_call_one rfl rfl rfl (leafAll_pc t _ _) ?_)
 refine aops_nil ?_
 dsimp only [St.put]
 refine hK8 _ ?_
 refine aw_block ?_
 refine aw_wipe 17 ?_
 simp only [firsts, getA, Nat.reduceAdd, List.getD_cons_zero, List.getD_cons_succ, List.getD_nil, natBeq, Nat.reduceBEq, cond_true, cond_false]
 refine aw_forget (setG G nx (.box 1 [.v (.int .i64 0)])) zX ?_
 dsimp only
 refine aw_rangeFunc (clP) [17, 18] (fun zs => ctG G nx zs) (fun _ _ (_ : Unit) => False) (fun _ => fun _ => none) (fun x => [(18, .v (.string x.2)), (17, .agg [.v (.int .i64 x.1.ch), .v (.int .i64 x.1.ln), .v (.int .i64 x.1.wd)])]) (all_iter t) rfl rfl (fun _ => rfl) (allP_cl htx) ?_ ?_ ?_ (fun _ _ _ h => h.elim) (fun lr pre x hx hlen hpre => ?_) (fun _ _ _ _ h => h.elim) (?_)
 ·intro pre x
  rfl
 ·exact fun n o h => h
 ·intro zs
  unfold ctG
  exact zH
 ·unfold ctG
  refine aw_skip ?_
  show AW _ _ _ _ _
  refine aw_block ?_
  refine aw_region ?_
  try dsimp only [St.put]
  refine aops_s rfl (s_load_box rfl rfl zG trivial (by first | rfl | assumption)) ?_
  refine aops_n rfl (n_add rfl rfl rfl (by omega)) ?_
  try dsimp only [St.put]
  refine aops_e rfl (e_store_all rfl rfl rfl zG rfl rfl (by rfl) ?_)
  refine aops_nil ?_
  dsimp only [St.put]
  unfold ABlock RPost
  dsimp only
  simp only [List.length_append, List.length_singleton]
  exact zX
 dsimp only
 unfold ctG
 refine hK7 _ ?_
 refine aw_seq_k fun K9 hK9 => ?_
 refine aw_region ?_
 try dsimp only [St.put]
 refine aops_s rfl (s_load_box rfl rfl zG trivial (by first | rfl | assumption)) ?_
 refine aops_n rfl (n_as rfl (by constructor)) ?_
 refine aops_n rfl (n_as rfl (by constructor)) ?_
 refine aops_nil ?_
 dsimp only [St.put]
 refine hK9 _ ?_
 refine aw_ret ?_
 refine ends_2 rfl (by constructor) (by constructor) zN zS ?_ ?_
 ·exact vi (by simp [wordsN, htx])
 exact vi (by simp [textEr, htx])
theorem leafPlaceOf_pure (t : TextD) (n : Int) : Pure Try.prog 21 [textC t, .v (.int .i64 n)] (.tup [val (placeOfV t n), .v (.int .i64 (placeOfEr t n))]) := by
 refine pure_of_body Try.func21 rfl (fun m => .tup (low_cons (val_low _ _) (low_cons .v low_nil))) fun G nx => ?_
 simp only [Try.ntmps21, List.length_cons, List.length_nil, Nat.reduceAdd, Nat.reduceSub]
 refine aw_lt fun hlt => ?_
 dsimp only at hlt
 refine aw_fit 1 (fun hf => ?_)
 replace hf := i64_fit hf
 unfold I64 at hf
 refine aw_seq_k fun K1 hK1 => ?_
 refine aw_region ?_
 try dsimp only [St.put]
 refine aops_e rfl (e_box rfl rfl (by simp) ?_)
 try dsimp only [St.put]
 refine aops_e rfl (e_box_named rfl rfl ?_)
 try dsimp only [St.put]
 refine aops_e rfl (e_allocC rfl ?_)
 try dsimp only [St.put]
 refine aops_e rfl (e_allocC rfl ?_)
 refine aops_nil ?_
 dsimp only [St.put]
 refine hK1 _ ?_
 refine aw_seq_k fun K2 hK2 => ?_
 refine aw_region ?_
 try dsimp only [St.put]
 refine aops_s rfl (s_load_agg' rfl rfl rfl) ?_
 try dsimp only [St.put]
 refine aops_e rfl (e_call_pure rfl rfl rfl (leafOpen_pure t) ?_)
 refine aops_n rfl (n_mv rfl (by constructor)) ?_
 refine aops_n rfl (n_extract rfl rfl rfl) ?_
 refine aops_n rfl (n_extract rfl rfl rfl) ?_
 refine aops_n rfl (n_as rfl (by constructor)) ?_
 refine aops_n rfl (n_as rfl (by constructor)) ?_
 refine aops_nil ?_
 dsimp only [St.put]
 refine hK2 _ ?_
 refine aw_seq_k fun K3 hK3 => ?_
 refine aw_seq_k fun K4 hK4 => ?_
 refine aw_region ?_
 refine aops_n rfl (n_mv rfl (by constructor)) ?_
 refine aops_n rfl (n_neq rfl rfl rfl) ?_
 refine aops_nil ?_
 dsimp only [St.put]
 refine hK4 _ ?_
 refine aw_cond rfl (fun hc => ?_) (fun hc => ?_)
 ·have htx : textB t = false := by
   cases h : textB t
   ·rfl
   simp [textEr, h] at hc
  refine aw_seq_k fun K5 hK5 => ?_
  refine aw_region ?_
  refine aops_n rfl (n_build rfl rfl) ?_
  refine aops_n rfl (n_mv rfl (by constructor)) ?_
  try dsimp only [St.put]
  refine aops_e rfl (e_store_all rfl rfl rfl zG rfl rfl (by rfl) ?_)
  try dsimp only [St.put]
  refine aops_e rfl (e_store_all rfl rfl rfl zG rfl rfl (by rfl) ?_)
  refine aops_nil ?_
  dsimp only [St.put]
  refine hK5 _ ?_
  refine aw_ret ?_
  refine ends_v2 rfl (rv_box rfl zG (by rfl) (by first | exact List.cons_ne_nil _ _ | (simp; done) | (simp [putAt]; done)) rfl) (rv_box rfl zG (by rfl) (by first | exact List.cons_ne_nil _ _ | (simp; done) | (simp [putAt]; done)) rfl) zN zS ?_ ?_
  ·rw [show placeOfV t n = ⟨0, 0, 0⟩ by simp [placeOfV, placeOfEr, htx]]
   exact zW
  exact Wk.of_eq (vi (by simp [placeOfEr, textEr, htx]))
 have htx : textB t = true := by
  cases h : textB t
  ·simp [textEr, h] at hc
  rfl
 rw [show openC t = .elem [lst t] by simp [openC, htx]]
 have hlen := allP_len htx
 refine aw_skip ?_
 refine hK3 _ ?_
 refine aw_seq_k fun K6 hK6 => ?_
 refine aw_seq_k fun K7 hK7 => ?_
 refine aw_region ?_
 refine aops_n rfl (n_mv rfl (by constructor)) ?_
 try dsimp only [St.put]
 refine aops_e rfl (e_call_one rfl rfl rfl (leafAll_pc t _ _) ?_)
 refine aops_nil ?_
 dsimp only [St.put]
 refine hK7 _ ?_
 refine aw_block ?_
 refine aw_wipe 20 ?_
 simp only [firsts, getA, Nat.reduceAdd, List.getD_cons_zero, List.getD_cons_succ, List.getD_nil, natBeq, Nat.reduceBEq, cond_true, cond_false]
 refine aw_forget (setG (setG (setG G (nx + 1) (.box 0 [.v (.int .i64 0), .v (.int .i64 0), .v (.int .i64 0)])) (nx + 1 + 1) (.box 0 [.v (.int .i64 0)])) nx (.box 0 [.v (.int .i64 n)])) zX ?_
 dsimp only
 refine aw_rangeFunc (clP) [20, 21] (fun zs => dnG (setG (setG G (nx + 1) (.box 0 [.v (.int .i64 0), .v (.int .i64 0), .v (.int .i64 0)])) (nx + 1 + 1) (.box 0 [.v (.int .i64 0)])) nx n zs.length) (fun c zs (y : PlaceD × Nat) => c = .ret ∧ ∃ pre x, zs = pre ++ [x] ∧ y = (x.1, pre.length) ∧ n = (pre.length : Int)) (fun y => setG (setG G (nx + 1) (.box 1 (cells y.1))) (nx + 1 + 1) (.box 1 [.v (.int .i64 0)])) (fun x => [(21, .v (.string x.2)), (20, .agg [.v (.int .i64 x.1.ch), .v (.int .i64 x.1.ln), .v (.int .i64 x.1.wd)])]) (all_iter t) rfl rfl (fun _ => rfl) (allP_cl htx) ?_ ?_ ?_ ?_ (fun lr pre x hx hlen hpre => ?_) ?_ (?_)
 ·intro pre x
  rfl
 ·intro j o h
  rw [dnG_no (by simp), List.length_nil, dnV_start hf] at h
  exact h
 ·intro zs
  unfold dnG
  cases decide (0 ≤ n ∧ n < (zs.length : Int)) <;> exact zH
 ·intro c zs y hy
  exact zH
 ·by_cases hany : 0 ≤ n ∧ n < (pre.length : Int)
  ·exact aw_absurd (dnG_yes hany)
  dsimp only
  rw [dnG_no hany]
  refine aw_region ?_
  try dsimp only [St.put]
  refine aops_e rfl (e_allocC rfl ?_)
  try dsimp only [St.put]
  refine aops_e rfl (e_store_all rfl rfl rfl zG rfl rfl (by rfl) ?_)
  refine aops_nil ?_
  dsimp only [St.put]
  show AW _ _ _ _ _
  refine aw_block ?_
  refine aw_seq_k fun K8 hK8 => ?_
  refine aw_seq_k fun K9 hK9 => ?_
  refine aw_region ?_
  try dsimp only [St.put]
  refine aops_s rfl (s_load_box rfl rfl zG trivial (by first | rfl | assumption)) ?_
  refine aops_n rfl (n_eql rfl rfl rfl) ?_
  refine aops_nil ?_
  dsimp only [St.put]
  refine hK9 _ ?_
  refine aw_cond rfl (fun hc => ?_) (fun hc => ?_)
  ·replace hc := of_decide_eq_true hc
   have hn : n = (pre.length : Int) := (dnV_zero hf (by omega)).1 hc
   refine aw_seq_k fun K10 hK10 => ?_
   refine aw_region ?_
   try dsimp only [St.put]
   refine aops_s rfl (s_load_box_all rfl rfl zG trivial (by rfl)) ?_
   try dsimp only [St.put]
   refine aops_e rfl (e_store_all rfl rfl rfl zG rfl rfl (by rfl) ?_)
   try dsimp only [St.put]
   refine aops_e rfl (e_store_all rfl rfl rfl zG rfl rfl (by rfl) ?_)
   refine aops_nil ?_
   dsimp only [St.put]
   refine hK10 _ ?_
   refine aw_ret ?_
   exact ⟨(x.1, pre.length), ⟨rfl, pre, x, rfl, rfl, hn⟩, zX⟩
  replace hc := of_decide_eq_false hc
  have hn : ¬ n = (pre.length : Int) := fun e => hc ((dnV_zero hf (by omega)).2 e)
  refine aw_skip ?_
  refine hK8 _ ?_
  refine aw_region ?_
  try dsimp only [St.put]
  refine aops_s rfl (s_load_box rfl rfl zG trivial (by first | rfl | assumption)) ?_
  refine aops_n rfl (n_subw rfl rfl rfl) ?_
  try dsimp only [St.put]
  refine aops_e rfl (e_store_all rfl rfl rfl zG rfl rfl (by rfl) ?_)
  refine aops_nil ?_
  dsimp only [St.put]
  unfold ABlock RPost
  dsimp only
  rw [dnG_no (show ¬ (0 ≤ n ∧ n < ((pre ++ [x]).length : Int)) by rw [List.length_append, List.length_singleton]; omega)]
  rw [dnV_step hf (by omega)]
  simp only [List.length_append, List.length_singleton]
  exact zX
 ·rintro c pre y hpf ⟨rfl, pre', x, rfl, rfl, hn⟩
  have hpl := plAt_prefix hpf
  have hlt2 : pre'.length < (allP t).length := by have := hpf.length_le; simp at this; omega
  have hE : placeOfEr t n = 0 := by
   have : inB n 0 (((allP t).length : Int) - 1) = true := inB_true.2 (by omega)
   simp [placeOfEr, htx, this]
  have hV : placeOfV t n = x.1 := by rw [placeOfV, hE, hn]; simpa using hpl
  refine aw_ret ?_
  refine ends_v2 rfl (rv_box rfl zG (by rfl) (by first | exact List.cons_ne_nil _ _ | (simp; done) | (simp [putAt]; done)) rfl) (rv_box rfl zG (by rfl) (by first | exact List.cons_ne_nil _ _ | (simp; done) | (simp [putAt]; done)) rfl) zN zS ?_ ?_
  ·rw [hV]; exact zW
  rw [hE]; exact zW
 dsimp only
 by_cases hin : 0 ≤ n ∧ n < ((allP t).length : Int)
 ·exact hK6 _ (aw_absurd (n := nx) (dnG_yes hin))
 rw [dnG_no hin]
 have hE : placeOfEr t n = 2 := by
  have : inB n 0 (((allP t).length : Int) - 1) = false := by rw [inB_false]; omega
  simp [placeOfEr, htx, this]
 have hV : placeOfV t n = ⟨0, 0, 0⟩ := by simp [placeOfV, hE]
 refine hK6 _ ?_
 refine aw_seq_k fun K11 hK11 => ?_
 refine aw_region ?_
 refine aops_n rfl (n_build rfl rfl) ?_
 try dsimp only [St.put]
 refine aops_e rfl (e_store_all rfl rfl rfl zG rfl rfl (by rfl) ?_)
 try dsimp only [St.put]
 refine aops_e rfl (e_store_all rfl rfl rfl zG rfl rfl (by rfl) ?_)
 refine aops_nil ?_
 dsimp only [St.put]
 refine hK11 _ ?_
 refine aw_ret ?_
 refine ends_v2 rfl (rv_box rfl zG (by rfl) (by first | exact List.cons_ne_nil _ _ | (simp; done) | (simp [putAt]; done)) rfl) (rv_box rfl zG (by rfl) (by first | exact List.cons_ne_nil _ _ | (simp; done) | (simp [putAt]; done)) rfl) zN zS ?_ ?_
 ·rw [hV]; exact zW
 rw [hE]; exact zW
theorem leafPlaces_pure (t : TextD) (s : ByteArray) : Pure Try.prog 23 [textC t, .v (.string s)] (.tup [lst (placesV t s), .v (.int .i64 (placesEr t s))]) := by
 refine pure_of_body Try.func23 rfl (fun m => .tup (low_cons (lst_low _ _) (low_cons .v low_nil))) fun G nx => ?_
 simp only [Try.ntmps23, List.length_cons, List.length_nil, Nat.reduceAdd, Nat.reduceSub]
 refine aw_lt fun hlt => ?_
 dsimp only at hlt
 refine aw_seq_k fun K1 hK1 => ?_
 refine aw_region ?_
 try dsimp only [St.put]
 refine aops_e rfl (e_box rfl rfl (by simp) ?_)
 refine aops_n rfl (n_as rfl (by constructor)) ?_
 refine aops_n rfl (n_as rfl (by constructor)) ?_
 refine aops_nil ?_
 dsimp only [St.put]
 refine hK1 _ ?_
 refine aw_seq_k fun K2 hK2 => ?_
 refine aw_region ?_
 try dsimp only [St.put]
 refine aops_s rfl (s_load_agg' rfl rfl rfl) ?_
 try dsimp only [St.put]
 refine aops_e rfl (e_call_pure rfl rfl rfl (leafOpen_pure t) ?_)
 refine aops_n rfl (n_mv rfl (by constructor)) ?_
 refine aops_n rfl (n_extract rfl rfl rfl) ?_
 refine aops_n rfl (n_extract rfl rfl rfl) ?_
 refine aops_n rfl (n_as rfl (by constructor)) ?_
 refine aops_n rfl (n_as rfl (by constructor)) ?_
 refine aops_nil ?_
 dsimp only [St.put]
 refine hK2 _ ?_
 refine aw_seq_k fun K3 hK3 => ?_
 refine aw_seq_k fun K4 hK4 => ?_
 refine aw_region ?_
 refine aops_n rfl (n_mv rfl (by constructor)) ?_
 refine aops_n rfl (n_neq rfl rfl rfl) ?_
 refine aops_nil ?_
 dsimp only [St.put]
 refine hK4 _ ?_
 refine aw_cond rfl (fun hc => ?_) (fun hc => ?_)
 ·have htx : textB t = false := by
   cases h : textB t
   ·rfl
   simp [textEr, h] at hc
  refine aw_seq_k fun K5 hK5 => ?_
  refine aw_region ?_
  refine aops_n rfl (n_mv rfl (by constructor)) ?_
  refine aops_n rfl (n_as rfl (by constructor)) ?_
  refine aops_n rfl (n_as rfl (by constructor)) ?_
  refine aops_nil ?_
  dsimp only [St.put]
  refine hK5 _ ?_
  refine aw_ret ?_
  refine ends_v2 rfl (rv_tmp (by constructor)) (rv_tmp (by constructor)) zN zS ?_ ?_
  ·rw [show placesV t s = [] by simp [placesV, placesEr, htx]]
   exact zW
  exact Wk.of_eq (vi (by simp [placesEr, textEr, htx]))
 have htx : textB t = true := by
  cases h : textB t
  ·simp [textEr, h] at hc
  rfl
 rw [show openC t = .elem [lst t] by simp [openC, htx]]
 refine aw_skip ?_
 refine hK3 _ ?_
 refine aw_seq_k fun K6 hK6 => ?_
 refine aw_seq_k fun K7 hK7 => ?_
 refine aw_region ?_
 refine aops_n rfl (n_mv rfl (by constructor)) ?_
 try dsimp only [St.put]
 refine aops_e rfl (e_call_pure rfl rfl rfl (word_pure s) ?_)
 refine aops_n rfl (n_not rfl rfl) ?_
 refine aops_nil ?_
 dsimp only [St.put]
 refine hK7 _ ?_
 refine aw_cond rfl (fun hc => ?_) (fun hc => ?_)
 ·have hw : wordB s = false := by simpa using hc
  refine aw_seq_k fun K8 hK8 => ?_
  refine aw_region ?_
  refine aops_n rfl (n_as rfl (by constructor)) ?_
  refine aops_n rfl (n_as rfl (by constructor)) ?_
  refine aops_nil ?_
  dsimp only [St.put]
  refine hK8 _ ?_
  refine aw_ret ?_
  refine ends_v2 rfl (rv_tmp (by constructor)) (rv_tmp (by constructor)) zN zS ?_ ?_
  ·rw [show placesV t s = [] by simp [placesV, placesEr, htx, hw]]
   exact zW
  exact Wk.of_eq (vi (by simp [placesEr, htx, hw]))
 have hw : wordB s = true := by simpa using hc
 have hE : placesEr t s = 0 := by simp [placesEr, htx, hw]
 obtain ⟨tok, hat⟩ := ixF_get (allP t) s
 refine aw_skip ?_
 refine hK6 _ ?_
 refine aw_seq_k fun K9 hK9 => ?_
 refine aw_region ?_
 refine aops_n rfl (n_mv rfl (by constructor)) ?_
 try dsimp only [St.put]
 refine aops_e rfl (e_call_named rfl rfl rfl (leafIndex_pc t htx _ _) ?_)
 refine aops_n rfl (n_mv rfl (by constructor)) ?_
 try dsimp only [St.put]
 refine aops_s rfl (s_lookupC (α := ByteArray) s rfl rfl (setG_same _ _ _) trivial rfl hat) ?_
 refine aops_n rfl (n_as rfl (by constructor)) ?_
 refine aops_n rfl (n_as rfl (by constructor)) ?_
 refine aops_nil ?_
 dsimp only [St.put]
 refine hK9 _ ?_
 refine aw_ret ?_
 refine ends_v2 rfl (rv_tmp (by constructor)) (rv_tmp (by constructor)) zN zS ?_ ?_
 ·rw [show placesV t s = placesL (allP t) s by simp [placesV, hE]]
  exact zW
 exact Wk.of_eq (vi hE.symm)
theorem leafOpen_no (t : TextD) (ht : textB t = false) : Pure Try.prog 35 [textC t] (.tup [.v (.pointer none), .v (.int .i64 10)]) := by
 have := leafOpen_pure t
 rwa [show openC t = .v (.pointer none) by simp [openC, ht], show textEr t = 10 by simp [textEr, ht]] at this
theorem leafOpen_yes (t : TextD) (ht : textB t = true) : Pure Try.prog 35 [textC t] (.tup [.elem [lst t], .v (.int .i64 0)]) := by
 have := leafOpen_pure t
 rwa [show openC t = .elem [lst t] by simp [openC, ht], show textEr t = 0 by simp [textEr, ht]] at this
end Go.Proofs.Ytejhjijbgceklaa
