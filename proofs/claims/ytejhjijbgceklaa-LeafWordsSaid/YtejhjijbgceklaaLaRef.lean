/-
 Contracts of the reference's functions of texts: places, words, the vocabulary.
-/
import Derived.Test.YtejhjijbgceklaaKwWords
import Derived.Test.YtejhjijbgceklaaCrOne
import Derived.Test.YtejhjijbgceklaaEbRef
namespace Go.AB
open Go Go.RowKit
open Go.AB.Enc (cells)
open Go.PB (Chap TextD PlaceD ReadingD CopyD WayD)
def allQ (t : TextD) : List PlaceD := (allP t).map (·.1)
def allQ1 (t : TextD) (k : Nat) (ls : List (List ByteArray)) (n : Nat) : List PlaceD := allQ (t.take k) ++ (chapP k (ls.take n)).map (·.1)
def allQ2 (t : TextD) (k : Nat) (ls : List (List ByteArray)) (n : Nat) (l : List ByteArray) (w : Nat) : List PlaceD := allQ1 t k ls n ++ (lineP k n (l.take w)).map (·.1)
theorem allQ1_zero (t : TextD) (k : Nat) (ls : List (List ByteArray)) : allQ (t.take k) = allQ1 t k ls 0 := by simp [allQ1, chapP]
theorem allQ2_zero (t : TextD) (k : Nat) (ls : List (List ByteArray)) (n : Nat) (l : List ByteArray) : allQ1 t k ls n = allQ2 t k ls n l 0 := by simp [allQ2, lineP]
theorem allQ1_end {t : TextD} {k n : Nat} {c : Chap} (hk : t[k]? = some c) (hn : c.lines.length ≤ n) : allQ1 t k c.lines n = allQ (t.take (k + 1)) := by
 unfold allQ1 allQ
 rw [List.take_of_length_le hn, allP_succ hk, List.map_append]
theorem allQ2_end {t : TextD} {k n w : Nat} {ls : List (List ByteArray)} {l : List ByteArray} (hn : ls[n]? = some l) (hw : l.length ≤ w) : allQ2 t k ls n l w = allQ1 t k ls (n + 1) := by
 unfold allQ2 allQ1
 rw [List.take_of_length_le hw, chapP_succ k hn, List.map_append, List.append_assoc]
theorem allQ2_succ {t : TextD} {k n w : Nat} {ls : List (List ByteArray)} {l : List ByteArray} (hw : w < l.length) : allQ2 t k ls n l w ++ [(⟨k, n, w⟩ : PlaceD)] = allQ2 t k ls n l (w + 1) := by
 unfold allQ2
 rw [lineP_succ k n (List.getElem?_eq_getElem hw), List.map_append, List.append_assoc]; rfl
theorem allQ_len {t : TextD} (ht : textB t = true) : (allQ t).length ≤ 600 := by rw [allQ, List.length_map]; exact allP_len ht
theorem allQ2_len {t : TextD} (ht : textB t = true) {k n : Nat} {c : Chap} {l : List ByteArray} (hk : t[k]? = some c) (hn : c.lines[n]? = some l) (w : Nat) : (allQ2 t k c.lines n l w).length ≤ 600 := by
 have h1 := (upP_prefix hk hn w).length_le
 have h2 := allP_len ht
 simp only [List.length_append] at h1
 simp only [allQ2, allQ1, allQ, List.length_append, List.length_map]
 omega
theorem placeB_at {t : TextD} {p : PlaceD} (hp : placeB t p = true) : ∃ (k n w : Nat) (c : Chap) (l : List ByteArray), p = ⟨k, n, w⟩ ∧ t[k]? = some c ∧ c.lines[n]? = some l ∧ l[w]? = some (wordP t p) := by
 obtain ⟨l, hw, h1, h2⟩ := placeB_true.1 hp
 obtain ⟨k, n, c, hkn, hk, hn⟩ := wordsOf_some hw
 refine ⟨k, n, p.wd.toNat, c, l, ?_, hk, hn, ?_⟩
 ·have e1 : p.ch = (k : Int) := congrArg Prod.fst hkn
  have e2 : p.ln = (n : Int) := congrArg Prod.snd hkn
  obtain ⟨a, b, d⟩ := p
  dsimp only at e1 e2 h1 ⊢
  subst e1; subst e2
  rw [Int.toNat_of_nonneg h1]
 unfold wordP
 rw [hw, Option.getD_some, List.getElem?_eq_getElem (by omega)]
 rfl
theorem allP_at {t : TextD} {k : Nat} {x : PW} (hx : (allP t)[k]? = some x) : placeB t x.1 = true ∧ wordP t x.1 = x.2 := by
 have hm := List.mem_of_getElem? hx
 exact ⟨allP_mem.1 (List.mem_map.2 ⟨x, hm, rfl⟩), allP_wordP hm⟩
theorem memt_step {α : Type} {l : List α} {k : Nat} {x : α} {p : α → Prop} (hx : l[k]? = some x) (hp : p x) (h : ∀ y ∈ l.take k, p y) : ∀ y ∈ l.take (k + 1), p y := fun y hy => by
 rw [List.take_add_one, hx] at hy
 simp only [Option.toList_some, List.mem_append, List.mem_singleton] at hy
 rcases hy with hy | rfl
 ·exact h y hy
 exact hp
theorem allQ_get {t : TextD} {k : Nat} {x : PW} (hx : (allP t)[k]? = some x) : (allQ t)[k]? = some x.1 := by rw [allQ, List.getElem?_map, hx]; rfl
theorem allQ_num {t : TextD} {p : PlaceD} {n : Nat} (h : (allQ t)[n]? = some p) : numP t p = n := by
 rw [allQ, List.getElem?_map] at h
 obtain ⟨x, hx, rfl⟩ := Option.map_eq_some_iff.1 h
 exact num_at hx rfl
theorem placesL_step {t : TextD} {k : Nat} {x : PW} (s : ByteArray) (hx : (allP t)[k]? = some x) : placesL ((allP t).take (k + 1)) s = placesL ((allP t).take k) s ++ (if x.2 = s then [x.1] else []) := by
 rw [List.take_add_one, hx]
 unfold placesL
 rw [List.filter_append, List.map_append]
 by_cases h : x.2 = s <;> simp [h]
/-! ### A word in its place -/
theorem vocIns_at {w : ByteArray} : ∀ {out : List ByteArray} {j : Nat}, j ≤ out.length → (∀ x ∈ out.take j, sLess x w = true) → (∀ x, out[j]? = some x → ¬ sLess x w = true) → vocIns w out = if out[j]? = some w then out else out.take j ++ w :: out.drop j
 | [], j, hj, _, _ => by
  have : j = 0 := by simpa using hj
  subst this; simp [vocIns]
 | y :: out, 0, _, _, h3 => by
  have h := h3 y rfl
  rw [vocIns, if_neg h]
  by_cases e : y = w
  ·subst e; simp
  simp [e]
 | y :: out, j + 1, hj, h2, h3 => by
  have h := h2 y (by simp)
  rw [vocIns, if_pos h, vocIns_at (j := j) (by simpa using hj) (fun x hx => h2 x (by rw [List.take_succ_cons]; exact List.mem_cons_of_mem _ hx)) (fun x hx => h3 x (by simpa using hx))]
  simp only [List.getElem?_cons_succ, List.take_succ_cons, List.drop_succ_cons]
  split <;> rfl
theorem hole_step {out : List ByteArray} {kk : Nat} {y s : ByteArray} (h : out[kk]? = some y) : (out.take (kk + 1) ++ s :: out.drop (kk + 1)).set (kk + 1) y = out.take kk ++ y :: out.drop kk := by
 have hlt := (List.getElem?_eq_some_iff.1 h).1
 have e1 : (out.take (kk + 1)).length = kk + 1 := by rw [List.length_take]; omega
 rw [List.set_append, if_neg (by omega), e1, Nat.sub_self, List.set_cons_zero, List.take_add_one, h, Option.toList_some, List.append_assoc]
 rw [List.drop_eq_getElem_cons hlt]
 rw [(List.getElem?_eq_some_iff.1 h).2]; rfl
theorem hole_get {out : List ByteArray} {kk : Nat} {y s : ByteArray} (h : out[kk]? = some y) : (out.take (kk + 1) ++ s :: out.drop (kk + 1))[kk]? = some y := by
 have hlt := (List.getElem?_eq_some_iff.1 h).1
 rw [List.getElem?_append_left (by rw [List.length_take]; omega), List.getElem?_take_of_lt (by omega), h]
theorem hole_last {out : List ByteArray} {j : Nat} {s w : ByteArray} (h : j ≤ out.length) : (out.take j ++ s :: out.drop j).set j w = out.take j ++ w :: out.drop j := by
 have e1 : (out.take j).length = j := by rw [List.length_take]; omega
 rw [List.set_append, if_neg (by omega), e1, Nat.sub_self, List.set_cons_zero]
theorem hole_len {out : List ByteArray} {j : Nat} {s : ByteArray} (h : j ≤ out.length) : (out.take j ++ s :: out.drop j).length = out.length + 1 := by
 rw [List.length_append, List.length_take, List.length_cons, List.length_drop]; omega
theorem hole_at {out : List ByteArray} {j : Nat} {s : ByteArray} (h : j ≤ out.length) : (out.take j ++ s :: out.drop j)[j]? = some s := by
 have e1 : (out.take j).length = j := by rw [List.length_take]; omega
 rw [List.getElem?_append_right (by omega), e1, Nat.sub_self]; rfl
theorem hole_end (out : List ByteArray) (s : ByteArray) : out ++ [s] = out.take out.length ++ s :: out.drop out.length := by simp
theorem flat_at {l : List ByteArray} {j : Nat} {y : ByteArray} (h : l[j]? = some y) : (flatC l)[j * 1]? = some (.v (.string y)) := by
 have := flatC_get (j := 0) h (c := .v (.string y)) rfl
 exact this
theorem vocL_step {t : TextD} {k : Nat} {x : PW} (hx : (allP t)[k]? = some x) : vocL (((allP t).take (k + 1)).map (·.2)) = vocIns x.2 (vocL (((allP t).take k).map (·.2))) := by
 rw [List.take_add_one, hx, Option.toList_some, List.map_append]
 exact vocL_snoc _ _
end Go.AB
namespace Go.Proofs.Ytejhjijbgceklaa
set_option maxRecDepth 10000
open Go.RowKit Go.AB
open Go.AB.Enc (cells)
open Go.PB (Chap TextD PlaceD ReadingD CopyD WayD)
theorem refAll_pure (t : TextD) (ht : textB t = true) : Pure Try.prog 38 [textC t] (lst (allQ t)) := by
 refine pure_of_body Try.func38 rfl (fun m => (lst_low _ _)) fun G nx => ?_
 simp only [Try.ntmps38, List.length_cons, List.length_nil, Nat.reduceAdd, Nat.reduceSub]
 refine aw_lt fun hlt => ?_
 dsimp only at hlt
 obtain ⟨hl1, hl2, hl3⟩ := text_ok ht
 refine yS fun _ K1 => ?_
 refine yR ?_
 try dsimp only [St.put]
 refine yB rfl rfl rfl ?_
 refine yA rfl rfl ?_
 refine yN ?_
 dsimp only [St.put]
 refine K1 _ ?_
 refine yS fun _ K2 => ?_
 refine yR ?_
 refine yA rfl rfl ?_
 refine yN ?_
 dsimp only [St.put]
 refine K2 _ ?_
 refine aw_adopt 3 43 3 rfl (by decide) ?_
 dsimp only [List.set_cons_zero, List.set_cons_succ]
 refine yS fun _ K3 => ?_
 refine yS fun _ K4 => ?_
 refine yR ?_
 refine yA rfl rfl ?_
 refine yN ?_
 dsimp only [St.put]
 refine K4 _ ?_
 refine aw_block ?_
 refine aw_wipe 7 ?_
 simp only [firsts, getA, Nat.reduceAdd, List.getD_cons_zero, List.getD_cons_succ, List.getD_nil, natBeq, Nat.reduceBEq, cond_true, cond_false]
 refine aw_forget (setG G nx (.tip 0 43 3)) zX ?_
 dsimp only
 refine aw_loopD (X := Nat) (fun k => k ≤ t.length) (fun k => t.length - k) (fun k => [(3, .list ((allQ (t.take k)).map cells) (.tip nx)), (4, .v (.int .i64 (k : Int))), (5, .any), (6, .any)]) (fun k G' => (setG G nx (.tip ((allQ (t.take k))).length 43 3))) 0 rfl ?_ ?_ ?_ ?_ ?_ ?_
 ·exact Nat.zero_le _
 ·exact zF
 ·exact zX
 ·rintro k hI
  exact zL
 ·rintro k hI
  exact zH
 rintro k hI
 dsimp only at hI ⊢
 refine yS fun _ K5 => ?_
 refine yS fun _ K6 => ?_
 refine yR ?_
 refine yM rfl rfl ?_
 refine yF rfl rfl rfl rfl ?_
 refine yL rfl rfl rfl ?_
 refine aops_n rfl (n_len' rfl rfl (List.length_map _)) ?_
 refine aops_n rfl (n_lss rfl rfl rfl) ?_
 refine yN ?_
 dsimp only [St.put]
 refine K6 _ ?_
 refine aw_cond rfl (fun hc => ?_) (fun hc => ?_)
 ·replace hc := of_decide_eq_true hc
  obtain ⟨c, hk⟩ : ∃ x, t[k]? = some x := some_of_lt (by omega)
  have hcl := hl3 c (mem_of_get hk)
  refine aw_skip ?_
  refine K5 _ ?_
  refine yS fun _ K7 => ?_
  refine aw_block ?_
  refine yS fun _ K8 => ?_
  refine yR ?_
  refine yA rfl rfl ?_
  refine yN ?_
  dsimp only [St.put]
  rw [allQ1_zero t k c.lines]
  refine K8 _ ?_
  refine aw_block ?_
  refine aw_wipe 7 ?_
  simp only [firsts, getA, Nat.reduceAdd, List.getD_cons_zero, List.getD_cons_succ, List.getD_nil, natBeq, Nat.reduceBEq, cond_true, cond_false]
  refine aw_forget ((setG G nx (.tip ((allQ1 t k c.lines 0)).length 43 3))) zX ?_
  dsimp only
  refine aw_loopD (X := Nat) (fun n => n ≤ c.lines.length) (fun n => c.lines.length - n) (fun n => [(3, .list ((allQ1 t k c.lines n).map cells) (.tip nx)), (5, .v (.int .i64 (n : Int))), (6, .any)]) (fun n G' => (setG G nx (.tip ((allQ1 t k c.lines n)).length 43 3))) 0 rfl ?_ ?_ ?_ ?_ ?_ ?_
  ·exact Nat.zero_le _
  ·exact zF
  ·exact zX
  ·rintro n hI
   exact zL
  ·rintro n hI
   exact zH
  rintro n hJ
  dsimp only at hJ ⊢
  refine yS fun _ K9 => ?_
  refine yS fun _ K10 => ?_
  refine yR ?_
  refine yM rfl rfl ?_
  refine yF rfl rfl rfl rfl ?_
  refine yL rfl rfl rfl ?_
  refine yM rfl rfl ?_
  refine aops_n rfl (n_indexAddr rfl rfl rfl rfl (map_get (by assumption)) (Enc.len _)) ?_
  refine yF rfl rfl rfl rfl ?_
  refine yL rfl rfl rfl ?_
  refine aops_n rfl (n_len' rfl rfl (List.length_map _)) ?_
  refine aops_n rfl (n_lss rfl rfl rfl) ?_
  refine yN ?_
  dsimp only [St.put]
  refine K10 _ ?_
  refine aw_cond rfl (fun hc => ?_) (fun hc => ?_)
  ·replace hc := of_decide_eq_true hc
   obtain ⟨l, hn⟩ : ∃ x, c.lines[n]? = some x := some_of_lt (by omega)
   have hll := hcl.2.2 l (mem_of_get hn)
   refine aw_skip ?_
   refine K9 _ ?_
   refine yS fun _ K11 => ?_
   refine aw_block ?_
   refine yS fun _ K12 => ?_
   refine yR ?_
   refine yA rfl rfl ?_
   refine yN ?_
   dsimp only [St.put]
   rw [allQ2_zero t k c.lines n l]
   refine K12 _ ?_
   refine aw_block ?_
   refine aw_wipe 7 ?_
   simp only [firsts, getA, Nat.reduceAdd, List.getD_cons_zero, List.getD_cons_succ, List.getD_nil, natBeq, Nat.reduceBEq, cond_true, cond_false]
   refine aw_forget ((setG G nx (.tip ((allQ2 t k c.lines n l 0)).length 43 3))) zX ?_
   dsimp only
   refine aw_loopD (X := Nat) (fun w => w ≤ l.length) (fun w => l.length - w) (fun w => [(3, .list ((allQ2 t k c.lines n l w).map cells) (.tip nx)), (6, .v (.int .i64 (w : Int)))]) (fun w G' => (setG G nx (.tip ((allQ2 t k c.lines n l w)).length 43 3))) 0 rfl ?_ ?_ ?_ ?_ ?_ ?_
   ·exact Nat.zero_le _
   ·exact zF
   ·exact zX
   ·rintro w hI
    exact zL
   ·rintro w hI
    exact zH
   rintro w hW
   dsimp only at hW ⊢
   refine yS fun _ K13 => ?_
   refine yS fun _ K14 => ?_
   refine yR ?_
   refine yM rfl rfl ?_
   refine yF rfl rfl rfl rfl ?_
   refine yL rfl rfl rfl ?_
   refine yM rfl rfl ?_
   refine aops_n rfl (n_indexAddr rfl rfl rfl rfl (map_get (by assumption)) (Enc.len _)) ?_
   refine yF rfl rfl rfl rfl ?_
   refine yL rfl rfl rfl ?_
   refine yM rfl rfl ?_
   refine aops_n rfl (n_indexAddr rfl rfl rfl rfl (map_get (by assumption)) (Enc.len _)) ?_
   refine yL rfl rfl rfl ?_
   refine aops_n rfl (n_len' rfl rfl (List.length_map _)) ?_
   refine aops_n rfl (n_lss rfl rfl rfl) ?_
   refine yN ?_
   dsimp only [St.put]
   refine K14 _ ?_
   refine aw_cond rfl (fun hc => ?_) (fun hc => ?_)
   ·replace hc := of_decide_eq_true hc
    have hlen := allQ2_len ht hk hn w
    refine aw_skip ?_
    refine K13 _ ?_
    refine yS fun _ K15 => ?_
    refine aw_block ?_
    refine yR ?_
    refine yM rfl rfl ?_
    refine yM rfl rfl ?_
    refine yM rfl rfl ?_
    refine yM rfl rfl ?_
    refine aops_n rfl (n_build rfl rfl) ?_
    try dsimp only [St.put]
    refine aops_e rfl (e_buildSlice rfl rfl rfl (by decide) (by decide) zR (by decide) ?_)
    try dsimp only [St.put]
    refine aops_e rfl (e_append ([(⟨k, n, w⟩ : PlaceD)]) rfl rfl zG (by first | rfl | simp) rfl rfl zA ?_ zA)
    refine yA rfl rfl ?_
    refine yN ?_
    dsimp only [St.put]
    refine K15 _ ?_
    refine yR ?_
    refine yM rfl rfl ?_
    refine aops_n rfl (n_add rfl rfl rfl (by omega)) ?_
    refine yA rfl rfl ?_
    refine yN ?_
    dsimp only [St.put]
    rw [allQ2_succ (w := w) (by omega)]
    exact ⟨w + 1, by omega, by omega, ⟨⟨rfl, rfl⟩, zF, zB, zN, zX⟩⟩
   try replace hc := of_decide_eq_false hc
   refine aw_exit ?_
   refine K11 _ ?_
   refine yR ?_
   refine yM rfl rfl ?_
   refine aops_n rfl (n_add rfl rfl rfl (by omega)) ?_
   refine yA rfl rfl ?_
   refine yN ?_
   dsimp only [St.put]
   rw [allQ2_end (k := k) (w := w) hn (by omega)]
   exact ⟨n + 1, by omega, by omega, ⟨⟨rfl, rfl⟩, zF, zB, zN, zX⟩⟩
  try replace hc := of_decide_eq_false hc
  refine aw_exit ?_
  refine K7 _ ?_
  refine yR ?_
  refine yM rfl rfl ?_
  refine aops_n rfl (n_add rfl rfl rfl (by omega)) ?_
  refine yA rfl rfl ?_
  refine yN ?_
  dsimp only [St.put]
  rw [allQ1_end (n := n) hk (by omega)]
  exact ⟨k + 1, by omega, by omega, ⟨⟨rfl, rfl⟩, zF, zB, zN, zX⟩⟩
 try replace hc := of_decide_eq_false hc
 refine aw_exit ?_
 refine K3 _ ?_
 refine yS fun _ K16 => ?_
 refine yR ?_
 refine yM rfl rfl ?_
 refine yA rfl rfl ?_
 refine yN ?_
 dsimp only [St.put]
 rw [take_all (show t.length ≤ k by omega)]
 refine K16 _ ?_
 refine aw_ret ?_
 refine ends_v1 rfl (rv_tmp (by constructor)) zN zS ?_
 exact zW
theorem refWordAt_pure (t : TextD) (p : PlaceD) (ht : textB t = true) (hp : placeB t p = true) : Pure Try.prog 42 [textC t, val p] (.v (.string (wordP t p))) := by
 refine pure_of_body Try.func42 rfl (fun m => .v) fun G nx => ?_
 simp only [Try.ntmps42, List.length_cons, List.length_nil, Nat.reduceAdd, Nat.reduceSub]
 refine aw_lt fun hlt => ?_
 dsimp only at hlt
 obtain ⟨hl1, hl2, hl3⟩ := text_ok ht
 obtain ⟨k, n, w, c, l, hpe, hk, hn, hw⟩ := placeB_at hp
 obtain ⟨s, hs⟩ : ∃ s, wordP t p = s := ⟨_, rfl⟩
 rw [hs] at hw ⊢
 subst hpe
 have h1 := (List.getElem?_eq_some_iff.1 hk).1
 have h2 := (List.getElem?_eq_some_iff.1 hn).1
 have h3 := (List.getElem?_eq_some_iff.1 hw).1
 refine yS fun _ K1 => ?_
 refine yR ?_
 try dsimp only [St.put]
 refine yB rfl rfl rfl ?_
 try dsimp only [St.put]
 refine yB rfl rfl rfl ?_
 refine yA rfl rfl ?_
 refine yN ?_
 dsimp only [St.put]
 refine K1 _ ?_
 refine yS fun _ K2 => ?_
 refine aw_draw [(0, none), (1, none), (2, none), (3, none), (4, none), (5, none), (6, none), (7, none), (8, none), (9, none), (10, none), (11, none), (12, none), (13, none), (14, none), (15, none)] (fun i => [].contains i) (fun i => [].contains i) (fun i => [0, 2, 4, 5, 7, 9, 11, 13, 15].contains i) [] (by kernel_rfl) (by kernel_rfl) ?_
 refine acan1_n rfl rfl rfl rfl (n_fieldAddr' rfl rfl rfl) ?_
 try dsimp only [St.put]
 refine acan1_s rfl rfl rfl rfl (s_load rfl rfl) ?_
 refine acan1_n rfl rfl rfl rfl (n_fieldAddr' rfl rfl rfl) ?_
 try dsimp only [St.put]
 refine acan1_s rfl rfl rfl rfl (s_load rfl rfl) ?_
 try dsimp only [St.put]
 refine acan1_n rfl rfl rfl rfl (n_indexAddr rfl rfl rfl rfl (map_get (by assumption)) (Enc.len _)) ?_
 refine acan1_n rfl rfl rfl rfl (n_fieldAddr' rfl rfl rfl) ?_
 try dsimp only [St.put]
 refine acan1_s rfl rfl rfl rfl (s_load rfl rfl) ?_
 refine acan1_n rfl rfl rfl rfl (n_fieldAddr' rfl rfl rfl) ?_
 try dsimp only [St.put]
 refine acan1_s rfl rfl rfl rfl (s_load rfl rfl) ?_
 try dsimp only [St.put]
 refine acan1_n rfl rfl rfl rfl (n_indexAddr rfl rfl rfl rfl (map_get (by assumption)) (Enc.len _)) ?_
 try dsimp only [St.put]
 refine acan1_s rfl rfl rfl rfl (s_load rfl rfl) ?_
 refine acan1_n rfl rfl rfl rfl (n_fieldAddr' rfl rfl rfl) ?_
 try dsimp only [St.put]
 refine acan1_s rfl rfl rfl rfl (s_load rfl rfl) ?_
 try dsimp only [St.put]
 refine acan1_n rfl rfl rfl rfl (n_indexAddr rfl rfl rfl rfl (map_get (by assumption)) (Enc.len _)) ?_
 try dsimp only [St.put]
 refine acan1_s rfl rfl rfl rfl (s_load rfl rfl) ?_
 refine acan1_n rfl rfl rfl rfl (n_as rfl (by constructor)) ?_
 refine acan1_nil ?_
 dsimp only [St.put]
 refine K2 _ ?_
 refine aw_ret ?_
 refine ends_1 rfl (by constructor) zN zS ?_
 rfl
theorem refWords_pure (t : TextD) : Pure Try.prog 14 [textC t] (.tup [.v (.int .i64 (wordsN t)), .v (.int .i64 (textEr t))]) := by
 refine pure_of_body Try.func14 rfl (fun m => .tup (low_cons .v (low_cons .v low_nil))) fun G nx => ?_
 simp only [Try.ntmps14, List.length_cons, List.length_nil, Nat.reduceAdd, Nat.reduceSub]
 refine aw_lt fun hlt => ?_
 dsimp only at hlt
 refine yS fun _ K1 => ?_
 refine yR ?_
 try dsimp only [St.put]
 refine yB rfl rfl rfl ?_
 refine yA rfl rfl ?_
 refine yA rfl rfl ?_
 refine yN ?_
 dsimp only [St.put]
 refine K1 _ ?_
 refine yS fun _ K2 => ?_
 refine yS fun _ K3 => ?_
 refine yR ?_
 try dsimp only [St.put]
 refine aops_s rfl (s_load_agg' rfl rfl rfl) ?_
 try dsimp only [St.put]
 refine aops_e rfl (e_call_pure rfl rfl rfl (Text_pure t) ?_)
 refine aops_n rfl (n_not rfl rfl) ?_
 refine yN ?_
 dsimp only [St.put]
 refine K3 _ ?_
 refine aw_cond rfl (fun hc => ?_) (fun hc => ?_)
 ·have htx : textB t = false := by simpa using hc
  refine yS fun _ K4 => ?_
  refine yR ?_
  refine yA rfl rfl ?_
  refine yA rfl rfl ?_
  refine yN ?_
  dsimp only [St.put]
  refine K4 _ ?_
  refine aw_ret ?_
  refine ends_2 rfl (by constructor) (by constructor) zN zS ?_ ?_
  ·exact vi (by simp [wordsN, htx])
  exact vi (by simp [textEr, htx])
 have htx : textB t = true := by simpa using hc
 refine aw_skip ?_
 refine K2 _ ?_
 refine yS fun _ K5 => ?_
 refine yR ?_
 try dsimp only [St.put]
 refine aops_s rfl (s_load_agg' rfl rfl rfl) ?_
 try dsimp only [St.put]
 refine aops_e rfl (e_call_pure rfl rfl rfl (refAll_pure t htx) ?_)
 refine aops_n rfl (n_len' rfl rfl (List.length_map _)) ?_
 refine yA rfl rfl ?_
 refine yA rfl rfl ?_
 refine yN ?_
 dsimp only [St.put]
 refine K5 _ ?_
 refine aw_ret ?_
 refine ends_2 rfl (by constructor) (by constructor) zN zS ?_ ?_
 ·exact vi (by simp [wordsN, htx, allQ])
 exact vi (by simp [textEr, htx])
theorem refAtP_pure (t : TextD) (p : PlaceD) : Pure Try.prog 16 [textC t, val p] (.tup [.v (.string (atWord t p)), .v (.int .i64 (placedEr t p))]) := by
 refine pure_of_body Try.func16 rfl (fun m => .tup (low_cons .v (low_cons .v low_nil))) fun G nx => ?_
 simp only [Try.ntmps16, List.length_cons, List.length_nil, Nat.reduceAdd, Nat.reduceSub]
 refine aw_lt fun hlt => ?_
 dsimp only at hlt
 refine yS fun _ K1 => ?_
 refine yR ?_
 try dsimp only [St.put]
 refine yB rfl rfl rfl ?_
 try dsimp only [St.put]
 refine yB rfl rfl rfl ?_
 refine yA rfl rfl ?_
 refine yA rfl rfl ?_
 refine yN ?_
 dsimp only [St.put]
 refine K1 _ ?_
 refine yS fun _ K2 => ?_
 refine yS fun _ K3 => ?_
 refine yR ?_
 try dsimp only [St.put]
 refine aops_s rfl (s_load_agg' rfl rfl rfl) ?_
 try dsimp only [St.put]
 refine aops_e rfl (e_call_pure rfl rfl rfl (Text_pure t) ?_)
 refine aops_n rfl (n_not rfl rfl) ?_
 refine yN ?_
 dsimp only [St.put]
 refine K3 _ ?_
 refine aw_cond rfl (fun hc => ?_) (fun hc => ?_)
 ·have htx : textB t = false := by simpa using hc
  refine yS fun _ K4 => ?_
  refine yR ?_
  refine yA rfl rfl ?_
  refine yA rfl rfl ?_
  refine yN ?_
  dsimp only [St.put]
  refine K4 _ ?_
  refine aw_ret ?_
  refine ends_2 rfl (by constructor) (by constructor) zN zS ?_ ?_
  ·exact vs (by simp [atWord, placedEr, htx])
  exact vi (by simp [placedEr, htx])
 have htx : textB t = true := by simpa using hc
 refine aw_skip ?_
 refine K2 _ ?_
 refine yS fun _ K5 => ?_
 refine yS fun _ K6 => ?_
 refine yR ?_
 try dsimp only [St.put]
 refine aops_s rfl (s_load_agg' rfl rfl rfl) ?_
 refine yE rfl rfl rfl ?_
 try dsimp only [St.put]
 refine aops_e rfl (e_call_pure rfl rfl rfl (Place_pure t p htx) ?_)
 refine aops_n rfl (n_not rfl rfl) ?_
 refine yN ?_
 dsimp only [St.put]
 refine K6 _ ?_
 refine aw_cond rfl (fun hc => ?_) (fun hc => ?_)
 ·have hp : placeB t p = false := by simpa using hc
  refine yS fun _ K7 => ?_
  refine yR ?_
  refine yA rfl rfl ?_
  refine yA rfl rfl ?_
  refine yN ?_
  dsimp only [St.put]
  refine K7 _ ?_
  refine aw_ret ?_
  refine ends_2 rfl (by constructor) (by constructor) zN zS ?_ ?_
  ·exact vs (by simp [atWord, placedEr, htx, hp])
  exact vi (by simp [placedEr, htx, hp])
 have hp : placeB t p = true := by simpa using hc
 refine aw_skip ?_
 refine K5 _ ?_
 refine yS fun _ K8 => ?_
 refine yR ?_
 try dsimp only [St.put]
 refine aops_s rfl (s_load_agg' rfl rfl rfl) ?_
 refine yE rfl rfl rfl ?_
 try dsimp only [St.put]
 refine aops_e rfl (e_call_pure rfl rfl rfl (refWordAt_pure t p htx hp) ?_)
 refine yA rfl rfl ?_
 refine yA rfl rfl ?_
 refine yN ?_
 dsimp only [St.put]
 refine K8 _ ?_
 refine aw_ret ?_
 refine ends_2 rfl (by constructor) (by constructor) zN zS ?_ ?_
 ·exact vs (by simp [atWord, htx, hp]; rfl)
 exact vi (by simp [placedEr, htx, hp])
theorem refNumber_pure (t : TextD) (p : PlaceD) : Pure Try.prog 20 [textC t, val p] (.tup [.v (.int .i64 (numE t p)), .v (.int .i64 (placedEr t p))]) := by
 refine pure_of_body Try.func20 rfl (fun m => .tup (low_cons .v (low_cons .v low_nil))) fun G nx => ?_
 simp only [Try.ntmps20, List.length_cons, List.length_nil, Nat.reduceAdd, Nat.reduceSub]
 refine aw_lt fun hlt => ?_
 dsimp only at hlt
 refine yS fun _ K1 => ?_
 refine yR ?_
 try dsimp only [St.put]
 refine yB rfl rfl rfl ?_
 try dsimp only [St.put]
 refine yB rfl rfl rfl ?_
 refine yA rfl rfl ?_
 refine yA rfl rfl ?_
 refine yN ?_
 dsimp only [St.put]
 refine K1 _ ?_
 refine yS fun _ K2 => ?_
 refine yS fun _ K3 => ?_
 refine yR ?_
 try dsimp only [St.put]
 refine aops_s rfl (s_load_agg' rfl rfl rfl) ?_
 try dsimp only [St.put]
 refine aops_e rfl (e_call_pure rfl rfl rfl (Text_pure t) ?_)
 refine aops_n rfl (n_not rfl rfl) ?_
 refine yN ?_
 dsimp only [St.put]
 refine K3 _ ?_
 refine aw_cond rfl (fun hc => ?_) (fun hc => ?_)
 ·have htx : textB t = false := by simpa using hc
  refine yS fun _ K4 => ?_
  refine yR ?_
  refine yA rfl rfl ?_
  refine yA rfl rfl ?_
  refine yN ?_
  dsimp only [St.put]
  refine K4 _ ?_
  refine aw_ret ?_
  refine ends_2 rfl (by constructor) (by constructor) zN zS ?_ ?_
  ·exact vi (by simp [numE, placedEr, htx])
  exact vi (by simp [placedEr, htx])
 have htx : textB t = true := by simpa using hc
 refine aw_skip ?_
 refine K2 _ ?_
 refine yS fun _ K5 => ?_
 refine yS fun _ K6 => ?_
 refine yR ?_
 try dsimp only [St.put]
 refine aops_s rfl (s_load_agg' rfl rfl rfl) ?_
 refine yE rfl rfl rfl ?_
 try dsimp only [St.put]
 refine aops_e rfl (e_call_pure rfl rfl rfl (Place_pure t p htx) ?_)
 refine aops_n rfl (n_not rfl rfl) ?_
 refine yN ?_
 dsimp only [St.put]
 refine K6 _ ?_
 refine aw_cond rfl (fun hc => ?_) (fun hc => ?_)
 ·have hp : placeB t p = false := by simpa using hc
  refine yS fun _ K7 => ?_
  refine yR ?_
  refine yA rfl rfl ?_
  refine yA rfl rfl ?_
  refine yN ?_
  dsimp only [St.put]
  refine K7 _ ?_
  refine aw_ret ?_
  refine ends_2 rfl (by constructor) (by constructor) zN zS ?_ ?_
  ·exact vi (by simp [numE, placedEr, htx, hp])
  exact vi (by simp [placedEr, htx, hp])
 have hp : placeB t p = true := by simpa using hc
 have hE : placedEr t p = 0 := by simp [placedEr, htx, hp]
 have hal := allQ_len htx
 refine aw_skip ?_
 refine K5 _ ?_
 refine yS fun _ K8 => ?_
 refine yR ?_
 try dsimp only [St.put]
 refine aops_s rfl (s_load_agg' rfl rfl rfl) ?_
 try dsimp only [St.put]
 refine aops_e rfl (e_call_pure rfl rfl rfl (refAll_pure t htx) ?_)
 refine yA rfl rfl ?_
 refine yN ?_
 dsimp only [St.put]
 refine K8 _ ?_
 refine yS fun _ K9 => ?_
 refine yR ?_
 refine yA rfl rfl ?_
 refine yN ?_
 dsimp only [St.put]
 refine K9 _ ?_
 refine yS fun _ K10 => ?_
 refine aw_block ?_
 refine aw_wipe 8 ?_
 simp only [firsts, getA, Nat.reduceAdd, List.getD_cons_zero, List.getD_cons_succ, List.getD_nil, natBeq, Nat.reduceBEq, cond_true, cond_false]
 refine aw_forget (G) zX ?_
 dsimp only
 refine aw_loopD (X := Nat) (fun n => n ≤ (allQ t).length ∧ ∀ q ∈ (allQ t).take n, q ≠ p) (fun n => (allQ t).length - n) (fun n => [(7, .v (.int .i64 (n : Int)))]) (fun n G' => G') 0 rfl ?_ ?_ (fun _ _ h => h) ?_ ?_ ?_
 ·exact ⟨Nat.zero_le _, by simp⟩
 ·exact zF
 ·rintro n hI
  exact zL
 ·exact fun _ _ _ _ h => .inl h
 rintro n hI
 dsimp only at hI ⊢
 refine yS fun _ K11 => ?_
 refine aw_wipe 8 ?_
 simp only [firsts, getA, Nat.reduceAdd, List.getD_cons_zero, List.getD_cons_succ, List.getD_nil, natBeq, Nat.reduceBEq, cond_true, cond_false]
 refine aw_cutD (X := Bool) (fun b => (b = true → ∃ q, (allQ t)[n]? = some q ∧ q ≠ p) ∧ (b = false → n = (allQ t).length ∨ (allQ t)[n]? = some p)) (fun b => [(28, .v (.bool b))]) (fun b G' => G') rfl ?_ (fun _ _ _ _ h => .inl h) ?_ ?_
 ·rintro b hI
  exact zL
 ·refine aw_draw [(0, none), (1, none), (2, none), (3, none), (4, none), (5, none), (6, none), (7, none), (8, none), (9, none), (10, none), (11, none)] (fun i => [].contains i) (fun i => [].contains i) (fun i => [0, 1, 2, 3, 4, 5, 6, 7, 10, 11].contains i) [] (by kernel_rfl) (by kernel_rfl) ?_
  refine xM rfl rfl rfl rfl rfl ?_
  refine xM rfl rfl rfl rfl rfl ?_
  refine acan1_n rfl rfl rfl rfl (n_len' rfl rfl (List.length_map _)) ?_
  refine acan1_n rfl rfl rfl rfl (n_lss rfl rfl rfl) ?_
  refine xM rfl rfl rfl rfl rfl ?_
  refine acan1_split (fun hs => ?_) (fun hs => ?_)
  ·have h4 := of_decide_eq_true hs
   obtain ⟨q, hq⟩ : ∃ q, (allQ t)[n]? = some q := some_of_lt (by omega)
   refine xM rfl rfl rfl rfl rfl ?_
   refine xM rfl rfl rfl rfl rfl ?_
   try dsimp only [St.put]
   refine acan1_n rfl rfl rfl rfl (n_indexAddr rfl rfl rfl rfl (map_get (by assumption)) (Enc.len _)) ?_
   try dsimp only [St.put]
   refine acan1_s rfl rfl rfl rfl (s_load_agg' rfl rfl (Enc.len _)) ?_
   try dsimp only [St.put]
   refine acan1_s rfl rfl rfl rfl (s_load_agg' rfl rfl (Enc.len _)) ?_
   refine acan1_n rfl rfl rfl rfl (n_agg_neq (x := q) (y := p) rfl rfl rfl) ?_
   refine acan1_n rfl rfl rfl rfl (n_pt rfl rfl (by constructor)) ?_
   refine acan1_nil ?_
   dsimp only [St.put]
   refine ⟨_, ?_, ⟨⟨rfl, rfl⟩, zF, zB, zN, zX⟩⟩
   first
   | exact ⟨fun h => by (cases h), fun _ => .inl (by omega)⟩
   | (by_cases e : q = p
      ·subst e; exact ⟨fun h => by simp at h, fun _ => .inr hq⟩
      exact ⟨fun _ => ⟨q, hq, e⟩, fun h => by simp [e] at h⟩)
  have h4 := of_decide_eq_false hs
  refine acan1_skip rfl rfl rfl ?_
  refine acan1_skip rfl rfl rfl ?_
  refine acan1_skip rfl rfl rfl ?_
  refine acan1_skip rfl rfl rfl ?_
  refine acan1_skip rfl rfl rfl ?_
  refine acan1_skip rfl rfl rfl ?_
  refine acan1_n rfl rfl rfl rfl (n_pf rfl rfl (by constructor)) ?_
  refine acan1_nil ?_
  dsimp only [St.put]
  refine ⟨_, ?_, ⟨⟨rfl, rfl⟩, zF, zB, zN, zX⟩⟩
  first
  | exact ⟨fun h => by (cases h), fun _ => .inl (by omega)⟩
  | (by_cases e : q = p
     ·subst e; exact ⟨fun h => by simp at h, fun _ => .inr hq⟩
     exact ⟨fun _ => ⟨q, hq, e⟩, fun h => by simp [e] at h⟩)
 rintro b hst
 dsimp only at hst ⊢
 refine aw_cond rfl (fun hc => ?_) (fun hc => ?_)
 ·obtain ⟨q, hq, hqp⟩ := hst.1 hc
  have hql := (List.getElem?_eq_some_iff.1 hq).1
  refine aw_skip ?_
  refine K11 _ ?_
  refine aw_block ?_
  refine yR ?_
  refine yM rfl rfl ?_
  refine aops_n rfl (n_add rfl rfl rfl (by omega)) ?_
  refine yA rfl rfl ?_
  refine yN ?_
  dsimp only [St.put]
  exact ⟨n + 1, by omega, ⟨by omega, memt_step (p := fun q => q ≠ p) hq hqp hI.2⟩, ⟨⟨rfl, rfl⟩, zF, zB, zN, zX⟩⟩
 have hnp : numP t p = n := by
  rcases hst.2 hc with h | h
  ·exfalso
   have := allP_mem.2 hp
   rw [← allQ] at this
   exact hI.2 p (by rw [h, List.take_length]; exact this) rfl
  exact allQ_num h
 refine aw_exit ?_
 refine K10 _ ?_
 refine yS fun _ K13 => ?_
 refine yR ?_
 refine yM rfl rfl ?_
 refine yA rfl rfl ?_
 refine yA rfl rfl ?_
 refine yN ?_
 dsimp only [St.put]
 refine K13 _ ?_
 refine aw_ret ?_
 refine ends_2 rfl (by constructor) (by constructor) zN zS ?_ ?_
 ·exact vi (by simp [numE, hE, hnp])
 exact vi hE.symm
theorem refPlaceOf_pure (t : TextD) (n : Int) : Pure Try.prog 22 [textC t, .v (.int .i64 n)] (.tup [val (placeOfV t n), .v (.int .i64 (placeOfEr t n))]) := by
 refine pure_of_body Try.func22 rfl (fun m => .tup (low_cons (val_low _ _) (low_cons .v low_nil))) fun G nx => ?_
 simp only [Try.ntmps22, List.length_cons, List.length_nil, Nat.reduceAdd, Nat.reduceSub]
 refine aw_lt fun hlt => ?_
 dsimp only at hlt
 refine yS fun _ K1 => ?_
 refine yR ?_
 try dsimp only [St.put]
 refine yB rfl rfl rfl ?_
 try dsimp only [St.put]
 refine aops_e rfl (e_allocC rfl ?_)
 refine yA rfl rfl ?_
 refine yN ?_
 dsimp only [St.put]
 refine K1 _ ?_
 refine yS fun _ K2 => ?_
 refine yS fun _ K3 => ?_
 refine yR ?_
 try dsimp only [St.put]
 refine aops_s rfl (s_load_agg' rfl rfl rfl) ?_
 try dsimp only [St.put]
 refine aops_e rfl (e_call_pure rfl rfl rfl (Text_pure t) ?_)
 refine aops_n rfl (n_not rfl rfl) ?_
 refine yN ?_
 dsimp only [St.put]
 refine K3 _ ?_
 refine aw_cond rfl (fun hc => ?_) (fun hc => ?_)
 ·have htx : textB t = false := by simpa using hc
  refine yS fun _ K4 => ?_
  refine yR ?_
  refine aops_n rfl (n_build rfl rfl) ?_
  try dsimp only [St.put]
  refine aops_e rfl (e_store_all rfl rfl rfl zG rfl rfl (by rfl) ?_)
  refine yA rfl rfl ?_
  refine yN ?_
  dsimp only [St.put]
  refine K4 _ ?_
  refine aw_ret ?_
  refine ends_v2 rfl (rv_box rfl zG (by rfl) (by first | exact List.cons_ne_nil _ _ | (simp; done) | (simp [putAt]; done)) rfl) (rv_tmp (by constructor)) zN zS ?_ ?_
  ·rw [show placeOfV t n = ⟨0, 0, 0⟩ by simp [placeOfV, placeOfEr, htx]]
   exact zW
  exact Wk.of_eq (vi (by simp [placeOfEr, htx]))
 have htx : textB t = true := by simpa using hc
 have hal := allQ_len htx
 have hall : (allQ t).length = (allP t).length := by simp [allQ]
 refine aw_skip ?_
 refine K2 _ ?_
 refine yS fun _ K5 => ?_
 refine yR ?_
 try dsimp only [St.put]
 refine aops_s rfl (s_load_agg' rfl rfl rfl) ?_
 try dsimp only [St.put]
 refine aops_e rfl (e_call_pure rfl rfl rfl (refAll_pure t htx) ?_)
 refine yA rfl rfl ?_
 refine yN ?_
 dsimp only [St.put]
 refine K5 _ ?_
 refine yS fun _ K6 => ?_
 refine yS fun _ K7 => ?_
 refine yR ?_
 refine yM rfl rfl ?_
 refine yM rfl rfl ?_
 refine aops_n rfl (n_len' rfl rfl (List.length_map _)) ?_
 refine aops_n rfl (n_sub rfl rfl rfl (by omega)) ?_
 try dsimp only [St.put]
 refine aops_e rfl (e_call_pure rfl rfl rfl (within_pure _ _ _) ?_)
 refine aops_n rfl (n_not rfl rfl) ?_
 refine yN ?_
 dsimp only [St.put]
 refine K7 _ ?_
 refine aw_cond rfl (fun hc => ?_) (fun hc => ?_)
 ·have hin : inB n 0 (((allQ t).length : Int) - 1) = false := by simpa using hc
  rw [hall] at hin
  have hE : placeOfEr t n = 2 := by simp [placeOfEr, htx, hin]
  refine yS fun _ K8 => ?_
  refine yR ?_
  refine aops_n rfl (n_build rfl rfl) ?_
  try dsimp only [St.put]
  refine aops_e rfl (e_store_all rfl rfl rfl zG rfl rfl (by rfl) ?_)
  refine yA rfl rfl ?_
  refine yN ?_
  dsimp only [St.put]
  refine K8 _ ?_
  refine aw_ret ?_
  refine ends_v2 rfl (rv_box rfl zG (by rfl) (by first | exact List.cons_ne_nil _ _ | (simp; done) | (simp [putAt]; done)) rfl) (rv_tmp (by constructor)) zN zS ?_ ?_
  ·rw [show placeOfV t n = ⟨0, 0, 0⟩ by simp [placeOfV, hE]]
   exact zW
  exact Wk.of_eq (vi hE.symm)
 have hin : inB n 0 (((allQ t).length : Int) - 1) = true := by simpa using hc
 have hin2 := inB_true.1 hin
 rw [hall] at hin
 have hE : placeOfEr t n = 0 := by simp [placeOfEr, htx, hin]
 obtain ⟨x, hx⟩ : ∃ x, (allP t)[n.toNat]? = some x := some_of_lt (by omega)
 have hq := allQ_get hx
 have hnn : n = ((n.toNat : Nat) : Int) := by omega
 refine aw_skip ?_
 refine K6 _ ?_
 refine yS fun _ K9 => ?_
 refine yR ?_
 refine yM rfl rfl ?_
 refine yM rfl rfl ?_
 try dsimp only [St.put]
 refine aops_n rfl (n_indexAddr rfl rfl rfl (by omega) (map_get (by assumption)) (Enc.len _)) ?_
 refine yE rfl rfl rfl ?_
 try dsimp only [St.put]
 refine aops_e rfl (e_store_all rfl rfl rfl zG rfl rfl (by rfl) ?_)
 refine yA rfl rfl ?_
 refine yN ?_
 dsimp only [St.put]
 refine K9 _ ?_
 refine aw_ret ?_
 refine ends_v2 rfl (rv_box rfl zG (by rfl) (by first | exact List.cons_ne_nil _ _ | (simp; done) | (simp [putAt]; done)) rfl) (rv_tmp (by constructor)) zN zS ?_ ?_
 ·rw [show placeOfV t n = x.1 by simp [placeOfV, hE, plAt_some hx]]
  exact zW
 exact Wk.of_eq (vi hE.symm)
theorem refPlaces_pure (t : TextD) (s : ByteArray) : Pure Try.prog 24 [textC t, .v (.string s)] (.tup [lst (placesV t s), .v (.int .i64 (placesEr t s))]) := by
 refine pure_of_body Try.func24 rfl (fun m => .tup (low_cons (lst_low _ _) (low_cons .v low_nil))) fun G nx => ?_
 simp only [Try.ntmps24, List.length_cons, List.length_nil, Nat.reduceAdd, Nat.reduceSub]
 refine aw_lt fun hlt => ?_
 dsimp only at hlt
 refine yS fun _ K1 => ?_
 refine yR ?_
 try dsimp only [St.put]
 refine yB rfl rfl rfl ?_
 refine yA rfl rfl ?_
 refine yA rfl rfl ?_
 refine yN ?_
 dsimp only [St.put]
 refine K1 _ ?_
 refine yS fun _ K2 => ?_
 refine yS fun _ K3 => ?_
 refine yR ?_
 try dsimp only [St.put]
 refine aops_s rfl (s_load_agg' rfl rfl rfl) ?_
 try dsimp only [St.put]
 refine aops_e rfl (e_call_pure rfl rfl rfl (Text_pure t) ?_)
 refine aops_n rfl (n_not rfl rfl) ?_
 refine yN ?_
 dsimp only [St.put]
 refine K3 _ ?_
 refine aw_cond rfl (fun hc => ?_) (fun hc => ?_)
 ·have htx : textB t = false := by simpa using hc
  refine yS fun _ K4 => ?_
  refine yR ?_
  refine yA rfl rfl ?_
  refine yA rfl rfl ?_
  refine yN ?_
  dsimp only [St.put]
  refine K4 _ ?_
  refine aw_ret ?_
  refine ends_v2 rfl (rv_tmp (by constructor)) (rv_tmp (by constructor)) zN zS ?_ ?_
  ·rw [show placesV t s = [] by simp [placesV, placesEr, htx]]
   exact zW
  exact Wk.of_eq (vi (by simp [placesEr, htx]))
 have htx : textB t = true := by simpa using hc
 have hal := allQ_len htx
 have hall : (allQ t).length = (allP t).length := by simp [allQ]
 refine aw_skip ?_
 refine K2 _ ?_
 refine yS fun _ K5 => ?_
 refine yS fun _ K6 => ?_
 refine yR ?_
 refine yM rfl rfl ?_
 try dsimp only [St.put]
 refine aops_e rfl (e_call_pure rfl rfl rfl (Word_pure s) ?_)
 refine aops_n rfl (n_not rfl rfl) ?_
 refine yN ?_
 dsimp only [St.put]
 refine K6 _ ?_
 refine aw_cond rfl (fun hc => ?_) (fun hc => ?_)
 ·have hw : wordB s = false := by simpa using hc
  refine yS fun _ K7 => ?_
  refine yR ?_
  refine yA rfl rfl ?_
  refine yA rfl rfl ?_
  refine yN ?_
  dsimp only [St.put]
  refine K7 _ ?_
  refine aw_ret ?_
  refine ends_v2 rfl (rv_tmp (by constructor)) (rv_tmp (by constructor)) zN zS ?_ ?_
  ·rw [show placesV t s = [] by simp [placesV, placesEr, htx, hw]]
   exact zW
  exact Wk.of_eq (vi (by simp [placesEr, htx, hw]))
 have hw : wordB s = true := by simpa using hc
 refine aw_skip ?_
 refine K5 _ ?_
 refine yS fun _ K8 => ?_
 refine yR ?_
 refine yA rfl rfl ?_
 refine yN ?_
 dsimp only [St.put]
 refine K8 _ ?_
 refine aw_adopt 6 43 3 rfl (by decide) ?_
 dsimp only [List.set_cons_zero, List.set_cons_succ]
 refine yS fun _ K9 => ?_
 refine yR ?_
 try dsimp only [St.put]
 refine aops_s rfl (s_load_agg' rfl rfl rfl) ?_
 try dsimp only [St.put]
 refine aops_e rfl (e_call_pure rfl rfl rfl (refAll_pure t htx) ?_)
 refine yA rfl rfl ?_
 refine yN ?_
 dsimp only [St.put]
 refine K9 _ ?_
 refine yS fun _ K10 => ?_
 refine yS fun _ K11 => ?_
 refine yR ?_
 refine yA rfl rfl ?_
 refine yN ?_
 dsimp only [St.put]
 refine K11 _ ?_
 refine aw_block ?_
 refine aw_wipe 9 ?_
 simp only [firsts, getA, Nat.reduceAdd, List.getD_cons_zero, List.getD_cons_succ, List.getD_nil, natBeq, Nat.reduceBEq, cond_true, cond_false]
 refine aw_forget (setG G nx (.tip 0 43 3)) zX ?_
 dsimp only
 refine aw_loopD (X := Nat) (fun k => k ≤ (allQ t).length) (fun k => (allQ t).length - k) (fun k => [(6, .list ((placesL ((allP t).take k) s).map cells) (.tip nx)), (8, .v (.int .i64 (k : Int)))]) (fun k G' => (setG G nx (.tip ((placesL ((allP t).take k) s)).length 43 3))) 0 rfl ?_ ?_ ?_ ?_ ?_ ?_
 ·exact Nat.zero_le _
 ·exact zF
 ·exact zX
 ·rintro k hI
  exact zL
 ·rintro k hI
  exact zH
 rintro k hI
 dsimp only at hI ⊢
 refine yS fun _ K12 => ?_
 refine yS fun _ K13 => ?_
 refine yR ?_
 refine yM rfl rfl ?_
 refine yM rfl rfl ?_
 refine aops_n rfl (n_len' rfl rfl (List.length_map _)) ?_
 refine aops_n rfl (n_lss rfl rfl rfl) ?_
 refine yN ?_
 dsimp only [St.put]
 refine K13 _ ?_
 refine aw_cond rfl (fun hc => ?_) (fun hc => ?_)
 ·replace hc := of_decide_eq_true hc
  obtain ⟨x, hx⟩ : ∃ x, (allP t)[k]? = some x := some_of_lt (by omega)
  have hq := allQ_get hx
  obtain ⟨hpl, hwp⟩ := allP_at hx
  have hwc := refWordAt_pure t x.1 htx hpl
  rw [hwp] at hwc
  have hpl2 := placesL_len ((allP t).take k) s
  rw [List.length_take] at hpl2
  refine aw_skip ?_
  refine K12 _ ?_
  refine yS fun _ K14 => ?_
  refine aw_block ?_
  refine yS fun _ K15 => ?_
  refine aw_draw [(0, none), (1, none), (2, none), (3, none), (4, none), (6, none), (5, none), (7, none)] (fun i => [5].contains i) (fun i => [5].contains i) (fun i => [1, 2, 3, 6, 7].contains i) [] (by kernel_rfl) (by kernel_rfl) ?_
  try dsimp only [St.put]
  refine acan1_s rfl rfl rfl rfl (s_load_agg' rfl rfl rfl) ?_
  refine xM rfl rfl rfl rfl rfl ?_
  refine xM rfl rfl rfl rfl rfl ?_
  try dsimp only [St.put]
  refine acan1_n rfl rfl rfl rfl (n_indexAddr rfl rfl rfl rfl (map_get (by assumption)) (Enc.len _)) ?_
  try dsimp only [St.put]
  refine acan1_s rfl rfl rfl rfl (s_load_agg' rfl rfl (Enc.len _)) ?_
  refine xM rfl rfl rfl rfl rfl ?_
  refine acan1_two ?_
  try dsimp only [St.put]
  refine acan2_late rfl rfl rfl rfl (e_call_pure rfl rfl rfl (hwc) ?_)
  refine acan2_n rfl rfl rfl rfl (n_streq rfl rfl rfl) ?_
  refine acan2_nil ?_
  dsimp only [St.put]
  refine K15 _ ?_
  refine aw_cond rfl (fun hc => ?_) (fun hc => ?_)
  ·have hxs : x.2 = s := of_decide_eq_true hc
   refine yR ?_
   refine yM rfl rfl ?_
   refine yM rfl rfl ?_
   refine yM rfl rfl ?_
   refine aops_n rfl (n_indexAddr rfl rfl rfl rfl (map_get (by assumption)) (Enc.len _)) ?_
   refine yE rfl rfl rfl ?_
   try dsimp only [St.put]
   refine aops_e rfl (e_buildSlice rfl rfl rfl (by decide) (by decide) zR (by decide) ?_)
   try dsimp only [St.put]
   refine aops_e rfl (e_append ([x.1]) rfl rfl zG (by first | rfl | simp) rfl rfl zA ?_ zA)
   refine yA rfl rfl ?_
   refine yN ?_
   dsimp only [St.put]
   refine K14 _ ?_
   refine yR ?_
   refine yM rfl rfl ?_
   refine aops_n rfl (n_add rfl rfl rfl (by omega)) ?_
   refine yA rfl rfl ?_
   refine yN ?_
   dsimp only [St.put]
   have e2 := placesL_step s hx
   first
   | (rw [if_pos hxs] at e2; rw [← e2]; exact ⟨k + 1, by omega, by omega, ⟨⟨rfl, rfl⟩, zF, zB, zN, zX⟩⟩)
   | (rw [if_neg hxs, List.append_nil] at e2; rw [← e2]; exact ⟨k + 1, by omega, by omega, ⟨⟨rfl, rfl⟩, zF, zB, zN, zX⟩⟩)
  have hxs : ¬ x.2 = s := of_decide_eq_false hc
  refine aw_skip ?_
  refine K14 _ ?_
  refine yR ?_
  refine yM rfl rfl ?_
  refine aops_n rfl (n_add rfl rfl rfl (by omega)) ?_
  refine yA rfl rfl ?_
  refine yN ?_
  dsimp only [St.put]
  have e2 := placesL_step s hx
  first
  | (rw [if_pos hxs] at e2; rw [← e2]; exact ⟨k + 1, by omega, by omega, ⟨⟨rfl, rfl⟩, zF, zB, zN, zX⟩⟩)
  | (rw [if_neg hxs, List.append_nil] at e2; rw [← e2]; exact ⟨k + 1, by omega, by omega, ⟨⟨rfl, rfl⟩, zF, zB, zN, zX⟩⟩)
 replace hc := of_decide_eq_false hc
 refine aw_exit ?_
 refine K10 _ ?_
 refine yS fun _ K16 => ?_
 refine yR ?_
 refine yM rfl rfl ?_
 refine yA rfl rfl ?_
 refine yA rfl rfl ?_
 refine yN ?_
 dsimp only [St.put]
 rw [take_all (show (allP t).length ≤ k by omega)]
 refine K16 _ ?_
 refine aw_ret ?_
 refine ends_v2 rfl (rv_tmp (by constructor)) (rv_tmp (by constructor)) zN zS ?_ ?_
 ·rw [show placesV t s = placesL (allP t) s by simp [placesV, placesEr, htx, hw]]
  exact zW
 exact Wk.of_eq (vi (by simp [placesEr, htx, hw]))
set_option maxHeartbeats 1000000 in
theorem refVocabulary_pure (t : TextD) : Pure Try.prog 26 [textC t] (.tup [lst (vocV t), .v (.int .i64 (textEr t))]) := by
 refine pure_of_body Try.func26 rfl (fun m => .tup (low_cons (lst_low _ _) (low_cons .v low_nil))) fun G nx => ?_
 simp only [Try.ntmps26, List.length_cons, List.length_nil, Nat.reduceAdd, Nat.reduceSub]
 refine aw_lt fun hlt => ?_
 dsimp only at hlt
 refine yS fun _ K1 => ?_
 refine yR ?_
 try dsimp only [St.put]
 refine yB rfl rfl rfl ?_
 refine yA rfl rfl ?_
 refine yA rfl rfl ?_
 refine yN ?_
 dsimp only [St.put]
 refine K1 _ ?_
 refine yS fun _ K2 => ?_
 refine yS fun _ K3 => ?_
 refine yR ?_
 try dsimp only [St.put]
 refine aops_s rfl (s_load_agg' rfl rfl rfl) ?_
 try dsimp only [St.put]
 refine aops_e rfl (e_call_pure rfl rfl rfl (Text_pure t) ?_)
 refine aops_n rfl (n_not rfl rfl) ?_
 refine yN ?_
 dsimp only [St.put]
 refine K3 _ ?_
 refine aw_cond rfl (fun hc => ?_) (fun hc => ?_)
 ·have htx : textB t = false := by simpa using hc
  refine yS fun _ K4 => ?_
  refine yR ?_
  refine yA rfl rfl ?_
  refine yA rfl rfl ?_
  refine yN ?_
  dsimp only [St.put]
  refine K4 _ ?_
  refine aw_ret ?_
  refine ends_v2 rfl (rv_tmp (by constructor)) (rv_tmp (by constructor)) zN zS ?_ ?_
  ·rw [show vocV t = [] by simp [vocV, htx]]
   exact zW
  exact Wk.of_eq (vi (by simp [textEr, htx]))
 have htx : textB t = true := by simpa using hc
 have hal := allQ_len htx
 have hall : (allQ t).length = (allP t).length := by simp [allQ]
 refine aw_skip ?_
 refine K2 _ ?_
 refine yS fun _ K5 => ?_
 refine yR ?_
 refine yA rfl rfl ?_
 refine yN ?_
 dsimp only [St.put]
 refine K5 _ ?_
 refine aw_adopt_own 4 9 1 rfl (by decide) ?_
 dsimp only
 refine yS fun _ K6 => ?_
 refine yR ?_
 try dsimp only [St.put]
 refine aops_s rfl (s_load_agg' rfl rfl rfl) ?_
 try dsimp only [St.put]
 refine aops_e rfl (e_call_pure rfl rfl rfl (refAll_pure t htx) ?_)
 refine yA rfl rfl ?_
 refine yN ?_
 dsimp only [St.put]
 refine K6 _ ?_
 refine yS fun _ K7 => ?_
 refine yS fun _ K8 => ?_
 refine yR ?_
 refine yA rfl rfl ?_
 refine yN ?_
 dsimp only [St.put]
 refine K8 _ ?_
 refine aw_block ?_
 refine aw_wipe 10 ?_
 simp only [firsts, getA, Nat.reduceAdd, List.getD_cons_zero, List.getD_cons_succ, List.getD_nil, natBeq, Nat.reduceBEq, cond_true, cond_false]
 refine aw_forget (setG G nx (.arr 0 0 9 1 0 [])) zX ?_
 dsimp only
 refine aw_loopD (X := Nat × Nat) (fun x => x.1 ≤ (allQ t).length) (fun x => (allQ t).length - x.1) (fun x => [(4, .own nx (vocL (((allP t).take x.1).map (·.2))).length (vocL (((allP t).take x.1).map (·.2))).length), (6, .v (.int .i64 (x.1 : Int))), (7, .any), (8, .any), (9, .any)]) (fun x G' => (setG G nx (.arr (vocL (((allP t).take x.1).map (·.2))).length x.2 9 1 (vocL (((allP t).take x.1).map (·.2))).length (flatC (vocL (((allP t).take x.1).map (·.2))))))) (0, 0) rfl ?_ ?_ ?_ ?_ ?_ ?_
 ·exact Nat.zero_le _
 ·exact zF
 ·exact zX
 ·rintro ⟨k, wv⟩ hI
  exact zL
 ·rintro ⟨k, wv⟩ hI
  exact zH
 rintro ⟨k, wv⟩ hI
 dsimp only at hI ⊢
 obtain ⟨out, hout⟩ : ∃ out, (vocL (((allP t).take k).map (·.2))) = out := ⟨_, rfl⟩
 rw [hout]
 have hol : out.length ≤ 600 := by
  have := vocL_len (((allP t).take k).map (·.2))
  rw [hout, List.length_map, List.length_take] at this
  omega
 refine yS fun _ K9 => ?_
 refine yS fun _ K10 => ?_
 refine yR ?_
 refine yM rfl rfl ?_
 refine yM rfl rfl ?_
 refine aops_n rfl (n_len' rfl rfl (List.length_map _)) ?_
 refine aops_n rfl (n_lss rfl rfl rfl) ?_
 refine yN ?_
 dsimp only [St.put]
 refine K10 _ ?_
 refine aw_cond rfl (fun hc => ?_) (fun hc => ?_)
 ·replace hc := of_decide_eq_true hc
  obtain ⟨x, hx⟩ : ∃ x, (allP t)[k]? = some x := some_of_lt (by omega)
  have hq := allQ_get hx
  obtain ⟨hpl, hwp⟩ := allP_at hx
  have hwc := refWordAt_pure t x.1 htx hpl
  rw [hwp] at hwc
  obtain ⟨w, hw⟩ : ∃ w, x.2 = w := ⟨_, rfl⟩
  rw [hw] at hwc
  refine aw_skip ?_
  refine K9 _ ?_
  refine yS fun _ K11 => ?_
  refine aw_block ?_
  refine yS fun _ K12 => ?_
  refine aw_draw [(0, none), (1, none), (2, none), (3, none), (4, none), (5, none), (6, none)] (fun i => [5].contains i) (fun i => [5].contains i) (fun i => [1, 2, 3, 6].contains i) [] (by kernel_rfl) (by kernel_rfl) ?_
  try dsimp only [St.put]
  refine acan1_s rfl rfl rfl rfl (s_load_agg' rfl rfl rfl) ?_
  refine xM rfl rfl rfl rfl rfl ?_
  refine xM rfl rfl rfl rfl rfl ?_
  try dsimp only [St.put]
  refine acan1_n rfl rfl rfl rfl (n_indexAddr rfl rfl rfl rfl (map_get (by assumption)) (Enc.len _)) ?_
  try dsimp only [St.put]
  refine acan1_s rfl rfl rfl rfl (s_load_agg' rfl rfl (Enc.len _)) ?_
  refine acan1_two ?_
  try dsimp only [St.put]
  refine acan2_late rfl rfl rfl rfl (e_call_pure rfl rfl rfl (hwc) ?_)
  refine acan2_n rfl rfl rfl rfl (n_as rfl (by constructor)) ?_
  refine acan2_nil ?_
  dsimp only [St.put]
  refine K12 _ ?_
  refine yS fun _ K13 => ?_
  refine yR ?_
  refine yA rfl rfl ?_
  refine yN ?_
  dsimp only [St.put]
  refine K13 _ ?_
  refine yS fun _ K14 => ?_
  refine aw_block ?_
  refine aw_wipe 10 ?_
  simp only [firsts, getA, Nat.reduceAdd, List.getD_cons_zero, List.getD_cons_succ, List.getD_nil, natBeq, Nat.reduceBEq, cond_true, cond_false]
  refine aw_forget ((setG G nx (.arr out.length wv 9 1 out.length (flatC out)))) zX ?_
  dsimp only
  refine aw_loopD (X := Nat) (fun j => j ≤ out.length ∧ ∀ y ∈ out.take j, sLess y w = true) (fun j => out.length - j) (fun j => [(8, .v (.int .i64 (j : Int))), (9, .any)]) (fun j G' => (setG G nx (.arr out.length wv 9 1 out.length (flatC out)))) 0 rfl ?_ ?_ ?_ ?_ ?_ ?_
  ·exact ⟨Nat.zero_le _, by simp⟩
  ·exact zF
  ·exact zX
  ·rintro j hI
   exact zL
  ·rintro j hI
   exact zH
  rintro j hJ
  dsimp only at hJ ⊢
  refine yS fun _ K15 => ?_
  refine aw_wipe 10 ?_
  simp only [firsts, getA, Nat.reduceAdd, List.getD_cons_zero, List.getD_cons_succ, List.getD_nil, natBeq, Nat.reduceBEq, cond_true, cond_false]
  refine aw_cutD (X := Bool) (fun b => (b = true → ∃ y, out[j]? = some y ∧ sLess y w = true) ∧ (b = false → ∀ y, out[j]? = some y → ¬ sLess y w = true)) (fun b => [(38, .v (.bool b))]) (fun b G' => G') rfl ?_ (fun _ _ _ _ h => .inl h) ?_ ?_
  ·rintro b hI
   exact zL
  ·refine yR ?_
   refine yM rfl rfl ?_
   refine yM rfl rfl ?_
   refine aops_n rfl (n_len_own rfl rfl) ?_
   refine aops_n rfl (n_lss rfl rfl rfl) ?_
   refine yM rfl rfl ?_
   refine aops_split (fun hs => ?_) (fun hs => ?_)
   ·have h4 := of_decide_eq_true hs
    obtain ⟨y, hy⟩ : ∃ y, out[j]? = some y := some_of_lt (by omega)
    refine yM rfl rfl ?_
    refine yM rfl rfl ?_
    try dsimp only [St.put]
    refine aops_n rfl (n_indexAddr_own (k := j) rfl rfl zG rfl (by first | exact rfl | omega) (by first | omega | (simp; omega))) ?_
    try dsimp only [St.put]
    refine aops_s rfl (s_load_own rfl rfl zG trivial (flat_at hy)) ?_
    refine yM rfl rfl ?_
    refine aops_n rfl (n_strlt rfl rfl rfl) ?_
    refine aops_n rfl (n_pt rfl rfl (by constructor)) ?_
    refine yN ?_
    dsimp only [St.put]
    refine ⟨_, ?_, ⟨⟨rfl, rfl⟩, zF, zB, zN, zX⟩⟩
    first
    | exact ⟨fun h => by (cases h), fun _ y hy => by (have := (List.getElem?_eq_some_iff.1 hy).1; omega)⟩
    | exact ⟨fun h => ⟨y, hy, h⟩, fun h z hz => by rw [hy] at hz; cases hz; simp [h]⟩
   have h4 := of_decide_eq_false hs
   refine yK rfl ?_
   refine yK rfl ?_
   refine yK rfl ?_
   refine yK rfl ?_
   refine yK rfl ?_
   refine yK rfl ?_
   refine aops_n rfl (n_pf rfl rfl (by constructor)) ?_
   refine yN ?_
   dsimp only [St.put]
   refine ⟨_, ?_, ⟨⟨rfl, rfl⟩, zF, zB, zN, zX⟩⟩
   first
   | exact ⟨fun h => by (cases h), fun _ y hy => by (have := (List.getElem?_eq_some_iff.1 hy).1; omega)⟩
   | exact ⟨fun h => ⟨y, hy, h⟩, fun h z hz => by rw [hy] at hz; cases hz; simp [h]⟩
  rintro b hst
  dsimp only at hst ⊢
  refine aw_cond rfl (fun hc => ?_) (fun hc => ?_)
  ·obtain ⟨y, hy, hyl⟩ := hst.1 hc
   have hjl := (List.getElem?_eq_some_iff.1 hy).1
   refine aw_skip ?_
   refine K15 _ ?_
   refine aw_block ?_
   refine yR ?_
   refine yM rfl rfl ?_
   refine aops_n rfl (n_add rfl rfl rfl (by omega)) ?_
   refine yA rfl rfl ?_
   refine yN ?_
   dsimp only [St.put]
   exact ⟨j + 1, by omega, ⟨by omega, memt_step (p := fun y => sLess y w = true) hy hyl hJ.2⟩, ⟨⟨rfl, rfl⟩, zF, zB, zN, zX⟩⟩
  have hins := vocIns_at hJ.1 hJ.2 (hst.2 hc)
  rw [← hw] at hins
  refine aw_exit ?_
  refine K14 _ ?_
  refine aw_wipe 10 ?_
  simp only [firsts, getA, Nat.reduceAdd, List.getD_cons_zero, List.getD_cons_succ, List.getD_nil, natBeq, Nat.reduceBEq, cond_true, cond_false]
  refine aw_cutD (X := Bool) (fun b => (b = true → ¬ out[j]? = some x.2) ∧ (b = false → out[j]? = some x.2)) (fun b => [(52, .v (.bool b))]) (fun b G' => G') rfl ?_ (fun _ _ _ _ h => .inl h) ?_ ?_
  ·rintro b hI
   exact zL
  ·refine yR ?_
   refine yM rfl rfl ?_
   refine yM rfl rfl ?_
   refine aops_n rfl (n_len_own rfl rfl) ?_
   refine aops_n rfl (n_eql rfl rfl rfl) ?_
   refine yM rfl rfl ?_
   refine aops_split (fun hs => ?_) (fun hs => ?_)
   ·have h4 := of_decide_eq_true hs
    refine yK rfl ?_
    refine yK rfl ?_
    refine yK rfl ?_
    refine yK rfl ?_
    refine yK rfl ?_
    refine yK rfl ?_
    refine aops_n rfl (n_pt rfl rfl (by constructor)) ?_
    refine yN ?_
    dsimp only [St.put]
    refine ⟨_, ?_, ⟨⟨rfl, rfl⟩, zF, zB, zN, zX⟩⟩
    first
    | exact ⟨fun _ e => by (have := (List.getElem?_eq_some_iff.1 e).1; omega), fun h => by (cases h)⟩
    | (by_cases e : y = w
       ·subst e; exact ⟨fun h => by simp at h, fun _ => by rw [hw]; exact hy⟩
       exact ⟨fun _ h => e (by rw [hw, hy] at h; exact Option.some.inj h), fun h => by simp [e] at h⟩)
   have h4 := of_decide_eq_false hs
   obtain ⟨y, hy⟩ : ∃ y, out[j]? = some y := some_of_lt (by omega)
   refine yM rfl rfl ?_
   refine yM rfl rfl ?_
   try dsimp only [St.put]
   refine aops_n rfl (n_indexAddr_own (k := j) rfl rfl zG rfl (by first | exact rfl | omega) (by first | omega | (simp; omega))) ?_
   try dsimp only [St.put]
   refine aops_s rfl (s_load_own rfl rfl zG trivial (flat_at hy)) ?_
   refine yM rfl rfl ?_
   refine aops_n rfl (n_strne rfl rfl rfl) ?_
   refine aops_n rfl (n_pf rfl rfl (by constructor)) ?_
   refine yN ?_
   dsimp only [St.put]
   refine ⟨_, ?_, ⟨⟨rfl, rfl⟩, zF, zB, zN, zX⟩⟩
   first
   | exact ⟨fun _ e => by (have := (List.getElem?_eq_some_iff.1 e).1; omega), fun h => by (cases h)⟩
   | (by_cases e : y = w
      ·subst e; exact ⟨fun h => by simp at h, fun _ => by rw [hw]; exact hy⟩
      exact ⟨fun _ h => e (by rw [hw, hy] at h; exact Option.some.inj h), fun h => by simp [e] at h⟩)
  rintro b hst2
  dsimp only at hst2 ⊢
  refine aw_cond rfl (fun hc => ?_) (fun hc => ?_)
  ·have hno := hst2.1 hc
   refine yS fun _ K18 => ?_
   refine yR ?_
   refine yM rfl rfl ?_
   try dsimp only [St.put]
   refine aops_e rfl (e_buildSlice rfl rfl rfl (by decide) (by decide) zR (by decide) ?_)
   try dsimp only [St.put]
   refine aops_e rfl (e_append_own (⟨#[]⟩ : ByteArray) rfl rfl zG rfl rfl rfl rfl zA ?_ zA)
   refine yA rfl rfl ?_
   refine yN ?_
   dsimp only [St.put]
   rw [hole_end out ⟨#[]⟩, hole_len (Nat.le_refl _)]
   refine K18 _ ?_
   refine yS fun _ K19 => ?_
   refine yS fun _ K20 => ?_
   refine yR ?_
   refine yM rfl rfl ?_
   refine aops_n rfl (n_len_own rfl rfl) ?_
   refine aops_n rfl (n_sub rfl rfl rfl (by omega)) ?_
   refine yA rfl rfl ?_
   refine yN ?_
   dsimp only [St.put]
   refine K20 _ ?_
   refine aw_block ?_
   refine aw_wipe 10 ?_
   simp only [firsts, getA, Nat.reduceAdd, List.getD_cons_zero, List.getD_cons_succ, List.getD_nil, natBeq, Nat.reduceBEq, cond_true, cond_false]
   refine aw_forget (setG G nx (.arr (out.length + 1) wv 9 1 (out.length + 1) (flatC (out.take out.length ++ (⟨#[]⟩ : ByteArray) :: out.drop out.length)))) zX ?_
   dsimp only
   refine aw_loopD (X := Nat × ByteArray × Nat) (fun x => j ≤ x.1 ∧ x.1 ≤ out.length) (fun x => x.1) (fun x => [(9, .v (.int .i64 (x.1 : Int)))]) (fun x G' => setG G nx (.arr (out.length + 1) x.2.2 9 1 (out.length + 1) (flatC (out.take x.1 ++ x.2.1 :: out.drop x.1)))) (out.length, ⟨#[]⟩, wv) rfl ?_ ?_ ?_ ?_ ?_ ?_
   ·exact ⟨hJ.1, Nat.le_refl _⟩
   ·exact zF
   ·exact zX
   ·rintro ⟨kk, s, v2⟩ hI
    exact zL
   ·rintro ⟨kk, s, v2⟩ hI
    exact zH
   rintro ⟨kk, s, v2⟩ hK
   dsimp only at hK ⊢
   refine yS fun _ K21 => ?_
   refine yS fun _ K22 => ?_
   refine yR ?_
   refine yM rfl rfl ?_
   refine yM rfl rfl ?_
   refine aops_n rfl (n_gtr rfl rfl rfl) ?_
   refine yN ?_
   dsimp only [St.put]
   refine K22 _ ?_
   refine aw_cond rfl (fun hc => ?_) (fun hc => ?_)
   ·replace hc := of_decide_eq_true hc
    obtain ⟨mm, rfl⟩ : ∃ mm, kk = mm + 1 := ⟨kk - 1, by omega⟩
    obtain ⟨y, hy⟩ : ∃ y, out[mm]? = some y := some_of_lt (by omega)
    have hset := hole_step (s := s) hy
    have hzz := hole_at (s := s) (show mm + 1 ≤ out.length by omega)
    refine aw_skip ?_
    refine K21 _ ?_
    refine yS fun _ K23 => ?_
    refine aw_block ?_
    refine yR ?_
    refine yM rfl rfl ?_
    refine yM rfl rfl ?_
    refine yM rfl rfl ?_
    refine yM rfl rfl ?_
    refine aops_n rfl (n_sub rfl rfl rfl (by omega)) ?_
    try dsimp only [St.put]
    refine aops_n rfl (n_indexAddr_own (k := mm) rfl rfl zG rfl (by first | exact rfl | omega) (by first | omega | (simp; omega))) ?_
    try dsimp only [St.put]
    refine aops_s rfl (s_load_own rfl rfl zG trivial (flat_at (hole_get hy))) ?_
    try dsimp only [St.put]
    refine aops_n rfl (n_indexAddr_own (k := (mm + 1)) rfl rfl zG rfl (by first | exact rfl | omega) (by first | omega | (simp; omega))) ?_
    try dsimp only [St.put]
    refine aops_e rfl (e_store_own1 (k := mm + 1) (j := 0) (z := s) (z' := y) rfl rfl rfl zG rfl rfl hzz rfl (by decide) rfl ?_)
    rw [hset]
    refine yN ?_
    dsimp only [St.put]
    refine K23 _ ?_
    refine yR ?_
    refine yM rfl rfl ?_
    refine aops_n rfl (n_sub rfl rfl rfl (by omega)) ?_
    refine yA rfl rfl ?_
    refine yN ?_
    dsimp only [St.put]
    exact ⟨(mm, y, v2 + 1), by (dsimp only; omega), by (dsimp only; omega), ⟨⟨rfl, rfl⟩, zF, zB, zN, zX⟩⟩
   replace hc := of_decide_eq_false hc
   obtain rfl : kk = j := by omega
   have hzz := hole_at (s := s) hJ.1
   have hset := hole_last (s := s) (w := w) hJ.1
   refine aw_exit ?_
   refine K19 _ ?_
   refine yR ?_
   refine yM rfl rfl ?_
   refine yM rfl rfl ?_
   refine yM rfl rfl ?_
   try dsimp only [St.put]
   refine aops_n rfl (n_indexAddr_own (k := kk) rfl rfl zG rfl (by first | exact rfl | omega) (by first | omega | (simp; omega))) ?_
   try dsimp only [St.put]
   refine aops_e rfl (e_store_own1 (k := kk) (j := 0) (z := s) (z' := w) rfl rfl rfl zG rfl rfl hzz rfl (by decide) rfl ?_)
   rw [hset]
   refine yN ?_
   dsimp only [St.put]
   refine K11 _ ?_
   refine yR ?_
   refine yM rfl rfl ?_
   refine aops_n rfl (n_add rfl rfl rfl (by omega)) ?_
   refine yA rfl rfl ?_
   refine yN ?_
   dsimp only [St.put]
   have e2 := vocL_step hx
   rw [hout] at e2
   first
   | (rw [hins, if_neg hno, hw] at e2
      have e3 : out.length + 1 = (vocL (((allP t).take ((k + 1))).map (·.2))).length := by rw [e2, hole_len (by omega)]
      rw [← e2, e3]
      exact ⟨(k + 1, v2 + 1), by (dsimp only; omega), by (dsimp only; omega), ⟨⟨rfl, rfl⟩, zF, zB, zN, zX⟩⟩)
   | (rw [hins, if_pos hyes] at e2
      rw [← e2]
      exact ⟨(k + 1, wv), by (dsimp only; omega), by (dsimp only; omega), ⟨⟨rfl, rfl⟩, zF, zB, zN, zX⟩⟩)
  have hyes := hst2.2 hc
  refine aw_skip ?_
  refine K11 _ ?_
  refine yR ?_
  refine yM rfl rfl ?_
  refine aops_n rfl (n_add rfl rfl rfl (by omega)) ?_
  refine yA rfl rfl ?_
  refine yN ?_
  dsimp only [St.put]
  have e2 := vocL_step hx
  rw [hout] at e2
  first
  | (rw [hins, if_neg hno, hw] at e2
     have e3 : out.length + 1 = (vocL (((allP t).take ((k + 1))).map (·.2))).length := by rw [e2, hole_len (by omega)]
     rw [← e2, e3]
     exact ⟨(k + 1, v2 + 1), by (dsimp only; omega), by (dsimp only; omega), ⟨⟨rfl, rfl⟩, zF, zB, zN, zX⟩⟩)
  | (rw [hins, if_pos hyes] at e2
     rw [← e2]
     exact ⟨(k + 1, wv), by (dsimp only; omega), by (dsimp only; omega), ⟨⟨rfl, rfl⟩, zF, zB, zN, zX⟩⟩)
 replace hc := of_decide_eq_false hc
 have hfin : (vocL (((allP t).take k).map (·.2))) = vocV t := by rw [take_all (show (allP t).length ≤ k by omega)]; simp [vocV, htx, wordsT]
 rw [← hout, hfin]
 refine aw_exit ?_
 refine K7 _ ?_
 refine yS fun _ K24 => ?_
 refine yR ?_
 refine yM rfl rfl ?_
 refine yA rfl rfl ?_
 refine yA rfl rfl ?_
 refine yN ?_
 dsimp only [St.put]
 refine K24 _ ?_
 refine aw_commit_own 2 (vocV t) rfl zG rfl rfl rfl ?_
 dsimp only
 refine aw_ret ?_
 refine ends_v2 rfl (rv_tmp (by constructor)) (rv_tmp (by constructor)) zN zS ?_ ?_
 ·rw [show vocV t = vocL (wordsT t) by simp [vocV, htx]]
  exact zW
 exact Wk.of_eq (vi (by simp [textEr, htx]))
end Go.Proofs.Ytejhjijbgceklaa
